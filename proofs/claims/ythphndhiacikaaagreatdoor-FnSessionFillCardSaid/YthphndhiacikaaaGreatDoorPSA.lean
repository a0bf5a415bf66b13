/- Contracts of functions of the program vectorraster, each proved for all states that fit its description. No conditions. -/
import Derived.Test.YthphndhiacikaaaGreatDoorPSV
import Derived.Test.YthphndhiacikaaaGreatDoorT3Z7
import Derived.Test.YthphndhiacikaaaGreatDoorPS
import Derived.Test.YthphndhiacikaaaGreatDoorPTF
import Derived.Test.YthphndhiacikaaaGreatDoorPR
import Derived.Test.YthphndhiacikaaaGreatDoorPL
import Derived.Test.YthphndhiacikaaaGreatDoorPQ
import Derived.Test.YthphndhiacikaaaGreatDoorPT
import Derived.Test.YthphndhiacikaaaGreatDoorT3Z5
import Derived.Lib.AtoiAllCases
set_option linter.unusedSimpArgs false
set_option linter.unusedVariables false
set_option maxRecDepth 100000
namespace Go.Proofs.YthphndhiacikaaaGreatDoor
open Go Go.VE
/-! Sessions, without any program. -/
structure SzL (n : Nat) (l : List ByteArray) : Prop where
  h : ∀ x ∈ l, x.size ≤ n
theorem SzL.snoc {n : Nat} {l : List ByteArray} {x : ByteArray} (h : SzL n l) (hx : x.size ≤ n) : SzL n (l ++ [x]) := ⟨fun y hy => by
  rcases List.mem_append.1 hy with hy | hy
  · exact h.h y hy
  · rw [List.mem_singleton] at hy; subst hy; exact hx⟩
theorem SzL.app {n : Nat} {l m : List ByteArray} (h : SzL n l) (k : SzL n m) : SzL n (l ++ m) := ⟨fun y hy => (List.mem_append.1 hy).elim (h.h y) (k.h y)⟩
theorem SzL.take {n : Nat} {l : List ByteArray} (h : SzL n l) (k : Nat) : SzL n (l.take k) := ⟨fun y hy => h.h y (List.mem_of_mem_take hy)⟩
theorem SzL.mono {n m : Nat} {l : List ByteArray} (h : SzL n l) (k : n ≤ m) : SzL m l := ⟨fun y hy => Nat.le_trans (h.h y hy) k⟩
theorem SzL.set {n : Nat} {l : List ByteArray} {x : ByteArray} (h : SzL n l) (k : Nat) (hx : x.size ≤ n) : SzL n (l.set k x) := ⟨fun y hy => by
  rcases List.mem_or_eq_of_mem_set hy with hy | hy
  · exact h.h y hy
  · subst hy; exact hx⟩
theorem SzL.at {n : Nat} {l : List ByteArray} {x : ByteArray} {k : Nat} (h : SzL n l) (hk : l[k]? = some x) : x.size ≤ n := h.h x (List.mem_of_getElem? hk)
theorem SzL.lit {n : Nat} {l : List ByteArray} (h : (l.all fun y => decide (y.size ≤ n)) = true) : SzL n l := ⟨fun y hy => by simpa using List.all_eq_true.1 h y hy⟩
def flOf (t : Ses) (p : List Verb) : Fil := ⟨p, t.l, ⟨⟨0, 0⟩, ⟨0, 0⟩, [⟨0, t.c⟩]⟩⟩
def addF (t : Ses) (p : List Verb) : Scn := ⟨t.s.w, t.s.h, t.s.fs ++ [flOf t p]⟩
def fillOk (t : Ses) (x : ByteArray) : Bool := (pp (tx x)).isSome && vScn (addF t ((pp (tx x)).getD []))
def fillT (t : Ses) (x : ByteArray) : Ses := if fillOk t x = true then ⟨addF t ((pp (tx x)).getD []), t.c, t.l⟩ else t
def orB (b : Bool) : ByteArray := if b = true then ⟨#[111, 107]⟩ else ⟨#[110, 111]⟩
def colOk (r g b a : Int) : Bool := decide (0 ≤ r ∧ r ≤ 255) && (decide (0 ≤ g ∧ g ≤ 255) && (decide (0 ≤ b ∧ b ≤ 255) && decide (0 ≤ a ∧ a ≤ 255)))
theorem colOk_iff {r g b a : Int} : colOk r g b a = true ↔ (0 ≤ r ∧ r ≤ 255) ∧ (0 ≤ g ∧ g ≤ 255) ∧ (0 ≤ b ∧ b ≤ 255) ∧ 0 ≤ a ∧ a ≤ 255 := by simp only [colOk, Bool.and_eq_true, decide_eq_true_eq]
def openT (t : Ses) (w h : Int) : ByteArray × Ses := if szd w h = true then (⟨#[111, 107]⟩, ⟨⟨w, h, []⟩, t.c, t.l⟩) else (⟨#[110, 111]⟩, t)
def colT (t : Ses) (r g b a : Int) : ByteArray × Ses := if colOk r g b a = true then (⟨#[111, 107]⟩, ⟨t.s, plainC r g b a, t.l⟩) else (⟨#[110, 111]⟩, t)
def colS (c : Colr) : ByteArray := mkB (Lib.itoa c.r) ++ ⟨#[32]⟩ ++ mkB (Lib.itoa c.g) ++ ⟨#[32]⟩ ++ mkB (Lib.itoa c.b) ++ ⟨#[32]⟩ ++ mkB (Lib.itoa c.a)
def showS (t : Ses) (c w : Int) : ByteArray := if okPix t.s c w = true then colS (pixF t.s.fs c w) else ⟨#[110, 111]⟩
def hitS (t : Ses) (x y : Int) : ByteArray := if topF t.s ⟨x, y⟩ < 0 then ⟨#[110, 111, 110, 101]⟩ else mkB (Lib.itoa (topF t.s ⟨x, y⟩))
def numT (t : Ses) (w : ByteArray) (n : List Int) : ByteArray × Ses :=
  if w = ⟨#[110, 101, 119]⟩ ∧ n.length = 2 then openT t (n.getD 0 0) (n.getD 1 0)
  else if w = ⟨#[99, 111, 108, 111, 114]⟩ ∧ n.length = 4 then colT t (n.getD 0 0) (n.getD 1 0) (n.getD 2 0) (n.getD 3 0)
  else if w = ⟨#[112, 105, 120, 101, 108]⟩ ∧ n.length = 2 then (showS t (n.getD 0 0) (n.getD 1 0), t)
  else if w = ⟨#[104, 105, 116]⟩ ∧ n.length = 2 then (hitS t (n.getD 0 0) (n.getD 1 0), t)
  else (⟨#[119, 104, 97, 116]⟩, t)
def isFill (x : ByteArray) : Bool := decide (5 < x.size) && decide (x.extract 0 5 = ⟨#[102, 105, 108, 108, 32]⟩)
def lineT (t : Ses) (x : ByteArray) : ByteArray × Ses :=
  if x = ⟨#[97, 110, 121]⟩ then (⟨#[111, 107]⟩, ⟨t.s, t.c, 0⟩)
  else if x = ⟨#[101, 118, 101, 110]⟩ then (⟨#[111, 107]⟩, ⟨t.s, t.c, 1⟩)
  else if isFill x = true then (orB (fillOk t (x.extract 5 x.size)), fillT t (x.extract 5 x.size))
  else numT t (mkB ((spl 32 (tx x)).headD [])) (((spl 32 (tx x)).drop 1).map numW)
def stepR (p : ByteArray × Ses) (x : ByteArray) : ByteArray × Ses := (p.1 ++ ((lineT p.2 x).1 ++ ⟨#[10]⟩), (lineT p.2 x).2)
def ses0 : Ses := ⟨⟨0, 0, []⟩, ⟨0, 0, 0, 0⟩, 0⟩
def runF (l : List ByteArray) : ByteArray × Ses := l.foldl stepR (⟨#[]⟩, ses0)
def runS (l : List ByteArray) : ByteArray := (runF (l.take 20)).1
/-- What a session keeps. -/
structure okSes (t : Ses) : Prop where
  sc : vScn t.s = true ∨ t.s = ⟨0, 0, []⟩
  fs : okFs t.s.fs
  len : t.s.fs.length ≤ 4
  rng : (0 ≤ t.s.w ∧ t.s.w ≤ 12) ∧ 0 ≤ t.s.h ∧ t.s.h ≤ 12
  rl : t.l = 0 ∨ t.l = 1
theorem okSes_0 : okSes ses0 := ⟨.inr rfl, okFs_nil, by decide, by decide, .inl rfl⟩
theorem vScn_len {s : Scn} (h : vScn s = true) : s.fs.length ≤ 4 := by
  simp only [vScn, Bool.and_eq_true, decide_eq_true_eq] at h
  exact h.1.2
theorem vScn_rng {s : Scn} (h : vScn s = true) : (0 ≤ s.w ∧ s.w ≤ 12) ∧ 0 ≤ s.h ∧ s.h ≤ 12 := by
  simp only [vScn, szd, Bool.and_eq_true, decide_eq_true_eq] at h
  omega
theorem flOf_ok {t : Ses} {x : List UInt8} : okF (flOf t ((pp x).getD [])) := by
  cases h : pp x with
  | none => exact ⟨by simp [flOf], by simp [flOf, nPts], by simp [flOf]⟩
  | some p =>
    have := vPath_num (pp_some h).1
    exact ⟨by simp only [flOf, Option.getD_some]; omega, by simp only [flOf, Option.getD_some]; omega, by simp [flOf]⟩
theorem addF_fs {t : Ses} {x : List UInt8} (h : okFs t.s.fs) (hl : t.s.fs.length ≤ 4) : okFs (addF t ((pp x).getD [])).fs := okFs_snoc h (by omega) flOf_ok
theorem okSes_new {t : Ses} (ht : okSes t) {w h : Int} (hz : szd w h = true) : okSes ⟨⟨w, h, []⟩, t.c, t.l⟩ := by
  have hv : vScn ⟨w, h, []⟩ = true := by simp [vScn, hz]
  exact ⟨.inl hv, okFs_nil, by simp, vScn_rng hv, ht.rl⟩
theorem okSes_open {t : Ses} (ht : okSes t) (w h : Int) : okSes (openT t w h).2 := by
  unfold openT
  split
  · exact okSes_new ht ‹_›
  · exact ht
theorem okSes_col {t : Ses} (ht : okSes t) (r g b a : Int) : okSes (colT t r g b a).2 := by
  unfold colT
  split
  · exact ⟨ht.sc, ht.fs, ht.len, ht.rng, ht.rl⟩
  · exact ht
theorem okSes_fill {t : Ses} (ht : okSes t) (x : ByteArray) : okSes (fillT t x) := by
  unfold fillT
  split
  · rename_i h
    simp only [fillOk, Bool.and_eq_true] at h
    exact ⟨.inl h.2, addF_fs ht.fs ht.len, vScn_len h.2, vScn_rng h.2, ht.rl⟩
  · exact ht
theorem okSes_rule {t : Ses} (ht : okSes t) {l : Int} (hl : l = 0 ∨ l = 1) : okSes ⟨t.s, t.c, l⟩ := ⟨ht.sc, ht.fs, ht.len, ht.rng, hl⟩
theorem okSes_num {t : Ses} (ht : okSes t) (w : ByteArray) (n : List Int) : okSes (numT t w n).2 := by
  unfold numT
  repeat' split
  · exact okSes_open ht _ _
  · exact okSes_col ht _ _ _ _
  all_goals exact ht
theorem okSes_line {t : Ses} (ht : okSes t) (x : ByteArray) : okSes (lineT t x).2 := by
  unfold lineT
  repeat' split
  · exact okSes_rule ht (.inl rfl)
  · exact okSes_rule ht (.inr rfl)
  · exact okSes_fill ht _
  · exact okSes_num ht _ _
/-! Sizes. -/
theorem itoa9 {n : Int} (h0 : -9999 ≤ n) (h1 : n ≤ 9999) : (mkB (Lib.itoa n)).size ≤ 5 := by rw [mkB_size]; exact itoa_len h0 h1
theorem colS_size {c : Colr} (h : vCol c = true) : (colS c).size ≤ 23 := by
  simp only [vCol, Bool.and_eq_true, decide_eq_true_eq] at h
  have h1 := itoa9 (n := c.r) (by omega) (by omega)
  have h2 := itoa9 (n := c.g) (by omega) (by omega)
  have h3 := itoa9 (n := c.b) (by omega) (by omega)
  have h4 := itoa9 (n := c.a) (by omega) (by omega)
  have h5 : (ByteArray.mk #[32]).size = 1 := rfl
  simp only [colS, ByteArray.size_append, h5]
  omega
theorem topN_bds (fs : List Fil) (x y : Int) : ∀ n : Nat, -1 ≤ topN fs x y n ∧ topN fs x y n < (n : Int)
  | 0 => by simp [topN]
  | n + 1 => by
    have := topN_bds fs x y n
    rw [topN]
    repeat' split
    all_goals omega
theorem topF_bds {s : Scn} (p : Pt) : -1 ≤ topF s p ∧ topF s p ≤ 4 := by
  unfold topF
  split
  · rename_i h
    simp only [Bool.and_eq_true] at h
    have := topN_bds s.fs p.x p.y s.fs.length
    have := vScn_len h.1
    omega
  · omega
theorem showS_size (t : Ses) (c w : Int) : (showS t c w).size ≤ 23 := by
  unfold showS
  split
  · rename_i h
    rw [okPix_eq] at h
    simp only [Bool.and_eq_true] at h
    exact colS_size (pixF_ok (vScn_parts h.1).2.2)
  · decide
theorem hitS_size (t : Ses) (x y : Int) : (hitS t x y).size ≤ 23 := by
  unfold hitS
  have := topF_bds (s := t.s) ⟨x, y⟩
  split
  · decide
  · have := itoa9 (n := topF t.s ⟨x, y⟩) (by omega) (by omega)
    omega
theorem lineT_size (t : Ses) (x : ByteArray) : (lineT t x).1.size ≤ 23 := by
  unfold lineT numT openT colT orB
  repeat' split
  all_goals first | exact showS_size _ _ _ | exact hitS_size _ _ _ | (dsimp only; decide)
theorem stepR_size (p : ByteArray × Ses) (x : ByteArray) : (stepR p x).1.size ≤ p.1.size + 24 := by
  have := lineT_size p.2 x
  have h1 : (ByteArray.mk #[10]).size = 1 := rfl
  simp only [stepR, ByteArray.size_append, h1]; omega
theorem foldR_size (l : List ByteArray) : ∀ p : ByteArray × Ses, (l.foldl stepR p).1.size ≤ p.1.size + 24 * l.length := by
  induction l with
  | nil => intro p; simp
  | cons x l ih =>
    intro p
    have h1 := ih (stepR p x)
    have h2 := stepR_size p x
    simp only [List.foldl_cons, List.length_cons]; omega
theorem foldR_ok (l : List ByteArray) : ∀ p : ByteArray × Ses, okSes p.2 → okSes (l.foldl stepR p).2 := by
  induction l with
  | nil => intro p h; exact h
  | cons x l ih => intro p h; exact ih _ (okSes_line h x)
theorem runF_ok (l : List ByteArray) : okSes (runF l).2 := foldR_ok l _ okSes_0
theorem runF_size (l : List ByteArray) : (runF l).1.size ≤ 24 * l.length := by
  have := foldR_size l (⟨#[]⟩, ses0)
  have h0 : (ByteArray.mk #[]).size = 0 := rfl
  simp only [h0] at this
  unfold runF; omega
theorem runF_step {l : List ByteArray} {i : Int} {x : ByteArray} (h : l[i.toNat]? = some x) (h0 : 0 ≤ i) : runF (l.take (i + 1).toNat) = stepR (runF (l.take i.toNat)) x := by
  unfold runF
  rw [takeN h h0, List.foldl_append]; rfl
theorem runF_app (l m : List ByteArray) : runF (l ++ m) = m.foldl stepR (runF l) := by unfold runF; rw [List.foldl_append]
/-! The order of the questions. -/
theorem spl_any : spl 32 (tx ⟨#[97, 110, 121]⟩) = [[97, 110, 121]] := by decide
theorem spl_even : spl 32 (tx ⟨#[101, 118, 101, 110]⟩) = [[101, 118, 101, 110]] := by decide
theorem spl_fill {x : ByteArray} (h : isFill x = true) : (spl 32 (tx x)).headD [] = [102, 105, 108, 108] := by
  simp only [isFill, Bool.and_eq_true, decide_eq_true_eq] at h
  have h2 := congrArg tx h.2
  rw [tx_ext] at h2
  have h3 : (tx x).take 5 = [102, 105, 108, 108, 32] := by rw [List.drop_zero] at h2; exact h2
  have e : tx x = [102, 105, 108, 108, 32] ++ (tx x).drop 5 := by
    have h4 := List.take_append_drop 5 (tx x)
    rw [h3] at h4
    exact h4.symm
  rw [e, show ([102, 105, 108, 108, 32] : List UInt8) ++ (tx x).drop 5 = [102, 105, 108, 108] ++ 32 :: (tx x).drop 5 from rfl, spl_app 32 _ (by decide)]
  rfl
theorem wd0 {x : ByteArray} {w : ByteArray} (h : ((spl 32 (tx x)).map mkB)[0]? = some w) : mkB ((spl 32 (tx x)).headD []) = w := by
  cases hs : spl 32 (tx x) with
  | nil => rw [hs] at h; simp at h
  | cons a r => rw [hs] at h; simpa using h
theorem line_num {t : Ses} {x w : ByteArray} (h : mkB ((spl 32 (tx x)).headD []) = w) (h1 : ¬ w = ⟨#[97, 110, 121]⟩) (h2 : ¬ w = ⟨#[101, 118, 101, 110]⟩) (h3 : ¬ w = ⟨#[102, 105, 108, 108]⟩) : lineT t x = numT t w (((spl 32 (tx x)).drop 1).map numW) := by
  unfold lineT
  rw [if_neg (fun e => h1 (by subst e; rw [← h, spl_any]; rfl)), if_neg (fun e => h2 (by subst e; rw [← h, spl_even]; rfl)), if_neg (fun e => h3 (by rw [← h, spl_fill e]; rfl)), h]
theorem line_what {t : Ses} {x w : ByteArray} (h : mkB ((spl 32 (tx x)).headD []) = w) (h1 : ¬ x = ⟨#[97, 110, 121]⟩) (h2 : ¬ x = ⟨#[101, 118, 101, 110]⟩) (h3 : isFill x = false) : lineT t x = numT t w (((spl 32 (tx x)).drop 1).map numW) := by
  unfold lineT
  rw [if_neg h1, if_neg h2, if_neg (by rw [h3]; simp), h]
theorem getD_at {n : List Int} {i : Nat} {a : Int} (h : n[i]? = some a) : n.getD i 0 = a := by simp [h]
theorem num_new {t : Ses} {n : List Int} {a b : Int} (hl : (n.length : Int) = 2) (h0 : n[0]? = some a) (h1 : n[1]? = some b) : numT t ⟨#[110, 101, 119]⟩ n = openT t a b := by
  unfold numT
  rw [if_pos ⟨rfl, by omega⟩, getD_at h0, getD_at h1]
theorem num_col {t : Ses} {n : List Int} {a b c d : Int} (hl : (n.length : Int) = 4) (h0 : n[0]? = some a) (h1 : n[1]? = some b) (h2 : n[2]? = some c) (h3 : n[3]? = some d) : numT t ⟨#[99, 111, 108, 111, 114]⟩ n = colT t a b c d := by
  unfold numT
  rw [if_neg (fun e => absurd e.1 (by decide)), if_pos ⟨rfl, by omega⟩, getD_at h0, getD_at h1, getD_at h2, getD_at h3]
theorem num_pix {t : Ses} {n : List Int} {a b : Int} (hl : (n.length : Int) = 2) (h0 : n[0]? = some a) (h1 : n[1]? = some b) : numT t ⟨#[112, 105, 120, 101, 108]⟩ n = (showS t a b, t) := by
  unfold numT
  rw [if_neg (fun e => absurd e.1 (by decide)), if_neg (fun e => absurd e.1 (by decide)), if_pos ⟨rfl, by omega⟩, getD_at h0, getD_at h1]
theorem num_hit {t : Ses} {n : List Int} {a b : Int} (hl : (n.length : Int) = 2) (h0 : n[0]? = some a) (h1 : n[1]? = some b) : numT t ⟨#[104, 105, 116]⟩ n = (hitS t a b, t) := by
  unfold numT
  rw [if_neg (fun e => absurd e.1 (by decide)), if_neg (fun e => absurd e.1 (by decide)), if_neg (fun e => absurd e.1 (by decide)), if_pos ⟨rfl, by omega⟩, getD_at h0, getD_at h1]
theorem num_what {t : Ses} {w : ByteArray} {n : List Int} (h1 : w = ⟨#[110, 101, 119]⟩ → ¬ (n.length : Int) = 2) (h2 : w = ⟨#[99, 111, 108, 111, 114]⟩ → ¬ (n.length : Int) = 4) (h3 : w = ⟨#[112, 105, 120, 101, 108]⟩ → ¬ (n.length : Int) = 2) (h4 : w = ⟨#[104, 105, 116]⟩ → ¬ (n.length : Int) = 2) : numT t w n = (⟨#[119, 104, 97, 116]⟩, t) := by
  unfold numT
  rw [if_neg (fun e => h1 e.1 (by omega)), if_neg (fun e => h2 e.1 (by omega)), if_neg (fun e => h3 e.1 (by omega)), if_neg (fun e => h4 e.1 (by omega))]
def spColOf_A : Int × Int × Int × Int → List AV
  | (e, g, b, a) => [I e, I g, I b, I a]
def spColOf_pre : Int × Int × Int × Int → Prop
  | (e, g, b, a) => True
def spColOf_post : Int × Int × Int × Int → AV → List Box → Prop
  | (e, g, b, a), r, bs => r = .tup [.agg (coC (if colOk e g b a = true then plainC e g b a else ⟨0, 0, 0, 0⟩)), B (colOk e g b a)] ∧ bs = []
def spColOf : VE.Spec := famSpec spColOf_A d_i_i_i_i spColOf_pre spColOf_post 0 true
theorem spColOf_q : SpQ spColOf true [] false 0 (fun a i => i = [] ∧ famPre d_i_i_i_i spColOf_A spColOf_pre a) (fun a i r b => famPost d_i_i_i_i spColOf_post a r b) := ⟨rfl, rfl, rfl, rfl, fun _ _ => rfl, fun _ _ _ _ => rfl⟩
def tb150 : Nat → Option VE.Spec := tabOf [(172, wkIn spAll), (173, wkIn spPlain)]
theorem tb150_172 : tb150 172 = some (wkIn spAll) := rfl
theorem tb150_173 : tb150 173 = some (wkIn spPlain) := rfl
theorem tb150_ok : TabOK Tryz.prog rt0 tb150 := (tabOf_cons (by kernel_rfl) sat_spec_allIn (tabOf_cons (by kernel_rfl) sat_spec_plain tabOf_nil))
set_option maxHeartbeats 4000000 in
theorem sat_spec_ColorOf_0 : Sat Tryz.prog rt0 150 (wkOut spColOf) := by
  refine fn_sat hm ttok (tab := tb150) tb150_ok Tryz.func150 (c := Tryz.f150.body.getD .skip) (by kernel_rfl) (ts := [.cell 8 73, .tmp 9]) (by kernel_rfl) Tryz.ntmps150 (sq := fun _ => true) (by kernel_rfl) ?_
  intro args ins pk hpre0 hpk
  obtain ⟨rfl, hpre0⟩ := hpre0
  obtain ⟨⟨e, g, b, a⟩, rfl, hpre, hdec⟩ := famPre_ex hpre0
  clear hpre0 hdec
  try simp only [spColOf_pre] at hpre
  replace hpk : pk + 0 ≤ pickLimit := hpk
  refine ⟨nle rfl, ?_⟩
  simp (maxSteps := 1000000) only [go_sem, Tryz.f150, tb150_172, tb150_173, spColOf_q, spColOf_A, spColOf_pre, spColOf_post, spAll_q, spAll_A, spAll_pre, spAll_post, spPlain_q, spPlain_A, spPlain_pre, spPlain_post, plainC]
  repeat' first | apply And.intro | intro _ | omega | assumption | with_reducible rfl
  all_goals (first | ((have h9 := colOk_iff.1 (show colOk e g b a = true from ‹_›); omega); done) | ((rw [if_pos (show colOk e g b a = true from ‹_›)]; rfl); done) | ((rw [if_neg (fun h => by have h9 : colOk e g b a = false := ‹_›; rw [h9] at h; cases h)]; rfl); done) | (exact (show colOk e g b a = true from ‹_›).symm) | (exact (show colOk e g b a = false from ‹_›).symm) | (skip; done))
theorem sat_spec_ColorOf : Sat Tryz.prog rt0 150 (wkIn spColOf) := sat_in (sat_out sat_spec_ColorOf_0)
section
def spOpen_A : Dsk × Int × Int → List AV
  | (t, w, h) => [.c (.ptr 0 1 0 0), I w, I h]
def spOpen_B : Dsk × Int × Int → List Box
  | (t, w, h) => [⟨[dkC t], 8, 83, false, false⟩]
def spOpen_d : List AV → List Box → Option (Dsk × Int × Int)
  | [.c (.ptr 0 1 0 0), .c (.v (.int .i64 a0)), .c (.v (.int .i64 a1))], [⟨[e], _, _, _, _⟩] => match dkCd e with
    | some t => some (t, a0, a1)
    | _ => none
  | _, _ => none
def spOpen_pre : Dsk × Int × Int → Prop
  | (t, w, h) => True
def spOpen_post : Dsk × Int × Int → AV → List Box → Prop
  | (t, w, h), r, bs => r = .c (.v (.string ((openT (ks t) w h).1))) ∧ bs = [⟨[dkC (kd (openT (ks t) w h).2)], 8, 83, false, false⟩]
def spOpen : VE.Spec := famSpecM spOpen_A spOpen_B spOpen_d spOpen_pre spOpen_post 0 false [true] true
theorem spOpen_q : SpQ spOpen false [true] true 0 (fun a i => famPreM spOpen_d spOpen_A spOpen_B spOpen_pre a i) (fun a i r b => famPostM spOpen_d spOpen_post a i r b) := ⟨rfl, rfl, rfl, rfl, fun _ _ => rfl, fun _ _ _ _ => rfl⟩
theorem openT_y {t : Ses} {w h : Int} (hz : szd w h = true) : openT t w h = (⟨#[111, 107]⟩, ⟨⟨w, h, []⟩, t.c, t.l⟩) := by unfold openT; rw [if_pos hz]
theorem openT_n {t : Ses} {w h : Int} (hz : szd w h = false) : openT t w h = (⟨#[110, 111]⟩, t) := by unfold openT; rw [hz]; rfl
theorem colT_y {t : Ses} {r g b a : Int} (hz : colOk r g b a = true) : colT t r g b a = (⟨#[111, 107]⟩, ⟨t.s, plainC r g b a, t.l⟩) := by unfold colT; rw [if_pos hz]
theorem colT_n {t : Ses} {r g b a : Int} (hz : colOk r g b a = false) : colT t r g b a = (⟨#[110, 111]⟩, t) := by unfold colT; rw [hz]; rfl
def tb111 : Nat → Option VE.Spec := tabOf [(149, wkIn spSzd)]
theorem tb111_149 : tb111 149 = some (wkIn spSzd) := rfl
theorem tb111_ok : TabOK Tryz.prog rt0 tb111 := (tabOf_cons (by kernel_rfl) sat_spec_validSize tabOf_nil)
set_option maxHeartbeats 4000000 in
theorem sat_spec_desk_open_0 : Sat Tryz.prog rt0 111 (wkOut spOpen) := by
  refine fn_sat hm ttok (tab := tb111) tb111_ok Tryz.func111 (c := Tryz.f111.body.getD .skip) (by kernel_rfl) (ts := [.tmp 6]) (by kernel_rfl) Tryz.ntmps111 (sq := fun _ => true) (by kernel_rfl) ?_
  intro args ins pk hpre0 hpk
  obtain ⟨⟨t, w, h⟩, rfl, rfl, hpre, hdec⟩ := famPreM_ex hpre0
  clear hpre0 hdec
  try simp only [spOpen_pre] at hpre
  replace hpk : pk + 0 ≤ pickLimit := hpk
  refine ⟨nle rfl, ?_⟩
  simp (maxSteps := 1000000) only [go_sem, Tryz.f111, tb111_149, spOpen_q, spOpen_A, spOpen_B, spOpen_d, spOpen_pre, spOpen_post, spSzd_q, spSzd_A, spSzd_pre, spSzd_post]
  repeat' first | apply And.intro | intro _ | omega | assumption | with_reducible rfl
  all_goals (first | (rw [openT_y ‹_›]; (try rfl); done) | (rw [openT_n ‹_›]; (try rfl); done) | (skip; done))
theorem sat_spec_desk_open : Sat Tryz.prog rt0 111 (wkIn spOpen) := sat_in (sat_out sat_spec_desk_open_0)
def spSetC_A : Dsk × (List Int) → List AV
  | (t, n) => [.c (.ptr 0 1 0 0), .c (.sl false (n.map intC))]
def spSetC_B : Dsk × (List Int) → List Box
  | (t, n) => [⟨[dkC t], 8, 83, false, false⟩]
def spSetC_d : List AV → List Box → Option (Dsk × (List Int))
  | [.c (.ptr 0 1 0 0), .c (.sl _ a0)], [⟨[e], _, _, _, _⟩] => match dkCd e, decAll intCd a0 with
    | some t, some a0v => some (t, a0v)
    | _, _ => none
  | _, _ => none
def spSetC_pre : Dsk × (List Int) → Prop
  | (t, n) => n.length = 4 ∧ n.length ≤ 1000000
def spSetC_post : Dsk × (List Int) → AV → List Box → Prop
  | (t, n), r, bs => r = .c (.v (.string ((colT (ks t) (n.getD 0 0) (n.getD 1 0) (n.getD 2 0) (n.getD 3 0)).1))) ∧ bs = [⟨[dkC (kd (colT (ks t) (n.getD 0 0) (n.getD 1 0) (n.getD 2 0) (n.getD 3 0)).2)], 8, 83, false, false⟩]
def spSetC : VE.Spec := famSpecM spSetC_A spSetC_B spSetC_d spSetC_pre spSetC_post 0 false [true] true
theorem spSetC_q : SpQ spSetC false [true] true 0 (fun a i => famPreM spSetC_d spSetC_A spSetC_B spSetC_pre a i) (fun a i r b => famPostM spSetC_d spSetC_post a i r b) := ⟨rfl, rfl, rfl, rfl, fun _ _ => rfl, fun _ _ _ _ => rfl⟩
def tb112 : Nat → Option VE.Spec := tabOf [(150, wkIn spColOf)]
theorem tb112_150 : tb112 150 = some (wkIn spColOf) := rfl
theorem tb112_ok : TabOK Tryz.prog rt0 tb112 := (tabOf_cons (by kernel_rfl) sat_spec_ColorOf tabOf_nil)
section
attribute [local go_sem] Tryz.f112 tb112_150 spSetC_q spSetC_A spSetC_B spSetC_d spSetC_pre spSetC_post spColOf_q spColOf_A spColOf_pre spColOf_post
set_option maxHeartbeats 4000000 in
theorem sat_spec_desk_setColor_0 : Sat Tryz.prog rt0 112 (wkOut spSetC) := by
  refine fn_sat hm ttok (tab := tb112) tb112_ok Tryz.func112 (c := Tryz.f112.body.getD .skip) (by kernel_rfl) (ts := [.tmp 4]) (by kernel_rfl) Tryz.ntmps112 (sq := fun id => !(id == 1)) (by kernel_rfl) ?_
  intro args ins pk hpre0 hpk
  obtain ⟨⟨t, n⟩, rfl, rfl, hpre, hdec⟩ := famPreM_ex hpre0
  clear hpre0 hdec
  try simp only [spSetC_pre] at hpre
  replace hpk : pk + 0 ≤ pickLimit := hpk
  refine ⟨nle rfl, ?_⟩
  simp (maxSteps := 1000000) only [go_sem, List.append_assoc, List.cons_append, List.nil_append]
  repeat' first | apply And.intro | intro _ | omega | assumption | with_reducible rfl
  all_goals try (refine drawI (pF 0 (pF 1 (pF 2 (pF 3 (pF 4 (pF 5 (pF 6 (pF 7 (pF 8 (pF 9 (pF 10 (pF 11 (pA 12 (pF 13 (pF 14 (pF 15 (pA 16 (pA 17 (pA 18 pN pN) pN) pN)))) (pA 16 (pA 12 (pF 13 (pF 14 (pF 15 (pA 17 (pA 18 pN pN) pN)))) pN) pN)))))))))))))) (by decide +kernel) ?_; simp (maxSteps := 1000000) only [go_sem, planW, stepW, Go.VE.stepT, Go.VE.clearO, List.append_assoc, List.cons_append, List.nil_append]; repeat' first | apply And.intro | intro _ | omega | assumption | with_reducible rfl)
  all_goals (first | omega | ((rw [getD_at ‹n[0]? = some _›, getD_at ‹n[1]? = some _›, getD_at ‹n[2]? = some _›, getD_at ‹n[3]? = some _›, colT_y ‹_›]); done) | ((rw [getD_at ‹n[0]? = some _›, getD_at ‹n[1]? = some _›, getD_at ‹n[2]? = some _›, getD_at ‹n[3]? = some _›, colT_y ‹_›, if_pos ‹_›]; rfl); done) | ((rw [getD_at ‹n[0]? = some _›, getD_at ‹n[1]? = some _›, getD_at ‹n[2]? = some _›, getD_at ‹n[3]? = some _›, colT_n ‹_›]); done) | ((rw [getD_at ‹n[0]? = some _›, getD_at ‹n[1]? = some _›, getD_at ‹n[2]? = some _›, getD_at ‹n[3]? = some _›, colT_n ‹_›]; rfl); done) | (skip; done))
end
theorem sat_spec_desk_setColor : Sat Tryz.prog rt0 112 (wkIn spSetC) := sat_in (sat_out sat_spec_desk_setColor_0)
end
theorem flC_lit (ps : List Verb) (l : Int) (c : Colr) : [C.sl false (ps.map vbC), C.v (.int .i64 l), C.v (.int .i64 0), C.v (.int .i64 0), C.v (.int .i64 0), C.v (.int .i64 0), C.sl false [stC ⟨0, c⟩]] = flC ⟨ps, l, ⟨⟨0, 0⟩, ⟨0, 0⟩, [⟨0, c⟩]⟩⟩ := rfl
theorem fill_no1 {t : Ses} {x : ByteArray} (h : (pp (tx x)).isSome = false) : fillOk t x = false := by unfold fillOk; rw [h]; rfl
theorem fill_no2 {t : Ses} {x : ByteArray} (h : vScn (addF t ((pp (tx x)).getD [])) = false) : fillOk t x = false := by unfold fillOk; rw [h, Bool.and_false]
theorem fill_yes {t : Ses} {x : ByteArray} (h : (pp (tx x)).isSome = true) (h2 : vScn (addF t ((pp (tx x)).getD [])) = true) : fillOk t x = true := by unfold fillOk; rw [h, h2]; rfl
theorem fillT_no {t : Ses} {x : ByteArray} (h : fillOk t x = false) : fillT t x = t := by unfold fillT; rw [h]; rfl
theorem fillT_yes {t : Ses} {x : ByteArray} (h : fillOk t x = true) : fillT t x = ⟨addF t ((pp (tx x)).getD []), t.c, t.l⟩ := by unfold fillT; rw [if_pos h]
def spFill_A : Dsk × ByteArray → List AV
  | (t, x) => [.c (.ptr 0 1 0 0), .c (.v (.string x))]
def spFill_B : Dsk × ByteArray → List Box
  | (t, x) => [⟨[dkC t], 8, 83, false, false⟩]
def spFill_d : List AV → List Box → Option (Dsk × ByteArray)
  | [.c (.ptr 0 1 0 0), .c (.v (.string a0))], [⟨[e], _, _, _, _⟩] => match dkCd e with
    | some t => some (t, a0)
    | _ => none
  | _, _ => none
def spFill_pre : Dsk × ByteArray → Prop
  | (t, x) => okSes (ks t) ∧ x.size ≤ 1000000000
def spFill_post : Dsk × ByteArray → AV → List Box → Prop
  | (t, x), r, bs => r = .c (.v (.string (orB (fillOk (ks t) x)))) ∧ bs = [⟨[dkC (kd (fillT (ks t) x))], 8, 83, false, false⟩]
def spFill : VE.Spec := famSpecM spFill_A spFill_B spFill_d spFill_pre spFill_post 0 false [true] true
theorem spFill_q : SpQ spFill false [true] true 0 (fun a i => famPreM spFill_d spFill_A spFill_B spFill_pre a i) (fun a i r b => famPostM spFill_d spFill_post a i r b) := ⟨rfl, rfl, rfl, rfl, fun _ _ => rfl, fun _ _ _ _ => rfl⟩
def tb75 : Nat → Option VE.Spec := tabOf [(10, wkIn spPP), (110, wkIn spVScn)]
theorem tb75_10 : tb75 10 = some (wkIn spPP) := rfl
theorem tb75_110 : tb75 110 = some (wkIn spVScn) := rfl
theorem tb75_ok : TabOK Tryz.prog rt0 tb75 := (tabOf_cons (by kernel_rfl) sat_spec_ParsePath (tabOf_cons (by kernel_rfl) sat_spec_validScene tabOf_nil))
set_option maxHeartbeats 4000000 in
theorem sat_spec_desk_fill_0 : Sat Tryz.prog rt0 75 (wkOut spFill) := by
  refine fn_sat hm ttok (tab := tb75) tb75_ok Tryz.func75 (c := Tryz.f75.body.getD .skip) (by kernel_rfl) (ts := [.tmp 4]) (by kernel_rfl) Tryz.ntmps75 (sq := fun _ => true) (by kernel_rfl) ?_
  intro args ins pk hpre0 hpk
  obtain ⟨⟨t, x⟩, rfl, rfl, hpre, hdec⟩ := famPreM_ex hpre0
  clear hpre0 hdec
  try simp only [spFill_pre] at hpre
  replace hpk : pk + 0 ≤ pickLimit := hpk
  refine ⟨nle rfl, ?_⟩
  simp (maxSteps := 1000000) only [go_sem, Tryz.f75, tb75_10, tb75_110, spFill_q, spFill_A, spFill_B, spFill_d, spFill_pre, spFill_post, spPP_q, spPP_A, spPP_pre, spPP_post, spVScn_q, spVScn_A, spVScn_pre, spVScn_post, flC_lit]
  repeat' first | apply And.intro | intro _ | omega | assumption | with_reducible rfl
  all_goals (first | (exact trivial) | (exact (fill_yes (t := ks t) ‹_› ‹vScn _ = true›).symm) | (exact (fill_no2 (t := ks t) ‹vScn _ = false›).symm) | (exact (fill_no1 ‹_›).symm) | (exact (fillT_no (fill_no1 ‹_›)).symm) | (exact (fillT_no (fill_no2 (t := ks t) ‹vScn _ = false›)).symm) | ((have h9 : t.s.fs.length ≤ 4 := hpre.1.len; omega); done) | omega | (exact addF_fs (t := ks t) hpre.1.fs hpre.1.len) | ((rw [fill_no1 ‹_›]; rfl); done) | ((rw [fill_no2 (t := ks t) ‹vScn _ = false›]; rfl); done) | ((rw [fill_yes (t := ks t) ‹_› ‹vScn _ = true›]; rfl); done) | ((rw [fillT_no (fill_no1 ‹_›)]; rfl); done) | ((rw [fillT_no (fill_no2 (t := ks t) ‹vScn _ = false›)]; rfl); done) | ((rw [fillT_yes (fill_yes (t := ks t) ‹_› ‹vScn _ = true›)]; rfl); done) | ((rw [fillT_yes (fill_yes (t := ks t) ‹_› ‹vScn _ = true›)]; simp only [addF, dkC, seC, scC, kd, ks, flOf, List.map_append, List.map_cons, List.map_nil]; rfl); done) | (skip; done))
theorem sat_spec_desk_fill : Sat Tryz.prog rt0 75 (wkIn spFill) := sat_in (sat_out sat_spec_desk_fill_0)
section
theorem show_no {t : Ses} {c w : Int} (h : okPix t.s c w = false) : showS t c w = ⟨#[110, 111]⟩ := by unfold showS; rw [h]; rfl
theorem show_yes {t : Ses} {c w : Int} (h : okPix t.s c w = true) : showS t c w = colS (pixF t.s.fs c w) := by unfold showS; rw [if_pos h]
theorem okp_1 {s : Scn} {c w : Int} (h : vScn s = false) : okPix s c w = false := by unfold okPix; rw [h]; rfl
theorem okp_2 {s : Scn} {c w : Int} (h : ¬ (0 ≤ c ∧ c ≤ s.w - 1)) : okPix s c w = false := by unfold okPix; rw [decide_eq_false h, Bool.and_false, Bool.false_and]
theorem okp_3 {s : Scn} {c w : Int} (h : ¬ (0 ≤ w ∧ w ≤ s.h - 1)) : okPix s c w = false := by unfold okPix; rw [decide_eq_false h, Bool.and_false]
theorem okp_y {s : Scn} {c w : Int} (h : vScn s = true) (h1 : 0 ≤ c ∧ c ≤ s.w - 1) (h2 : 0 ≤ w ∧ w ≤ s.h - 1) : okPix s c w = true := by unfold okPix; rw [h, decide_eq_true h1, decide_eq_true h2]; rfl
theorem okp_all {s : Scn} {c w : Int} (h : okPix s c w = true) : vScn s = true ∧ ((0 ≤ c ∧ c ≤ s.w - 1) ∧ 0 ≤ w ∧ w ≤ s.h - 1) ∧ (0 ≤ c ∧ c ≤ 20) ∧ (0 ≤ w ∧ w ≤ 20) ∧ vCol (pixF s.fs c w) = true := by
  rw [okPix_eq] at h
  simp only [Bool.and_eq_true, decide_eq_true_eq] at h
  have := vScn_rng h.1
  exact ⟨h.1, h.2, by omega, by omega, pixF_ok (vScn_parts h.1).2.2⟩
theorem hit_n {t : Ses} {x y : Int} (h : topF t.s ⟨x, y⟩ < 0) : hitS t x y = ⟨#[110, 111, 110, 101]⟩ := by unfold hitS; rw [if_pos h]
theorem hit_y {t : Ses} {x y : Int} (h : ¬ topF t.s ⟨x, y⟩ < 0) : hitS t x y = mkB (Lib.itoa (topF t.s ⟨x, y⟩)) := by unfold hitS; rw [if_neg h]
theorem col_rng {c : Colr} (h : vCol c = true) : ((0 ≤ c.r ∧ c.r ≤ 255) ∧ 0 ≤ c.g ∧ c.g ≤ 255) ∧ (0 ≤ c.b ∧ c.b ≤ 255) ∧ 0 ≤ c.a ∧ c.a ≤ 255 := by
  simp only [vCol, Bool.and_eq_true, decide_eq_true_eq] at h
  omega
theorem it5a {n : Int} (h : 0 ≤ n ∧ n ≤ 255) : (mkB (Lib.itoa n)).size ≤ 5 := itoa9 (by omega) (by omega)
def spShow_A : Dsk × Int × Int → List AV
  | (t, c, w) => [.c (.ptr 0 1 0 0), I c, I w]
def spShow_B : Dsk × Int × Int → List Box
  | (t, c, w) => [⟨[dkC t], 8, 83, false, false⟩]
def spShow_d : List AV → List Box → Option (Dsk × Int × Int)
  | [.c (.ptr 0 1 0 0), .c (.v (.int .i64 a0)), .c (.v (.int .i64 a1))], [⟨[e], _, _, _, _⟩] => match dkCd e with
    | some t => some (t, a0, a1)
    | _ => none
  | _, _ => none
def spShow_pre : Dsk × Int × Int → Prop
  | (t, c, w) => okSes (ks t)
def spShow_post : Dsk × Int × Int → AV → List Box → Prop
  | (t, c, w), r, bs => r = .c (.v (.string (showS (ks t) c w))) ∧ bs = [⟨[dkC (t)], 8, 83, false, false⟩]
def spShow : VE.Spec := famSpecM spShow_A spShow_B spShow_d spShow_pre spShow_post 0 false [true] true
theorem spShow_q : SpQ spShow false [true] true 0 (fun a i => famPreM spShow_d spShow_A spShow_B spShow_pre a i) (fun a i r b => famPostM spShow_d spShow_post a i r b) := ⟨rfl, rfl, rfl, rfl, fun _ _ => rfl, fun _ _ _ _ => rfl⟩
def tb113 : Nat → Option VE.Spec := tabOf [(110, wkIn spVScn), (91, wkIn spIn), (151, wkIn spPix), (59, wkIn spDecI)]
theorem tb113_110 : tb113 110 = some (wkIn spVScn) := rfl
theorem tb113_91 : tb113 91 = some (wkIn spIn) := rfl
theorem tb113_151 : tb113 151 = some (wkIn spPix) := rfl
theorem tb113_59 : tb113 59 = some (wkIn spDecI) := rfl
theorem tb113_ok : TabOK Tryz.prog rt0 tb113 := (tabOf_cons (by kernel_rfl) sat_spec_validScene (tabOf_cons (by kernel_rfl) sat_spec_inRange (tabOf_cons (by kernel_rfl) sat_spec_pixel (tabOf_cons (by kernel_rfl) sat_spec_decimal tabOf_nil))))
section
attribute [local go_sem] Tryz.f113 tb113_110 tb113_91 tb113_151 tb113_59 spShow_q spShow_A spShow_B spShow_d spShow_pre spShow_post spVScn_q spVScn_A spVScn_pre spVScn_post spIn_q spIn_A spIn_pre spIn_post spPix_q spPix_A spPix_pre spPix_post spDecI_q spDecI_A spDecI_pre spDecI_post
set_option maxHeartbeats 4000000 in
theorem sat_spec_desk_show_0 : Sat Tryz.prog rt0 113 (wkOut spShow) := by
  refine fn_sat hm ttok (tab := tb113) tb113_ok Tryz.func113 (c := Tryz.f113.body.getD .skip) (by kernel_rfl) (ts := [.tmp 6]) (by kernel_rfl) Tryz.ntmps113 (sq := fun id => !(id == 4)) (by kernel_rfl) ?_
  intro args ins pk hpre0 hpk
  obtain ⟨⟨t, c, w⟩, rfl, rfl, hpre, hdec⟩ := famPreM_ex hpre0
  clear hpre0 hdec
  try simp only [spShow_pre] at hpre
  replace hpk : pk + 0 ≤ pickLimit := hpk
  refine ⟨nle rfl, ?_⟩
  simp (maxSteps := 1000000) only [go_sem]
  repeat' first | apply And.intro | intro _ | omega | assumption | with_reducible rfl
  all_goals try (refine drawI (pF 0 (pF 1 (pF 4 (pF 5 (pF 9 (pF 10 (pF 14 (pF 15 (pA 2 (pF 3 (pA 6 (pF 7 (pF 8 (pA 11 (pF 12 (pF 13 (pA 16 (pF 17 (pA 18 pN pN)) pN))) pN))) pN)) pN))))))))) (by decide +kernel) ?_; simp (maxSteps := 1000000) only [go_sem, planW, stepW, Go.VE.stepT, Go.VE.clearO]; repeat' first | apply And.intro | intro _ | omega | assumption | with_reducible rfl)
  all_goals (first | (exact hpre.fs) | omega | ((have h9 : (0 ≤ t.s.w ∧ t.s.w ≤ 12) ∧ 0 ≤ t.s.h ∧ t.s.h ≤ 12 := hpre.rng; omega); done) | (exact (vScn_parts ‹_›).2.2) | ((have hy := okp_y (s := t.s) (c := c) (w := w) ‹vScn t.s = true› ⟨‹0 ≤ c›, ‹c ≤ t.s.w - 1›⟩ ⟨‹0 ≤ w›, ‹w ≤ t.s.h - 1›⟩; have ha := okp_all hy; have hc := col_rng ha.2.2.2.2; have a1 := it5a hc.1.1; have a2 := it5a hc.1.2; have a3 := it5a hc.2.1; have a4 := it5a hc.2.2; have e1 : (#[32] : Array UInt8).size = 1 := rfl; omega); done) | ((have hy := okp_y (s := t.s) (c := c) (w := w) ‹vScn t.s = true› ⟨‹0 ≤ c›, ‹c ≤ t.s.w - 1›⟩ ⟨‹0 ≤ w›, ‹w ≤ t.s.h - 1›⟩; have ha := okp_all hy; have hc := col_rng ha.2.2.2.2; have a1 := it5a hc.1.1; have a2 := it5a hc.1.2; have a3 := it5a hc.2.1; have a4 := it5a hc.2.2; have e1 : (#[32] : Array UInt8).size = 1 := rfl; rw [show_yes (t := ks t) hy]; rfl); done) | ((rw [show_no (t := ks t) (okp_1 ‹_›)]); done) | ((rw [show_no (t := ks t) (okp_2 ‹¬ (0 ≤ c ∧ c ≤ t.s.w - 1)›)]); done) | ((rw [show_no (t := ks t) (okp_3 ‹¬ (0 ≤ w ∧ w ≤ t.s.h - 1)›)]); done) | (skip; done))
end
theorem sat_spec_desk_show : Sat Tryz.prog rt0 113 (wkIn spShow) := sat_in (sat_out sat_spec_desk_show_0)
def spHit_A : Dsk × Int × Int → List AV
  | (t, x, y) => [.c (.ptr 0 1 0 0), I x, I y]
def spHit_B : Dsk × Int × Int → List Box
  | (t, x, y) => [⟨[dkC t], 8, 83, false, false⟩]
def spHit_d : List AV → List Box → Option (Dsk × Int × Int)
  | [.c (.ptr 0 1 0 0), .c (.v (.int .i64 a0)), .c (.v (.int .i64 a1))], [⟨[e], _, _, _, _⟩] => match dkCd e with
    | some t => some (t, a0, a1)
    | _ => none
  | _, _ => none
def spHit_pre : Dsk × Int × Int → Prop
  | (t, x, y) => okSes (ks t)
def spHit_post : Dsk × Int × Int → AV → List Box → Prop
  | (t, x, y), r, bs => r = .c (.v (.string (hitS (ks t) x y))) ∧ bs = [⟨[dkC (t)], 8, 83, false, false⟩]
def spHit : VE.Spec := famSpecM spHit_A spHit_B spHit_d spHit_pre spHit_post 0 false [true] true
theorem spHit_q : SpQ spHit false [true] true 0 (fun a i => famPreM spHit_d spHit_A spHit_B spHit_pre a i) (fun a i r b => famPostM spHit_d spHit_post a i r b) := ⟨rfl, rfl, rfl, rfl, fun _ _ => rfl, fun _ _ _ _ => rfl⟩
def tb114 : Nat → Option VE.Spec := tabOf [(152, wkIn spTop), (59, wkIn spDecI)]
theorem tb114_152 : tb114 152 = some (wkIn spTop) := rfl
theorem tb114_59 : tb114 59 = some (wkIn spDecI) := rfl
theorem tb114_ok : TabOK Tryz.prog rt0 tb114 := (tabOf_cons (by kernel_rfl) sat_spec_TopFill (tabOf_cons (by kernel_rfl) sat_spec_decimal tabOf_nil))
set_option maxHeartbeats 4000000 in
theorem sat_spec_desk_hit_0 : Sat Tryz.prog rt0 114 (wkOut spHit) := by
  refine fn_sat hm ttok (tab := tb114) tb114_ok Tryz.func114 (c := Tryz.f114.body.getD .skip) (by kernel_rfl) (ts := [.tmp 6]) (by kernel_rfl) Tryz.ntmps114 (sq := fun _ => true) (by kernel_rfl) ?_
  intro args ins pk hpre0 hpk
  obtain ⟨⟨t, x, y⟩, rfl, rfl, hpre, hdec⟩ := famPreM_ex hpre0
  clear hpre0 hdec
  try simp only [spHit_pre] at hpre
  replace hpk : pk + 0 ≤ pickLimit := hpk
  refine ⟨nle rfl, ?_⟩
  simp (maxSteps := 1000000) only [go_sem, Tryz.f114, tb114_152, tb114_59, spHit_q, spHit_A, spHit_B, spHit_d, spHit_pre, spHit_post, spTop_q, spTop_A, spTop_pre, spTop_post, spDecI_q, spDecI_A, spDecI_pre, spDecI_post]
  repeat' first | apply And.intro | intro _ | omega | assumption | with_reducible rfl
  all_goals (first | (exact hpre.fs) | ((have h9 := topF_bds (s := t.s) ⟨x, y⟩; omega); done) | ((rw [hit_n (t := ks t) ‹_›]); done) | ((rw [hit_y (t := ks t) ‹_›]; rfl); done) | ((rw [hit_n (t := ks t) ‹_›]; rfl); done) | (skip; done))
theorem sat_spec_desk_hit : Sat Tryz.prog rt0 114 (wkIn spHit) := sat_in (sat_out sat_spec_desk_hit_0)
end
def spNumb_A : Dsk × ByteArray × (List Int) → List AV
  | (t, w, n) => [.c (.ptr 0 1 0 0), .c (.v (.string w)), .c (.sl false (n.map intC))]
def spNumb_B : Dsk × ByteArray × (List Int) → List Box
  | (t, w, n) => [⟨[dkC t], 8, 83, false, false⟩]
def spNumb_d : List AV → List Box → Option (Dsk × ByteArray × (List Int))
  | [.c (.ptr 0 1 0 0), .c (.v (.string a0)), .c (.sl _ a1)], [⟨[e], _, _, _, _⟩] => match dkCd e, decAll intCd a1 with
    | some t, some a1v => some (t, a0, a1v)
    | _, _ => none
  | _, _ => none
def spNumb_pre : Dsk × ByteArray × (List Int) → Prop
  | (t, w, n) => okSes (ks t) ∧ n.length ≤ 2000000000
def spNumb_post : Dsk × ByteArray × (List Int) → AV → List Box → Prop
  | (t, w, n), r, bs => r = .c (.v (.string ((numT (ks t) w n).1))) ∧ bs = [⟨[dkC (kd (numT (ks t) w n).2)], 8, 83, false, false⟩]
def spNumb : VE.Spec := famSpecM spNumb_A spNumb_B spNumb_d spNumb_pre spNumb_post 0 false [true] true
theorem spNumb_q : SpQ spNumb false [true] true 0 (fun a i => famPreM spNumb_d spNumb_A spNumb_B spNumb_pre a i) (fun a i r b => famPostM spNumb_d spNumb_post a i r b) := ⟨rfl, rfl, rfl, rfl, fun _ _ => rfl, fun _ _ _ _ => rfl⟩
theorem num_new1 {t : Ses} {w : ByteArray} {n : List Int} {a b : Int} (hw : w = ⟨#[110, 101, 119]⟩) (hl : (n.length : Int) = 2) (h0 : n[0]? = some a) (h1 : n[1]? = some b) : numT t w n = openT t a b := by subst hw; exact num_new hl h0 h1
theorem num_pix1 {t : Ses} {w : ByteArray} {n : List Int} {a b : Int} (hw : w = ⟨#[112, 105, 120, 101, 108]⟩) (hl : (n.length : Int) = 2) (h0 : n[0]? = some a) (h1 : n[1]? = some b) : numT t w n = (showS t a b, t) := by subst hw; exact num_pix hl h0 h1
theorem num_hit1 {t : Ses} {w : ByteArray} {n : List Int} {a b : Int} (hw : w = ⟨#[104, 105, 116]⟩) (hl : (n.length : Int) = 2) (h0 : n[0]? = some a) (h1 : n[1]? = some b) : numT t w n = (hitS t a b, t) := by subst hw; exact num_hit hl h0 h1
theorem num_colD {t : Ses} {w : ByteArray} {n : List Int} (hw : w = ⟨#[99, 111, 108, 111, 114]⟩) (hl : (n.length : Int) = 4) : numT t w n = colT t (n.getD 0 0) (n.getD 1 0) (n.getD 2 0) (n.getD 3 0) := by
  subst hw; unfold numT
  rw [if_neg (fun e => absurd e.1 (by decide)), if_pos ⟨rfl, by omega⟩]
def tb76 : Nat → Option VE.Spec := tabOf [(111, wkIn spOpen), (112, wkIn spSetC), (113, wkIn spShow), (114, wkIn spHit)]
theorem tb76_111 : tb76 111 = some (wkIn spOpen) := rfl
theorem tb76_112 : tb76 112 = some (wkIn spSetC) := rfl
theorem tb76_113 : tb76 113 = some (wkIn spShow) := rfl
theorem tb76_114 : tb76 114 = some (wkIn spHit) := rfl
theorem tb76_ok : TabOK Tryz.prog rt0 tb76 := (tabOf_cons (by kernel_rfl) sat_spec_desk_open (tabOf_cons (by kernel_rfl) sat_spec_desk_setColor (tabOf_cons (by kernel_rfl) sat_spec_desk_show (tabOf_cons (by kernel_rfl) sat_spec_desk_hit tabOf_nil))))
set_option maxHeartbeats 4000000 in
theorem sat_spec_desk_numbers_0 : Sat Tryz.prog rt0 76 (wkOut spNumb) := by
  refine fn_sat hm ttok (tab := tb76) tb76_ok Tryz.func76 (c := Tryz.f76.body.getD .skip) (by kernel_rfl) (ts := [.tmp 6]) (by kernel_rfl) Tryz.ntmps76 (sq := fun _ => true) (by kernel_rfl) ?_
  intro args ins pk hpre0 hpk
  obtain ⟨⟨t, w, n⟩, rfl, rfl, hpre, hdec⟩ := famPreM_ex hpre0
  clear hpre0 hdec
  try simp only [spNumb_pre] at hpre
  replace hpk : pk + 0 ≤ pickLimit := hpk
  refine ⟨nle rfl, ?_⟩
  simp (maxSteps := 1000000) only [go_sem, Tryz.f76, tb76_111, tb76_112, tb76_113, tb76_114, spNumb_q, spNumb_A, spNumb_B, spNumb_d, spNumb_pre, spNumb_post, spOpen_q, spOpen_A, spOpen_B, spOpen_d, spOpen_pre, spOpen_post, spSetC_q, spSetC_A, spSetC_B, spSetC_d, spSetC_pre, spSetC_post, spShow_q, spShow_A, spShow_B, spShow_d, spShow_pre, spShow_post, spHit_q, spHit_A, spHit_B, spHit_d, spHit_pre, spHit_post]
  repeat' first | apply And.intro | intro _ | omega | assumption | with_reducible rfl
  all_goals (first | (exact trivial) | (exact hpre.1) | omega | ((rw [num_new1 (t := ks t) ‹w = (⟨#[110, 101, 119]⟩ : ByteArray)› ‹_› ‹n[0]? = some _› ‹n[1]? = some _›]); done) | ((rw [num_new1 (t := ks t) ‹w = (⟨#[110, 101, 119]⟩ : ByteArray)› ‹_› ‹n[0]? = some _› ‹n[1]? = some _›]; rfl); done) | ((rw [num_colD (t := ks t) ‹w = (⟨#[99, 111, 108, 111, 114]⟩ : ByteArray)› ‹_›]); done) | ((rw [num_colD (t := ks t) ‹w = (⟨#[99, 111, 108, 111, 114]⟩ : ByteArray)› ‹_›]; rfl); done) | ((rw [num_pix1 (t := ks t) ‹w = (⟨#[112, 105, 120, 101, 108]⟩ : ByteArray)› ‹_› ‹n[0]? = some _› ‹n[1]? = some _›]); done) | ((rw [num_pix1 (t := ks t) ‹w = (⟨#[112, 105, 120, 101, 108]⟩ : ByteArray)› ‹_› ‹n[0]? = some _› ‹n[1]? = some _›]; rfl); done) | ((rw [num_hit1 (t := ks t) ‹w = (⟨#[104, 105, 116]⟩ : ByteArray)› ‹_› ‹n[0]? = some _› ‹n[1]? = some _›]); done) | ((rw [num_hit1 (t := ks t) ‹w = (⟨#[104, 105, 116]⟩ : ByteArray)› ‹_› ‹n[0]? = some _› ‹n[1]? = some _›]; rfl); done) | ((have q1 : w = (⟨#[110, 101, 119]⟩ : ByteArray) → ¬ (n.length : Int) = 2 := (by intro e; first|assumption|contradiction); have q2 : w = (⟨#[99, 111, 108, 111, 114]⟩ : ByteArray) → ¬ (n.length : Int) = 4 := (by intro e; first|assumption|contradiction); have q3 : w = (⟨#[112, 105, 120, 101, 108]⟩ : ByteArray) → ¬ (n.length : Int) = 2 := (by intro e; first|assumption|contradiction); have q4 : w = (⟨#[104, 105, 116]⟩ : ByteArray) → ¬ (n.length : Int) = 2 := (by intro e; first|assumption|contradiction); rw [num_what (t := ks t) q1 q2 q3 q4]); done) | ((have q1 : w = (⟨#[110, 101, 119]⟩ : ByteArray) → ¬ (n.length : Int) = 2 := (by intro e; first|assumption|contradiction); have q2 : w = (⟨#[99, 111, 108, 111, 114]⟩ : ByteArray) → ¬ (n.length : Int) = 4 := (by intro e; first|assumption|contradiction); have q3 : w = (⟨#[112, 105, 120, 101, 108]⟩ : ByteArray) → ¬ (n.length : Int) = 2 := (by intro e; first|assumption|contradiction); have q4 : w = (⟨#[104, 105, 116]⟩ : ByteArray) → ¬ (n.length : Int) = 2 := (by intro e; first|assumption|contradiction); rw [num_what (t := ks t) q1 q2 q3 q4]; rfl); done) | (skip; done))
theorem sat_spec_desk_numbers : Sat Tryz.prog rt0 76 (wkIn spNumb) := sat_in (sat_out sat_spec_desk_numbers_0)
section
def spLine_A : Dsk × ByteArray → List AV
  | (t, x) => [.c (.ptr 0 1 0 0), .c (.v (.string x))]
def spLine_B : Dsk × ByteArray → List Box
  | (t, x) => [⟨[dkC t], 8, 83, false, false⟩]
def spLine_d : List AV → List Box → Option (Dsk × ByteArray)
  | [.c (.ptr 0 1 0 0), .c (.v (.string a0))], [⟨[e], _, _, _, _⟩] => match dkCd e with
    | some t => some (t, a0)
    | _ => none
  | _, _ => none
def spLine_pre : Dsk × ByteArray → Prop
  | (t, x) => okSes (ks t) ∧ x.size ≤ 1000000000
def spLine_post : Dsk × ByteArray → AV → List Box → Prop
  | (t, x), r, bs => r = .c (.v (.string ((lineT (ks t) x).1))) ∧ bs = [⟨[dkC (kd (lineT (ks t) x).2)], 8, 83, false, false⟩]
def spLine : VE.Spec := famSpecM spLine_A spLine_B spLine_d spLine_pre spLine_post 0 false [true] true
theorem spLine_q : SpQ spLine false [true] true 0 (fun a i => famPreM spLine_d spLine_A spLine_B spLine_pre a i) (fun a i r b => famPostM spLine_d spLine_post a i r b) := ⟨rfl, rfl, rfl, rfl, fun _ _ => rfl, fun _ _ _ _ => rfl⟩
theorem fill_y {x : ByteArray} (h : (5 : Int) < x.size) (h2 : x.extract 0 5 = ⟨#[102, 105, 108, 108, 32]⟩) : isFill x = true := by unfold isFill; rw [decide_eq_true (by omega), decide_eq_true h2]; rfl
theorem fill_n1 {x : ByteArray} (h : ¬ (5 : Int) < x.size) : isFill x = false := by unfold isFill; rw [decide_eq_false (by omega)]; rfl
theorem fill_n2 {x : ByteArray} (h : ¬ x.extract 0 5 = ⟨#[102, 105, 108, 108, 32]⟩) : isFill x = false := by unfold isFill; rw [decide_eq_false h, Bool.and_false]
theorem wn_step {W : List (List UInt8)} {i : Int} {y : ByteArray} (hk : (W.map mkB)[i.toNat]? = some y) (h0 : 1 ≤ i) : ((W.drop 1).take (i - 1).toNat).map numW ++ [numW (tx y)] = ((W.drop 1).take (i + 1 - 1).toNat).map numW := by
  rw [List.getElem?_map] at hk
  obtain ⟨b, hb, rfl⟩ := Option.map_eq_some_iff.1 hk
  have h1 : (W.drop 1)[(i - 1).toNat]? = some b := by
    rw [List.getElem?_drop, ← hb]; congr 1; omega
  rw [show i + 1 - 1 = (i - 1) + 1 by omega, takeN h1 (by omega), List.map_append, tx_mk]; rfl
theorem wn_end {W : List (List UInt8)} {i : Int} (h : ¬ i < (W.length : Int)) : ((W.drop 1).take (i - 1).toNat).map numW = (W.drop 1).map numW := by
  rw [List.take_of_length_le (by rw [List.length_drop]; omega)]
theorem wn_len {W : List (List UInt8)} {i : Int} : (((W.drop 1).take (i - 1).toNat).map numW).length ≤ W.length := by
  rw [List.length_map, List.length_take, List.length_drop]; omega
theorem line_any {t : Ses} : lineT t ⟨#[97, 110, 121]⟩ = (⟨#[111, 107]⟩, ⟨t.s, t.c, 0⟩) := by unfold lineT; rw [if_pos rfl]
theorem line_even {t : Ses} : lineT t ⟨#[101, 118, 101, 110]⟩ = (⟨#[111, 107]⟩, ⟨t.s, t.c, 1⟩) := by unfold lineT; rw [if_neg (by decide), if_pos rfl]
theorem line_fil {t : Ses} {x : ByteArray} (h : isFill x = true) : lineT t x = (orB (fillOk t (x.extract 5 x.size)), fillT t (x.extract 5 x.size)) := by
  unfold lineT
  rw [if_neg (fun e => by subst e; exact absurd h (by decide)), if_neg (fun e => by subst e; exact absurd h (by decide)), if_pos h]
def tb45 : Nat → Option VE.Spec := tabOf [(75, wkIn spFill), (32, wkIn spSplA), (57, wkIn spNum), (76, wkIn spNumb)]
theorem tb45_75 : tb45 75 = some (wkIn spFill) := rfl
theorem tb45_32 : tb45 32 = some (wkIn spSplA) := rfl
theorem tb45_57 : tb45 57 = some (wkIn spNum) := rfl
theorem tb45_76 : tb45 76 = some (wkIn spNumb) := rfl
theorem tb45_ok : TabOK Tryz.prog rt0 tb45 := (tabOf_cons (by kernel_rfl) sat_spec_desk_fill (tabOf_cons (by kernel_rfl) sat_spec_splitAt (tabOf_cons (by kernel_rfl) sat_spec_parseInt (tabOf_cons (by kernel_rfl) sat_spec_desk_numbers tabOf_nil))))
section
attribute [local go_sem] Tryz.f45 tb45_75 tb45_32 tb45_57 tb45_76 spLine_q spLine_A spLine_B spLine_d spLine_pre spLine_post spFill_q spFill_A spFill_B spFill_d spFill_pre spFill_post spSplA_q spSplA_A spSplA_pre spSplA_post spNum_q spNum_A spNum_pre spNum_post spNumb_q spNumb_A spNumb_B spNumb_d spNumb_pre spNumb_post
set_option maxHeartbeats 4000000 in
theorem sat_spec_desk_line_0 : Sat Tryz.prog rt0 45 (wkOut spLine) := by
  refine fn_sat hm ttok (tab := tb45) tb45_ok Tryz.func45 (c := Tryz.f45.body.getD .skip) (by kernel_rfl) (ts := [.tmp 4]) (by kernel_rfl) Tryz.ntmps45 (sq := fun _ => true) (by kernel_rfl) ?_
  intro args ins pk hpre0 hpk
  obtain ⟨⟨t, x⟩, rfl, rfl, hpre, hdec⟩ := famPreM_ex hpre0
  clear hpre0 hdec
  try simp only [spLine_pre] at hpre
  replace hpk : pk + 0 ≤ pickLimit := hpk
  refine ⟨nle rfl, ?_⟩
  have hW := spl_num 32 (tx x)
  rw [tx_len] at hW
  have hW1 : 1 ≤ (spl 32 (tx x)).length := List.length_pos_iff.2 (spl_ne 32 (tx x))
  simp (maxSteps := 1000000) only [go_sem, u8_32]
  repeat' first | apply And.intro | intro _ | omega | assumption | with_reducible rfl
  any_goals
    refine loopS (α := (List Int) × Int) false [1, 2, 3, 6, 7, 8, 9, 10, 11, 12, 13, 14, 15, 16, 17, 18, 19, 20, 21, 22, 23, 24, 25, 26, 27, 28, 29, 30, 31, 32, 33, 34, 35, 36, 37, 38, 39, 40, 41, 42, 43, 44, 45, 46, 47, 48, 49] (fun σ => [gId (σ.get 6)]) (fun σ x => [(6, .c (.own (gId (σ.get 6)) (x.1).length false)), (7, I x.2)]) (fun σ x => [(gId (σ.get 6), some ⟨(x.1).map intC, 1, 3, true, false⟩)]) (fun (n, i) => 0) (fun σ => (gL intCd σ (σ.get 6), gI (σ.get 7))) (fun σ τ => [(gId (σ.get 6), gId (τ.get 6))]) (fun (n, i) => (1 ≤ i ∧ i ≤ (spl 32 (tx x)).length) ∧ n = (((spl 32 (tx x)).drop 1).take (i - 1).toNat).map numW) (fun (n, i) => ((spl 32 (tx x)).length - i).toNat) ⟨by (simp (maxSteps := 1000000) only [go_sem, u8_32]; (repeat' first | apply And.intro | intro _ | omega | assumption | with_reducible rfl); all_goals (first | rfl | omega | skip)), ?_⟩
    rintro ⟨n, i⟩ hinv
    try dsimp only at hinv
    rcases elemAt ((spl 32 (tx x)).map mkB) i (by omega) with ⟨hlt, y, hk⟩ | hlt
    all_goals (first | ((have hlt2 := of_eq_true hlt); all_goals simp (maxSteps := 1000000) only [go_sem, u8_32, hlt, hk]) | (have hlt2 := of_eq_false hlt; simp (maxSteps := 1000000) only [go_sem, u8_32, hlt]))
    all_goals
      repeat' first | apply And.intro | intro _ | omega | assumption | with_reducible rfl
  
  all_goals (first | omega | ((rw [List.length_map] at hlt2; omega); done) | (exact hpre.1) | (rw [‹x = _›, line_any]; (try rfl); done) | (rw [‹x = _›, line_even]; (try rfl); done) | ((rw [ByteArray.size_extract]; omega); done) | (rw [line_fil (t := ks t) (fill_y ‹_› ‹_›)]; (try rfl); done) | ((have h9 := (spl_at hk).1; omega); done) | ((have h9 := @wn_len (spl 32 (tx x)) i; rw [← hinv.2] at h9; omega); done) | ((rw [hinv.2]; exact wn_step hk hinv.1.1); done) | ((rw [line_what (t := ks t) (wd0 (spl_ex ‹∃ a, _ ∧ mkB a = _›)) ‹_› ‹_› (fill_n2 ‹_›), hinv.2, wn_end ‹_›]); done) | ((rw [line_what (t := ks t) (wd0 (spl_ex ‹∃ a, _ ∧ mkB a = _›)) ‹_› ‹_› (fill_n1 ‹_›), hinv.2, wn_end ‹_›]); done) | (skip; done))
end
theorem sat_spec_desk_line : Sat Tryz.prog rt0 45 (wkIn spLine) := sat_in (sat_out sat_spec_desk_line_0)
end
theorem num_ok {w : List UInt8} {n : Int} (h : Lib.atoiAll w = .ok n) (h2 : Lib.itoa n = w) (h3 : -9999 ≤ n ∧ n ≤ 9999) : numW w = n := by
  unfold numW; rw [h]; simp only; rw [if_pos ⟨h2, h3⟩]
theorem itoa_eq_tx2 {v : Int} {x : ByteArray} (h : mkB (Lib.itoa v) = x) : Lib.itoa v = tx x := by rw [← h, tx_mk]
theorem num_no1 {w : List UInt8} (h : ∀ n, Lib.atoiAll w ≠ .ok n) : numW w = 1001 := by
  unfold numW
  split
  · rename_i n hn; exact absurd hn (h n)
  · rfl
theorem num_no2 {w : List UInt8} {n : Int} (h : Lib.atoiAll w = .ok n) (h2 : ¬ (Lib.itoa n = w ∧ -9999 ≤ n ∧ n ≤ 9999)) : numW w = 1001 := by
  unfold numW; rw [h]; simp only; rw [if_neg h2]
def spWNum_A : ByteArray → List AV
  | x => [.c (.v (.string x))]
def spWNum_pre : ByteArray → Prop
  | x => x.size ≤ 1000000000
def spWNum_post : ByteArray → AV → List Box → Prop
  | x, r, bs => r = I (numW (tx x)) ∧ bs = []
def spWNum : VE.Spec := famSpec spWNum_A d_s spWNum_pre spWNum_post 0 true
theorem spWNum_q : SpQ spWNum true [] false 0 (fun a i => i = [] ∧ famPre d_s spWNum_A spWNum_pre a) (fun a i r b => famPost d_s spWNum_post a r b) := ⟨rfl, rfl, rfl, rfl, fun _ _ => rfl, fun _ _ _ _ => rfl⟩
def tb66 : Nat → Option VE.Spec := tabOf [(28, wkIn spAtoi), (36, wkIn spItoa), (38, wkIn spIn)]
theorem tb66_28 : tb66 28 = some (wkIn spAtoi) := rfl
theorem tb66_36 : tb66 36 = some (wkIn spItoa) := rfl
theorem tb66_38 : tb66 38 = some (wkIn spIn) := rfl
theorem tb66_ok : TabOK Tryz.prog rt0 tb66 := (tabOf_cons (by kernel_rfl) sat_strconv_Atoi (tabOf_cons (by kernel_rfl) sat_strconv_Itoa (tabOf_cons (by kernel_rfl) sat_impl_in tabOf_nil)))
set_option maxHeartbeats 4000000 in
theorem sat_impl_wordNumber_0 : Sat Tryz.prog rt0 66 (wkOut spWNum) := by
  refine fn_sat hm ttok (tab := tb66) tb66_ok Tryz.func66 (c := Tryz.f66.body.getD .skip) (by kernel_rfl) (ts := [.tmp 2]) (by kernel_rfl) Tryz.ntmps66 (sq := fun _ => true) (by kernel_rfl) ?_
  intro args ins pk hpre0 hpk
  obtain ⟨rfl, hpre0⟩ := hpre0
  obtain ⟨x, rfl, hpre, hdec⟩ := famPre_ex hpre0
  clear hpre0 hdec
  try simp only [spWNum_pre] at hpre
  replace hpk : pk + 0 ≤ pickLimit := hpk
  refine ⟨nle rfl, ?_⟩
  simp (maxSteps := 1000000) only [go_sem, Tryz.f66, tb66_28, tb66_36, tb66_38, spWNum_q, spWNum_A, spWNum_pre, spWNum_post, spAtoi_q, spAtoi_A, spAtoi_pre, spAtoi_post, spItoa_q, spItoa_A, spItoa_pre, spItoa_post, spIn_q, spIn_A, spIn_pre, spIn_post]
  repeat' first | apply And.intro | intro _ | omega | assumption | with_reducible rfl
  all_goals (first | omega | ((have h9 := Lib.atoiAll_bounds ‹Lib.atoiAll (tx x) = .ok _›; omega); done) | (exact (num_no1 ‹_›).symm) | ((exact (num_ok ‹Lib.atoiAll (tx x) = .ok _› (itoa_eq_tx2 ‹_›) ⟨‹_›, ‹_›⟩).symm); done) | ((rw [num_no2 ‹Lib.atoiAll (tx x) = .ok _› (fun e => ‹¬ _ = x› (by rw [e.1, mk_tx]))]); done) | ((rw [num_no2 ‹Lib.atoiAll (tx x) = .ok _› (fun e => ‹¬ (_ ∧ _)› e.2)]); done) | ((rw [num_no2 ‹Lib.atoiAll (tx x) = .ok _› (fun e => by have h1 := e.2; omega)]); done) | (skip; done))
theorem sat_impl_wordNumber : Sat Tryz.prog rt0 66 (wkIn spWNum) := sat_in (sat_out sat_impl_wordNumber_0)
def spOr_A : Bool → List AV
  | b => [B b]
def spOr_pre : Bool → Prop
  | b => True
def spOr_post : Bool → AV → List Box → Prop
  | b, r, bs => r = .c (.v (.string (orB b))) ∧ bs = []
def spOr : VE.Spec := famSpec spOr_A d_b spOr_pre spOr_post 0 true
theorem spOr_q : SpQ spOr true [] false 0 (fun a i => i = [] ∧ famPre d_b spOr_A spOr_pre a) (fun a i r b => famPost d_b spOr_post a r b) := ⟨rfl, rfl, rfl, rfl, fun _ _ => rfl, fun _ _ _ _ => rfl⟩
def tb69 : Nat → Option VE.Spec := tabOf []
theorem tb69_ok : TabOK Tryz.prog rt0 tb69 := tabOf_nil
set_option maxHeartbeats 4000000 in
theorem sat_impl_or_0 : Sat Tryz.prog rt0 69 (wkOut spOr) := by
  refine fn_sat hm ttok (tab := tb69) tb69_ok Tryz.func69 (c := Tryz.f69.body.getD .skip) (by kernel_rfl) (ts := [.tmp 2]) (by kernel_rfl) Tryz.ntmps69 (sq := fun _ => true) (by kernel_rfl) ?_
  intro args ins pk hpre0 hpk
  obtain ⟨rfl, hpre0⟩ := hpre0
  obtain ⟨b, rfl, hpre, hdec⟩ := famPre_ex hpre0
  clear hpre0 hdec
  try simp only [spOr_pre] at hpre
  replace hpk : pk + 0 ≤ pickLimit := hpk
  refine ⟨nle rfl, ?_⟩
  simp (maxSteps := 1000000) only [go_sem, Tryz.f69, spOr_q, spOr_A, spOr_pre, spOr_post]
  repeat' first | apply And.intro | intro _ | omega | assumption | with_reducible rfl
  all_goals (first | ((rw [‹b = true›]; rfl); done) | ((rw [‹b = false›]; rfl); done))
theorem sat_impl_or : Sat Tryz.prog rt0 69 (wkIn spOr) := sat_in (sat_out sat_impl_or_0)
def spHP_A : ByteArray × ByteArray → List AV
  | (x, z) => [.c (.v (.string x)), .c (.v (.string z))]
def spHP_pre : ByteArray × ByteArray → Prop
  | (x, z) => x.size ≤ 1000000000 ∧ z.size ≤ 1000000000
def spHP_post : ByteArray × ByteArray → AV → List Box → Prop
  | (x, z), r, bs => r = B (decide (z.size ≤ x.size) && decide (x.extract 0 z.size = z)) ∧ bs = []
def spHP : VE.Spec := famSpec spHP_A d_s_s spHP_pre spHP_post 0 true
theorem spHP_q : SpQ spHP true [] false 0 (fun a i => i = [] ∧ famPre d_s_s spHP_A spHP_pre a) (fun a i r b => famPost d_s_s spHP_post a r b) := ⟨rfl, rfl, rfl, rfl, fun _ _ => rfl, fun _ _ _ _ => rfl⟩
def tb99 : Nat → Option VE.Spec := tabOf []
theorem tb99_ok : TabOK Tryz.prog rt0 tb99 := tabOf_nil
set_option maxHeartbeats 4000000 in
theorem sat_internal_stringslite_HasPrefix_0 : Sat Tryz.prog rt0 99 (wkOut spHP) := by
  refine fn_sat hm ttok (tab := tb99) tb99_ok Tryz.func99 (c := Tryz.f99.body.getD .skip) (by kernel_rfl) (ts := [.tmp 4]) (by kernel_rfl) Tryz.ntmps99 (sq := fun _ => true) (by kernel_rfl) ?_
  intro args ins pk hpre0 hpk
  obtain ⟨rfl, hpre0⟩ := hpre0
  obtain ⟨⟨x, z⟩, rfl, hpre, hdec⟩ := famPre_ex hpre0
  clear hpre0 hdec
  try simp only [spHP_pre] at hpre
  replace hpk : pk + 0 ≤ pickLimit := hpk
  refine ⟨nle rfl, ?_⟩
  simp (maxSteps := 1000000) only [go_sem, Tryz.f99, spHP_q, spHP_A, spHP_pre, spHP_post]
  repeat' first | apply And.intro | intro _ | omega | assumption | with_reducible rfl
  all_goals (first | (rfl; done) | omega | ((simp_all; done); done) | ((simp_all; omega); done) | (skip; done))
theorem sat_internal_stringslite_HasPrefix : Sat Tryz.prog rt0 99 (wkIn spHP) := sat_in (sat_out sat_internal_stringslite_HasPrefix_0)
def tb70 : Nat → Option VE.Spec := tabOf [(99, wkIn spHP)]
theorem tb70_99 : tb70 99 = some (wkIn spHP) := rfl
theorem tb70_ok : TabOK Tryz.prog rt0 tb70 := (tabOf_cons (by kernel_rfl) sat_internal_stringslite_HasPrefix tabOf_nil)
set_option maxHeartbeats 4000000 in
theorem sat_strings_HasPrefix_0 : Sat Tryz.prog rt0 70 (wkOut spHP) := by
  refine fn_sat hm ttok (tab := tb70) tb70_ok Tryz.func70 (c := Tryz.f70.body.getD .skip) (by kernel_rfl) (ts := [.tmp 4]) (by kernel_rfl) Tryz.ntmps70 (sq := fun _ => true) (by kernel_rfl) ?_
  intro args ins pk hpre0 hpk
  obtain ⟨rfl, hpre0⟩ := hpre0
  obtain ⟨⟨x, z⟩, rfl, hpre, hdec⟩ := famPre_ex hpre0
  clear hpre0 hdec
  try simp only [spHP_pre] at hpre
  replace hpk : pk + 0 ≤ pickLimit := hpk
  refine ⟨nle rfl, ?_⟩
  simp (maxSteps := 1000000) only [go_sem, Tryz.f70, tb70_99, spHP_q, spHP_A, spHP_pre, spHP_post]
  repeat' first | apply And.intro | intro _ | omega | assumption | with_reducible rfl
  all_goals (first | (rfl; done) | omega | (exact hpre) | (skip; done))
theorem sat_strings_HasPrefix : Sat Tryz.prog rt0 70 (wkIn spHP) := sat_in (sat_out sat_strings_HasPrefix_0)
end Go.Proofs.YthphndhiacikaaaGreatDoor
