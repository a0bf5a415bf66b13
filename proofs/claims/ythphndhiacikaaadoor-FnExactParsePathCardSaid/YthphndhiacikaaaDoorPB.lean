/- Contracts of functions of the program vectorraster, each proved for all states that fit its description. No conditions. -/
import Derived.Test.YthphndhiacikaaaDoorPA
set_option linter.unusedSimpArgs false
set_option linter.unusedVariables false
section
set_option maxRecDepth 100000
set_option linter.unusedSimpArgs false
set_option linter.unusedVariables false
namespace Go.Proofs.YthphndhiacikaaaDoor
open Go Go.VE
def mids : List Pt → List Pt
  | a :: b :: r => mid a b :: mids (b :: r)
  | _ => []
theorem mids_len : ∀ l : List Pt, (mids l).length = l.length - 1
  | [] => rfl
  | [_] => rfl
  | a :: b :: r => by simp [mids, mids_len (b :: r)]
theorem mids_get : ∀ (l : List Pt) (i : Nat) (a b : Pt), l[i]? = some a → l[i + 1]? = some b → (mids l)[i]? = some (mid a b)
  | [], i, a, b, h, _ => by simp at h
  | [x], i, a, b, _, h => by simp at h
  | x :: y :: r, 0, a, b, h1, h2 => by simp at h1 h2; subst h1 h2; rfl
  | x :: y :: r, i + 1, a, b, h1, h2 => by
    simp only [List.getElem?_cons_succ] at h1 h2
    simp only [mids, List.getElem?_cons_succ]
    exact mids_get (y :: r) i a b h1 (by simpa using h2)
theorem mids_step {l : List Pt} {i : Int} {a b : Pt} (h1 : l[(i - 1).toNat]? = some a) (h2 : l[i.toNat]? = some b) (h0 : 1 ≤ i) : (mids l).take i.toNat = (mids l).take (i - 1).toNat ++ [mid a b] := by
  obtain ⟨j, hj⟩ : ∃ j : Nat, i = (j : Int) + 1 := ⟨(i - 1).toNat, by omega⟩
  subst hj
  rw [show ((j : Int) + 1 - 1).toNat = j by omega] at h1 ⊢
  rw [show ((j : Int) + 1).toNat = j + 1 by omega] at h2 ⊢
  rw [List.take_add_one, mids_get l j a b h1 h2]; rfl
structure okL (l : List Pt) : Prop where
  all : ∀ p ∈ l, okP p
theorem mid_ok {a b : Pt} (ha : okP a) (hb : okP b) : okP (mid a b) := by
  obtain ⟨a1, a2, a3, a4⟩ := ha
  obtain ⟨b1, b2, b3, b4⟩ := hb
  constructor <;> simp only [mid] <;> omega
theorem mids_ok : ∀ l : List Pt, okL l → okL (mids l)
  | [], _ => ⟨by intro p hp; cases hp⟩
  | [_], _ => ⟨by intro p hp; cases hp⟩
  | a :: b :: r, h => by
    refine ⟨fun p hp => ?_⟩
    simp only [mids, List.mem_cons] at hp
    rcases hp with rfl | hp
    · exact mid_ok (h.all _ (by simp)) (h.all _ (by simp))
    · exact (mids_ok (b :: r) ⟨fun q hq => h.all q (List.mem_cons_of_mem _ hq)⟩).all p hp
def splF : Nat → List Pt → List Pt
  | 0, _ => []
  | n + 1, c => c.headD default :: splF n (mids c)
def splB : Nat → List Pt → List Pt
  | 0, _ => []
  | n + 1, c => splB n (mids c) ++ [c.getLastD default]
def lefts (c : List Pt) : List Pt := splF c.length c
def rights (c : List Pt) : List Pt := splB c.length c
theorem lefts_of {c : List Pt} (h : 0 < c.length) : lefts c = c.headD default :: lefts (mids c) := by
  unfold lefts
  obtain ⟨n, hn⟩ : ∃ n, c.length = n + 1 := ⟨c.length - 1, by omega⟩
  rw [mids_len, hn]; rfl
theorem rights_of {c : List Pt} (h : 0 < c.length) : rights c = rights (mids c) ++ [c.getLastD default] := by
  unfold rights
  obtain ⟨n, hn⟩ : ∃ n, c.length = n + 1 := ⟨c.length - 1, by omega⟩
  rw [mids_len, hn]; rfl
theorem lefts_head {c : List Pt} {k : Pt} (h : c[0]? = some k) : k :: lefts (mids c) = lefts c := by
  have hl := (List.getElem?_eq_some_iff.1 h).1
  rw [lefts_of hl]
  cases c with
  | nil => cases h
  | cons a r => cases h; rfl
theorem rights_last {c : List Pt} {k : Pt} (h : c[((c.length : Int) - 1).toNat]? = some k) : rights (mids c) ++ [k] = rights c := by
  have hl := (List.getElem?_eq_some_iff.1 h).1
  rw [rights_of (c := c) (by omega)]
  rw [show ((c.length : Int) - 1).toNat = c.length - 1 by omega, ← List.getLast?_eq_getElem?] at h
  rw [List.getLastD_eq_getLast?, h]; rfl
theorem splF_len : ∀ n c, (splF n c).length = n
  | 0, _ => rfl
  | n + 1, c => by simp [splF, splF_len n]
theorem splB_len : ∀ n c, (splB n c).length = n
  | 0, _ => rfl
  | n + 1, c => by simp [splB, splB_len n]
theorem lefts_len (c : List Pt) : (lefts c).length = c.length := splF_len _ _
theorem rights_len (c : List Pt) : (rights c).length = c.length := splB_len _ _
theorem head_of {l : List Pt} {k : Pt} (h : l[0]? = some k) : l.headD default = k := by
  cases l with
  | nil => cases h
  | cons a r => cases h; rfl
theorem last_of {l : List Pt} {k : Pt} (h : l[((l.length : Int) - 1).toNat]? = some k) : l.getLastD default = k := by
  rw [show ((l.length : Int) - 1).toNat = l.length - 1 by omega, ← List.getLast?_eq_getElem?] at h
  rw [List.getLastD_eq_getLast?, h]; rfl
theorem last_mem (a : Pt) (r : List Pt) : (a :: r).getLastD default ∈ a :: r := by
  rw [List.getLastD_eq_getLast?, List.getLast?_eq_some_getLast (List.cons_ne_nil a r)]
  exact List.getLast_mem _
theorem splF_ok : ∀ n c, okL c → n ≤ c.length → okL (splF n c)
  | 0, _, _, _ => ⟨by intro p hp; cases hp⟩
  | n + 1, c, h, hn => by
    refine ⟨fun p hp => ?_⟩
    simp only [splF, List.mem_cons] at hp
    rcases hp with rfl | hp
    · cases c with
      | nil => simp at hn
      | cons a r => exact h.all a (by simp)
    · exact (splF_ok n (mids c) (mids_ok c h) (by rw [mids_len]; omega)).all p hp
theorem splB_ok : ∀ n c, okL c → n ≤ c.length → okL (splB n c)
  | 0, _, _, _ => ⟨by intro p hp; cases hp⟩
  | n + 1, c, h, hn => by
    refine ⟨fun p hp => ?_⟩
    simp only [splB, List.mem_append, List.mem_singleton] at hp
    rcases hp with hp | rfl
    · exact (splB_ok n (mids c) (mids_ok c h) (by rw [mids_len]; omega)).all p hp
    · cases c with
      | nil => simp at hn
      | cons a r => exact h.all _ (last_mem a r)
theorem lefts_ok {c : List Pt} (h : okL c) : okL (lefts c) := splF_ok _ _ h (Nat.le_refl _)
theorem rights_ok {c : List Pt} (h : okL c) : okL (rights c) := splB_ok _ _ h (Nat.le_refl _)
def dst (n : Int) : Int := if n < 0 then -n else n
def bend2 (a b c : Pt) : Int := max (dst (a.x - 2 * b.x + c.x)) (dst (a.y - 2 * b.y + c.y))
def bendP : List Pt → Int
  | a :: b :: c :: r => max (bend2 a b c) (bendP (b :: c :: r))
  | _ => 0
def flatP : Nat → List Pt → List Pt
  | 0, c => [c.getLastD default]
  | d + 1, c => if bendP c ≤ 8 then [c.getLastD default] else flatP d (lefts c) ++ flatP d (rights c)
theorem flatP_len : ∀ d c, 1 ≤ (flatP d c).length ∧ (flatP d c).length ≤ 2 ^ d
  | 0, c => by simp [flatP]
  | d + 1, c => by
    have h1 := flatP_len d (lefts c)
    have h2 := flatP_len d (rights c)
    unfold flatP
    split
    · simp; exact Nat.one_le_two_pow
    · rw [List.length_append, Nat.pow_succ]; omega
theorem flatP_ok : ∀ d c, okL c → 0 < c.length → okL (flatP d c)
  | 0, c, h, hc => by
    refine ⟨fun p hp => ?_⟩
    simp only [flatP, List.mem_singleton] at hp
    subst hp
    cases c with
    | nil => simp at hc
    | cons a r => exact h.all _ (last_mem a r)
  | d + 1, c, h, hc => by
    refine ⟨fun p hp => ?_⟩
    unfold flatP at hp
    split at hp
    · exact (flatP_ok 0 c h hc).all p (by simpa [flatP] using hp)
    · rcases List.mem_append.1 hp with hp | hp
      · exact (flatP_ok d _ (lefts_ok h) (by rw [lefts_len]; exact hc)).all p hp
      · exact (flatP_ok d _ (rights_ok h) (by rw [rights_len]; exact hc)).all p hp
theorem okL_get {l : List Pt} {i : Nat} {p : Pt} (h : okL l) (hp : l[i]? = some p) : okP p := h.all p (List.mem_of_getElem? hp)
end Go.Proofs.YthphndhiacikaaaDoor
end
section
set_option maxRecDepth 100000
set_option linter.unusedSimpArgs false
set_option linter.unusedVariables false
namespace Go.Proofs.YthphndhiacikaaaDoor
open Go Go.VE
def spSplit_A : (List Pt) → List AV
  | c => [.c (.sl false (c.map ptC))]
def spSplit_pre : (List Pt) → Prop
  | c => (1 ≤ c.length ∧ c.length ≤ 1000) ∧ okL c
def spSplit_post : (List Pt) → AV → List Box → Prop
  | c, r, bs => r = .tup [.c (.sl false (((lefts c)).map ptC)), .c (.sl false (((rights c)).map ptC))] ∧ bs = []
def spSplit : VE.Spec := famSpecS spSplit_A d_lpt spSplit_pre spSplit_post 0 true
theorem spSplit_q : spSplit.flat = true ∧ spSplit.mt = [] ∧ spSplit.shut = true ∧ spSplit.cost = 0 ∧ (∀ a i, spSplit.pre a i = (i = [] ∧ famPre d_lpt spSplit_A spSplit_pre a)) ∧ ∀ a i r b, spSplit.post a i r b = (famPost d_lpt spSplit_post a r b) := ⟨rfl, rfl, rfl, rfl, fun _ _ => rfl, fun _ _ _ _ => rfl⟩
end Go.Proofs.YthphndhiacikaaaDoor
end
section
set_option maxRecDepth 100000
set_option linter.unusedSimpArgs false
set_option linter.unusedVariables false
namespace Go.Proofs.YthphndhiacikaaaDoor
open Go Go.VE
theorem bend_step {c : List Pt} {i : Int} {a b d : Pt} (h1 : c[(i - 1).toNat]? = some a) (h2 : c[i.toNat]? = some b) (h3 : c[(i + 1).toNat]? = some d) (h0 : 1 ≤ i) : bendP (c.drop (i - 1).toNat) = max (bend2 a b d) (bendP (c.drop (i + 1 - 1).toNat)) := by
  have e1 := dropN h1 (by omega)
  rw [show i - 1 + 1 = i by omega] at e1
  have e2 := dropN h2 (by omega)
  have e3 := dropN h3 (by omega)
  rw [show (i + 1 - 1).toNat = i.toNat by omega, e1, e2, e3]; rfl
theorem bend_eq {c : List Pt} {i n : Int} {a b d a' b' d' : Pt} (e1 : c[(i - 1).toNat]? = some a) (e2 : c[i.toNat]? = some b) (e3 : c[(i + 1).toNat]? = some d) (e4 : c[(i - 1).toNat]? = some a') (e5 : c[i.toNat]? = some b') (e6 : c[(i + 1).toNat]? = some d') (h0 : 1 ≤ i) :
    max (max (max n (if a.x - 2 * b.x + d.x < 0 then -(a.x - 2 * b.x + d.x) else a.x - 2 * b.x + d.x)) (if a'.y - 2 * b'.y + d'.y < 0 then -(a'.y - 2 * b'.y + d'.y) else a'.y - 2 * b'.y + d'.y)) (bendP (c.drop (i + 1 - 1).toNat)) = max n (bendP (c.drop (i - 1).toNat)) := by
  cases e1.symm.trans e4
  cases e2.symm.trans e5
  cases e3.symm.trans e6
  rw [bend_step e1 e2 e3 h0]
  generalize bendP (c.drop (i + 1 - 1).toNat) = z
  show max (max (max n (dst _)) (dst _)) z = max n (max (max (dst _) (dst _)) z)
  omega
theorem bend_end {c : List Pt} {i : Int} (h : (c.length : Int) ≤ i + 1) (h0 : 1 ≤ i) : bendP (c.drop (i - 1).toNat) = 0 := by
  have : (c.drop (i - 1).toNat).length ≤ 2 := by rw [List.length_drop]; omega
  match hd : c.drop (i - 1).toNat with
  | [] => rfl
  | [_] => rfl
  | [_, _] => rfl
  | _ :: _ :: _ :: _ => rw [hd] at this; simp at this
theorem bend_nn : ∀ c : List Pt, 0 ≤ bendP c
  | [] => Int.le_refl _
  | [_] => Int.le_refl _
  | [_, _] => Int.le_refl _
  | a :: b :: d :: r => by have := bend_nn (b :: d :: r); unfold bendP; omega
theorem bend_0 (c : List Pt) : max 0 (bendP c) = bendP c := by have := bend_nn c; omega
theorem dst_bd {a b d : Int} (h1 : -3000 ≤ a ∧ a ≤ 3000) (h2 : -3000 ≤ b ∧ b ≤ 3000) (h3 : -3000 ≤ d ∧ d ≤ 3000) : 0 ≤ dst (a - 2 * b + d) ∧ dst (a - 2 * b + d) ≤ 12000 := by unfold dst; split <;> omega
def spBend_A : (List Pt) → List AV
  | c => [.c (.sl false (c.map ptC))]
def spBend_pre : (List Pt) → Prop
  | c => c.length ≤ 1000 ∧ okL c
def spBend_post : (List Pt) → AV → List Box → Prop
  | c, r, bs => r = I (bendP c) ∧ bs = []
def spBend : VE.Spec := famSpec spBend_A d_lpt spBend_pre spBend_post 0 true
theorem spBend_q : spBend.flat = true ∧ spBend.mt = [] ∧ spBend.shut = false ∧ spBend.cost = 0 ∧ (∀ a i, spBend.pre a i = (i = [] ∧ famPre d_lpt spBend_A spBend_pre a)) ∧ ∀ a i r b, spBend.post a i r b = (famPost d_lpt spBend_post a r b) := ⟨rfl, rfl, rfl, rfl, fun _ _ => rfl, fun _ _ _ _ => rfl⟩
end Go.Proofs.YthphndhiacikaaaDoor
end
section
set_option maxRecDepth 100000
set_option linter.unusedSimpArgs false
set_option linter.unusedVariables false
namespace Go.Proofs.YthphndhiacikaaaDoor
open Go Go.VE
def spFlat_A : List Pt × Int × Int → List AV
  | (c, l, d) => [.c (.sl false (c.map ptC)), I l, I d]
def spFlat_pre (D : Nat) : List Pt × Int × Int → Prop
  | (c, l, d) => (1 ≤ c.length ∧ c.length ≤ 1000) ∧ okL c ∧ l = 8 ∧ d = D
def spFlat_post (D : Nat) : List Pt × Int × Int → AV → List Box → Prop
  | (c, l, d), r, bs => r = .c (.own 0 (flatP D c).length false) ∧ bs = [⟨(flatP D c).map ptC, 2, 47, true, false⟩]
def spFlat (D : Nat) : VE.Spec := famSpec spFlat_A d_lpt_i_i (spFlat_pre D) (spFlat_post D) 0 true
theorem spFlat_q (D : Nat) : (spFlat D).flat = true ∧ (spFlat D).mt = [] ∧ (spFlat D).shut = false ∧ (spFlat D).cost = 0 ∧ (∀ a i, (spFlat D).pre a i = (i = [] ∧ famPre d_lpt_i_i spFlat_A (spFlat_pre D) a)) ∧ ∀ a i r b, (spFlat D).post a i r b = (famPost d_lpt_i_i (spFlat_post D) a r b) := ⟨rfl, rfl, rfl, rfl, fun _ _ => rfl, fun _ _ _ _ => rfl⟩
theorem flatP_yes {D : Nat} {c : List Pt} (h : bendP c ≤ 8) : flatP (D + 1) c = [c.getLastD default] := if_pos h
theorem flatP_no {D : Nat} {c : List Pt} (h : ¬ bendP c ≤ 8) : flatP (D + 1) c = flatP D (lefts c) ++ flatP D (rights c) := if_neg h
end Go.Proofs.YthphndhiacikaaaDoor
end
