/- Contracts of functions of the program vectorraster, each proved for all states that fit its description. No conditions. -/
import Derived.Test.YtofelomoieamoaaQ1A1
set_option maxRecDepth 100000
set_option linter.unusedSimpArgs false
set_option linter.unusedVariables false
namespace Go.Proofs.Ytofelomoieamoaa
open Go Go.VE
/-- The runs of a row: the last one grows, or a new one stands behind it. -/
def rStep (o : List Rn) (c : Colr) : List Rn :=
  match o.getLast? with
  | some r => if r.c = c then o.dropLast ++ [⟨r.c, r.m + 1⟩] else o ++ [⟨c, 1⟩]
  | none => o ++ [⟨c, 1⟩]
def rF (l : List Colr) : List Rn := l.foldl rStep []
def rX (o : List Rn) : List Colr := o.flatMap fun r => List.replicate r.m.toNat r.c
/-- Runs are positive, and neighbours differ; the last one's color differs from 'c' if one is given. -/
def isR : List Rn → Bool
  | [] => true
  | [r] => decide (1 ≤ r.m)
  | r :: q :: t => decide (1 ≤ r.m) && decide (r.c ≠ q.c) && isR (q :: t)
theorem rStep_nil (c : Colr) : rStep [] c = [⟨c, 1⟩] := rfl
theorem rStep_snoc (o : List Rn) (r : Rn) (c : Colr) : rStep (o ++ [r]) c = if r.c = c then o ++ [⟨r.c, r.m + 1⟩] else o ++ [r] ++ [⟨c, 1⟩] := by
  simp only [rStep, List.getLast?_append, List.getLast?_singleton, Option.some_or, List.dropLast_concat]
theorem rF_snoc (l : List Colr) (c : Colr) : rF (l ++ [c]) = rStep (rF l) c := by
  simp only [rF, List.foldl_append, List.foldl_cons, List.foldl_nil]
theorem rX_app (o p : List Rn) : rX (o ++ p) = rX o ++ rX p := by simp [rX]
theorem rX_one (r : Rn) : rX [r] = List.replicate r.m.toNat r.c := by simp [rX]
theorem isR_snoc : ∀ (o : List Rn) (r : Rn), isR (o ++ [r]) = (isR o && decide (1 ≤ r.m) && (match o.getLast? with | some q => decide (q.c ≠ r.c) | none => true))
  | [], r => by simp [isR]
  | [q], r => by
    simp only [List.cons_append, List.nil_append, isR, List.getLast?_singleton]
    cases decide (1 ≤ q.m) <;> cases decide (q.c ≠ r.c) <;> cases decide (1 ≤ r.m) <;> rfl
  | q :: p :: t, r => by
    have h := isR_snoc (p :: t) r
    simp only [List.cons_append, isR] at h ⊢
    rw [h]
    have e : (q :: p :: t).getLast? = (p :: t).getLast? := by simp [List.getLast?_cons_cons]
    rw [e]
    cases decide (1 ≤ q.m) <;> cases decide (q.c ≠ p.c) <;> simp
theorem snoc_cases {α : Type} (l : List α) : l = [] ∨ ∃ o r, l = o ++ [r] := by
  cases h : l.reverse with
  | nil => exact .inl (by simpa using h)
  | cons a t => exact .inr ⟨t.reverse, a, by rw [← List.reverse_reverse l, h, List.reverse_cons]⟩
theorem isR_step {o : List Rn} (h : isR o = true) (c : Colr) : isR (rStep o c) = true ∧ rX (rStep o c) = rX o ++ [c] := by
  rcases snoc_cases o with rfl | ⟨p, r, rfl⟩
  · exact ⟨by simp [rStep, isR], by simp [rStep, rX]⟩
  · rw [isR_snoc, Bool.and_eq_true, Bool.and_eq_true, decide_eq_true_eq] at h
    obtain ⟨⟨h1, h2⟩, h3⟩ := h
    rw [rStep_snoc]
    split
    · rename_i hc
      refine ⟨?_, ?_⟩
      · rw [isR_snoc, h1, decide_eq_true (show (1 : Int) ≤ r.m + 1 by omega)]
        simpa using h3
      · rw [rX_app, rX_app, rX_one, rX_one, List.append_assoc]
        congr 1
        have e : (r.m + 1).toNat = r.m.toNat + 1 := by omega
        dsimp only
        rw [e, List.replicate_succ', hc]
    · rename_i hc
      refine ⟨?_, ?_⟩
      · rw [isR_snoc, isR_snoc, h1, decide_eq_true h2, h3, List.getLast?_append]
        simp [hc]
      · rw [rX_app (p ++ [r]), rX_one]; rfl
theorem rF_ok : ∀ (n : Nat) (l : List Colr), l.length = n → isR (rF l) = true ∧ rX (rF l) = l
  | 0, l, h => by
    have : l = [] := List.length_eq_zero_iff.1 h
    subst this; exact ⟨rfl, rfl⟩
  | n + 1, l, h => by
    rcases snoc_cases l with rfl | ⟨o, c, rfl⟩
    · simp at h
    · obtain ⟨h1, h2⟩ := rF_ok n o (by simpa using h)
      rw [rF_snoc]
      have := isR_step h1 c
      exact ⟨this.1, by rw [this.2, h2]⟩
theorem rF_is (l : List Colr) : isR (rF l) = true := (rF_ok _ l rfl).1
theorem rF_x (l : List Colr) : rX (rF l) = l := (rF_ok _ l rfl).2
/-- A whole run at once. -/
theorem rF_rep {l : List Colr} {c : Colr} (h : ∀ q, (rF l).getLast? = some q → q.c ≠ c) : ∀ n : Nat, rF (l ++ List.replicate (n + 1) c) = rF l ++ [⟨c, (n : Int) + 1⟩]
  | 0 => by
    rw [List.replicate_one, rF_snoc]
    unfold rStep
    split
    · rename_i r hr; rw [if_neg (h r hr)]; rfl
    · rfl
  | n + 1 => by
    rw [List.replicate_succ', ← List.append_assoc, rF_snoc, rF_rep h n, rStep_snoc, if_pos rfl]
    simp
theorem rF_rX : ∀ (n : Nat) (o : List Rn), o.length = n → isR o = true → rF (rX o) = o
  | 0, o, h, _ => by
    have : o = [] := List.length_eq_zero_iff.1 h
    subst this; rfl
  | n + 1, o, h, hr => by
    rcases snoc_cases o with rfl | ⟨p, r, rfl⟩
    · simp at h
    · rw [isR_snoc, Bool.and_eq_true, Bool.and_eq_true, decide_eq_true_eq] at hr
      obtain ⟨⟨h1, h2⟩, h3⟩ := hr
      have ih := rF_rX n p (by simpa using h) h1
      have e : r.m.toNat = (r.m - 1).toNat + 1 := by omega
      rw [rX_app, rX_one, e, rF_rep (fun q hq => by rw [ih] at hq; rw [hq] at h3; simpa using h3), ih]
      have e2 : (((r.m - 1).toNat : Int) + 1) = r.m := by omega
      rw [e2]
theorem rF_of {o : List Rn} (h : isR o = true) : rF (rX o) = o := rF_rX _ o rfl h
theorem isR_iff {o : List Rn} : rF (rX o) = o ↔ isR o = true := ⟨fun h => h ▸ rF_is _, rF_of⟩
theorem isR_at : ∀ {o : List Rn} {i : Nat} {r : Rn}, isR o = true → o[i]? = some r → 1 ≤ r.m
  | [q], 0, r, h, hi => by
    simp only [List.getElem?_cons_zero, Option.some.injEq] at hi; subst hi
    simpa [isR] using h
  | [q], i + 1, r, h, hi => by simp at hi
  | q :: p :: t, 0, r, h, hi => by
    simp only [List.getElem?_cons_zero, Option.some.injEq] at hi; subst hi
    simp only [isR, Bool.and_eq_true, decide_eq_true_eq] at h; exact h.1.1
  | q :: p :: t, i + 1, r, h, hi => by
    simp only [isR, Bool.and_eq_true] at h
    exact isR_at (o := p :: t) (i := i) h.2 (by simpa using hi)
theorem isR_ne : ∀ {o : List Rn} {i : Nat} {r q : Rn}, isR o = true → o[i]? = some r → o[i + 1]? = some q → r.c ≠ q.c
  | [_], i, r, q, h, hi, hq => by simp at hq
  | a :: p :: t, 0, r, q, h, hi, hq => by
    simp only [List.getElem?_cons_zero, List.getElem?_cons_succ, Option.some.injEq] at hi hq; subst hi; subst hq
    simp only [isR, Bool.and_eq_true, decide_eq_true_eq] at h; exact h.1.2
  | a :: p :: t, i + 1, r, q, h, hi, hq => by
    simp only [isR, Bool.and_eq_true] at h
    exact isR_ne (o := p :: t) (i := i) h.2 (by simpa using hi) (by simpa using hq)
theorem rX_take {o : List Rn} {i : Nat} {r : Rn} (h : o[i]? = some r) : rX (o.take (i + 1)) = rX (o.take i) ++ List.replicate r.m.toNat r.c := by
  rw [List.take_add_one, h, Option.toList_some, rX_app, rX_one]
theorem rX_le (o : List Rn) (i : Nat) : (rX (o.take i)).length ≤ (rX o).length := by
  have h : o = o.take i ++ o.drop i := (List.take_append_drop i o).symm
  have : (rX o).length = (rX (o.take i)).length + (rX (o.drop i)).length := by
    conv => lhs; rw [h, rX_app, List.length_append]
  omega
theorem rX_lenR : ∀ {o : List Rn}, isR o = true → o.length ≤ (rX o).length
  | [], _ => by simp
  | [r], h => by
    have : 1 ≤ r.m := by simpa [isR] using h
    rw [rX_one]; simp; omega
  | r :: q :: t, h => by
    simp only [isR, Bool.and_eq_true, decide_eq_true_eq] at h
    have ih := rX_lenR h.2
    have e : rX (r :: q :: t) = rX [r] ++ rX (q :: t) := rX_app [r] (q :: t)
    rw [e, List.length_append, rX_one, List.length_replicate]
    simp only [List.length_cons] at ih ⊢
    omega
theorem isR_take : ∀ {o : List Rn} {i : Nat} {r : Rn}, isR (o.take i) = true → o[i]? = some r → 1 ≤ r.m → (∀ q, 0 < i → o[i - 1]? = some q → q.c ≠ r.c) → isR (o.take (i + 1)) = true := by
  intro o i r h hi h1 h2
  rw [List.take_add_one, hi, Option.toList_some, isR_snoc, h, decide_eq_true h1]
  cases hl : (o.take i).getLast? with
  | none => rfl
  | some q =>
    have hk : i ≤ o.length := by have := (List.getElem?_eq_some_iff.1 hi).1; omega
    have h0 : 0 < i := by
      cases i with
      | zero => simp at hl
      | succ => omega
    have hq : o[i - 1]? = some q := by
      rw [List.getLast?_eq_getElem?, List.length_take, Nat.min_eq_left hk, List.getElem?_take] at hl
      rw [if_pos (by omega)] at hl; exact hl
    simpa using h2 q h0 hq
theorem isR_takeN {o : List Rn} (h : isR o = true) (i : Nat) : isR (o.take i) = true := by
  have key : ∀ (n : Nat) (p q : List Rn), q.length = n → isR (p ++ q) = true → isR p = true := by
    intro n
    induction n with
    | zero => intro p q hq hp; rw [List.length_eq_zero_iff.1 hq, List.append_nil] at hp; exact hp
    | succ n ih =>
      intro p q hq hp
      rcases snoc_cases q with rfl | ⟨t, r, rfl⟩
      · simp at hq
      · rw [← List.append_assoc, isR_snoc, Bool.and_eq_true, Bool.and_eq_true] at hp
        exact ih p t (by simpa using hq) hp.1.1
  exact key _ (o.take i) (o.drop i) rfl (by rw [List.take_append_drop]; exact h)
def bdR (px : List Colr) (i : Nat) : Prop := ∀ c q, px[i]? = some c → (rF (px.take i)).getLast? = some q → q.c ≠ c
theorem bdR_0 (px : List Colr) : bdR px 0 := fun c q _ h => by simp [rF] at h
theorem sp_1 {px : List Colr} {i : Nat} {c : Colr} (h : px[i]? = some c) : px.take (i + 1) = px.take i ++ List.replicate 1 c := by
  rw [List.take_add_one, h]; rfl
theorem sp_in {px : List Colr} {i n : Nat} {c : Colr} (h : px.take (i + n) = px.take i ++ List.replicate n c) (hk : px[i + n]? = some c) : px.take (i + (n + 1)) = px.take i ++ List.replicate (n + 1) c := by
  rw [← Nat.add_assoc, List.take_add_one, h, hk, List.replicate_succ', List.append_assoc]; rfl
theorem sp_out {px : List Colr} {i n : Nat} {c : Colr} (hb : bdR px i) (hi : px[i]? = some c) (hn : 1 ≤ n) (h : px.take (i + n) = px.take i ++ List.replicate n c) : rF (px.take (i + n)) = rF (px.take i) ++ [⟨c, n⟩] := by
  have e : n = (n - 1) + 1 := by omega
  rw [h]
  conv => lhs; rw [e]
  rw [rF_rep (fun q hq => hb c q hi hq), show (((n - 1 : Nat) : Int) + 1) = n by omega]
theorem sp_bd {px : List Colr} {i n : Nat} {c : Colr} (hb : bdR px i) (hi : px[i]? = some c) (hn : 1 ≤ n) (h : px.take (i + n) = px.take i ++ List.replicate n c) (hd : ∀ d, px[i + n]? = some d → d ≠ c) : bdR px (i + n) := by
  intro d q h1 h2
  rw [sp_out hb hi hn h, List.getLast?_append] at h2
  simp only [List.getLast?_singleton, Option.some_or, Option.some.injEq] at h2
  subst h2
  exact fun h3 => hd d h1 h3.symm
def rnF (f : Frm) : List Rn := if vFrm f = true then rF f.px else []
def okFF (w h : Int) (o : List Rn) : Bool := isR o && vFrm ⟨w, h, rX o⟩
def ffF (w h : Int) (o : List Rn) : Frm := if okFF w h o = true then ⟨w, h, rX o⟩ else ⟨0, 0, []⟩
theorem rn_yes {f : Frm} (h : vFrm f = true) : rnF f = rF f.px := if_pos h
theorem rn_no {f : Frm} (h : vFrm f = false) : rnF f = [] := if_neg (by rw [h]; decide)
theorem ff_yes {w h : Int} {o : List Rn} (x : okFF w h o = true) : ffF w h o = ⟨w, h, rX o⟩ := if_pos x
theorem ff_no {w h : Int} {o : List Rn} (x : okFF w h o = false) : ffF w h o = ⟨0, 0, []⟩ := if_neg (by rw [x]; decide)
theorem ff_parts {w h : Int} {o : List Rn} (x : okFF w h o = true) : isR o = true ∧ vFrm ⟨w, h, rX o⟩ = true ∧ szd w h = true ∧ ((rX o).length : Int) = w * h := by
  simp only [okFF, Bool.and_eq_true] at x
  have x2 := x.2
  simp only [vFrm, Bool.and_eq_true, decide_eq_true_eq] at x2
  exact ⟨x.1, x.2, x2.1.1, x2.1.2⟩
theorem ff_many {w h : Int} {o : List Rn} {i : Nat} {r : Rn} (x : okFF w h o = true) (hi : o[i]? = some r) : 1 ≤ r.m ∧ r.m ≤ w * h - (rX (o.take i)).length ∧ r.m ≤ 144 - (rX (o.take i)).length := by
  obtain ⟨h1, h2, h3, h4⟩ := ff_parts x
  have hm := isR_at h1 hi
  have hl := rX_le o (i + 1)
  rw [rX_take hi, List.length_append, List.length_replicate] at hl
  have := wh_bd h3
  omega
theorem bool_no {b : Bool} (h : b = true → False) : b = false := by cases b with
  | true => exact (h rfl).elim
  | false => rfl
theorem ff_n1 {w h : Int} {o : List Rn} {i : Nat} {r : Rn} (hi : o[i]? = some r) (hb : ¬ (1 ≤ r.m ∧ r.m ≤ 144 - (rX (o.take i)).length)) : okFF w h o = false := bool_no fun x => hb ⟨(ff_many x hi).1, (ff_many x hi).2.2⟩
theorem ff_n2 {w h : Int} {o : List Rn} {i : Nat} {r : Rn} (hi : o[i]? = some r) (hb : ¬ (1 ≤ r.m ∧ r.m ≤ w * h - (rX (o.take i)).length)) : okFF w h o = false := bool_no fun x => hb ⟨(ff_many x hi).1, (ff_many x hi).2.1⟩
theorem ff_n3 {w h : Int} {o : List Rn} {i : Nat} {r q : Rn} (hi : o[i]? = some r) (hq : o[i + 1]? = some q) (hb : r.c = q.c) : okFF w h o = false := bool_no fun x => isR_ne (ff_parts x).1 hi hq hb
theorem ff_n4 {w h : Int} {o : List Rn} (hb : w * h < (o.length : Int)) : okFF w h o = false := bool_no fun x => by
  have h1 := rX_lenR (ff_parts x).1
  have h2 := (ff_parts x).2.2.2
  omega
theorem ff_n5 {w h : Int} {o : List Rn} (hb : vFrm ⟨w, h, rX o⟩ = false) : okFF w h o = false := bool_no fun x => by rw [(ff_parts x).2.1] at hb; cases hb
theorem ff_n6 {w h : Int} {o : List Rn} (hb : szd w h = false) : okFF w h o = false := bool_no fun x => by rw [(ff_parts x).2.2.1] at hb; cases hb
theorem ff_n7 {w h : Int} {o : List Rn} (hv : vFrm ⟨w, h, rX o⟩ = true) (hb : ¬ rnF ⟨w, h, rX o⟩ = o) : okFF w h o = false := bool_no fun x => hb (by rw [rn_yes hv]; exact rF_of (ff_parts x).1)
theorem ff_y1 {w h : Int} {o : List Rn} (hv : vFrm ⟨w, h, rX o⟩ = true) (hb : rnF ⟨w, h, rX o⟩ = o) : okFF w h o = true := by
  rw [rn_yes hv] at hb
  rw [okFF, isR_iff.1 hb, hv]; rfl
theorem ff_y2 {w h : Int} {o : List Rn} (hv : vFrm ⟨w, h, rX o⟩ = true) (hb : isR o = true) : okFF w h o = true := by
  rw [okFF, hb, hv]; rfl
/-- Runs lose nothing. -/
theorem ff_rn {f : Frm} (h : vFrm f = true) : okFF f.w f.h (rF f.px) = true ∧ ffF f.w f.h (rF f.px) = f := by
  have e : okFF f.w f.h (rF f.px) = true := by
    rw [okFF, rF_is, rF_x]; exact h
  exact ⟨e, by rw [ff_yes e, rF_x]⟩
theorem rn_ff {w h : Int} {o : List Rn} (x : okFF w h o = true) : rnF (ffF w h o) = o := by
  rw [ff_yes x, rn_yes (ff_parts x).2.1]; exact rF_of (ff_parts x).1
theorem rF_len (l : List Colr) : (rF l).length ≤ l.length := by
  have := rX_lenR (rF_is l); rwa [rF_x] at this
theorem rF_snoc_take {l : List Colr} {i : Nat} {c : Colr} (h : l[i]? = some c) : rF (l.take (i + 1)) = rStep (rF (l.take i)) c := by
  rw [List.take_add_one, h, Option.toList_some, rF_snoc]
theorem rStep_same {o : List Rn} {r : Rn} {c : Colr} {k : Nat} (h : o[k]? = some r) (hl : k + 1 = o.length) (hc : r.c = c) : rStep o c = o.set k ⟨r.c, r.m + 1⟩ := by
  rcases snoc_cases o with rfl | ⟨p, q, rfl⟩
  · simp at h
  · have hk : k = p.length := by simp at hl; omega
    subst hk
    simp only [List.length_append, List.getElem?_append_right (Nat.le_refl _), Nat.sub_self, List.getElem?_cons_zero, Option.some.injEq] at h
    subst h
    rw [rStep_snoc, if_pos hc, List.set_append_right _ _ (Nat.le_refl _), Nat.sub_self, List.set_cons_zero]
theorem rStep_new {o : List Rn} {r : Rn} {c : Colr} {k : Nat} (h : o[k]? = some r) (hl : k + 1 = o.length) (hc : ¬ r.c = c) : rStep o c = o ++ [⟨c, 1⟩] := by
  have : o.getLast? = some r := by rw [List.getLast?_eq_getElem?, show o.length - 1 = k by omega]; exact h
  simp only [rStep, this, if_neg hc]
theorem rStep_first {o : List Rn} {c : Colr} (h : o.length = 0) : rStep o c = o ++ [⟨c, 1⟩] := by
  have : o = [] := List.length_eq_zero_iff.1 h
  subst this; rfl
attribute [irreducible] bdR
def spClipR_A : List Rn → List AV := fun l => [.c (.own 0 l.length false)]
def spClipR_B : List Rn → List Box := fun l => [⟨l.map rnC, 5, 46, true, false⟩]
def spClipR_d : List AV → List Box → Option (List Rn)
  | [.c (.own 0 _ false)], [⟨es, _, _, _, _⟩] => decAll rnCd es
  | _, _ => none
def spClipR_pre : List Rn → Prop := fun l => l.length ≤ 1000000000
def spClipR_post : List Rn → AV → List Box → Prop := fun l r bs => r = .c (.own 0 (l).length false) ∧ bs = [⟨(l).map rnC, 5, 46, true, false⟩]
def spClipR : VE.Spec := famSpecM spClipR_A spClipR_B spClipR_d spClipR_pre spClipR_post 0 false [true] false
theorem spClipR_q : spClipR.flat = false ∧ spClipR.mt = [true] ∧ spClipR.shut = false ∧ spClipR.cost = 0 ∧ (∀ a i, spClipR.pre a i = (famPreM spClipR_d spClipR_A spClipR_B spClipR_pre a i)) ∧ ∀ a i r b, spClipR.post a i r b = (famPostM spClipR_d spClipR_post a i r b) := ⟨rfl, rfl, rfl, rfl, fun _ _ => rfl, fun _ _ _ _ => rfl⟩
def tb50 : Nat → Option VE.Spec := tabOf []
theorem tb50_ok : TabOK Try.prog rt0 tb50 := tabOf_nil
set_option maxHeartbeats 4000000 in
theorem sat_slices_Clip_impl_Run_impl_Run_0 : Sat Try.prog rt0 50 (wkOut spClipR) := by
  refine fn_sat hm ttok (tab := tb50) tb50_ok Try.func50 (c := Try.f50.body.getD .skip) (by kernel_rfl) (ts := [.tmp 2]) (by kernel_rfl) Try.ntmps50 (sq := fun _ => true) (by kernel_rfl) ?_
  intro args ins pk hpre0 hpk
  obtain ⟨l, rfl, rfl, hpre, hdec⟩ := famPreM_ex hpre0
  clear hpre0 hdec
  try simp only [spClipR_pre] at hpre
  replace hpk : pk + 0 ≤ pickLimit := hpk
  refine ⟨Nat.le_of_ble_eq_true rfl, ?_⟩
  simp (config := { maxSteps := 1000000 }) only [go_sem, ↓ifP_true, ↓ifP_false, ↓ifP_not, Nat.reduceLT, Nat.reduceAdd, Nat.reduceBEq, Nat.reduceSub, Nat.reduceLeDiff, Nat.reduceEqDiff, Nat.reduceMul, Int.reduceToNat, Int.reduceEq, Int.reduceLT, Int.reduceLE, Int.reduceAdd, Int.reduceSub, Int.reduceMul, reduceCtorEq, cond_true, cond_false, forall_eq', forall_eq, forall_const, implies_true, if_true, if_false, exists_eq_left', exists_eq', exists_eq, ne_eq, Try.f50, spClipR_q, spClipR_A, spClipR_B, spClipR_d, spClipR_pre, spClipR_post]
  repeat' (first | apply And.intro | (intro _) | omega | assumption | with_reducible rfl)
  all_goals (first | (omega; done))
theorem sat_slices_Clip_impl_Run_impl_Run : Sat Try.prog rt0 50 (wkIn spClipR) := sat_in (sat_out sat_slices_Clip_impl_Run_impl_Run_0)
end Go.Proofs.Ytofelomoieamoaa
