/- Contracts of functions of the program vectorraster, each proved for all states that fit its description. No conditions. -/
import Derived.Test.YthphndhiacikaaaDoorT2M0
set_option maxRecDepth 100000
set_option linter.unusedSimpArgs false
set_option linter.unusedVariables false
namespace Go.Proofs.YthphndhiacikaaaDoor
open Go Go.VE
/-! Paths as texts. -/
def letter (k : Int) : UInt8 := [77, 76, 81, 67, 90].getD k.toNat 0
def ptWord (q : Pt) : List UInt8 := Lib.itoa q.x ++ 44 :: Lib.itoa q.y
def vWords (v : Verb) : List (List UInt8) := [letter v.k] :: v.ps.map ptWord
def words (p : List Verb) : List (List UInt8) := p.flatMap vWords
def fmtL (p : List Verb) : List UInt8 := Lib.join (words p) [32]
theorem words_snoc (p : List Verb) (v : Verb) : words (p ++ [v]) = words p ++ vWords v := by simp [words]
theorem words_ne {p : List Verb} (h : p ≠ []) : words p ≠ [] := by
  cases p with
  | nil => exact absurd rfl h
  | cons v p => simp [words, vWords]
theorem join_snoc {ws : List (List UInt8)} (h : ws ≠ []) (w sep : List UInt8) : Lib.join (ws ++ [w]) sep = Lib.join ws sep ++ sep ++ w := by
  cases ws with
  | nil => exact absurd rfl h
  | cons a r => rw [List.cons_append, Lib.join_cons, Lib.join_cons]; simp [Lib.joinTail, List.append_assoc]
theorem letter_one {k : Int} (h0 : 0 ≤ k) (h1 : k ≤ 4) : letter k = 77 ∧ k = 0 ∨ letter k = 76 ∧ k = 1 ∨ letter k = 81 ∧ k = 2 ∨ letter k = 67 ∧ k = 3 ∨ letter k = 90 ∧ k = 4 := by
  have : k = 0 ∨ k = 1 ∨ k = 2 ∨ k = 3 ∨ k = 4 := by omega
  rcases this with rfl | rfl | rfl | rfl | rfl <;> simp [letter]
theorem ptWord_len (q : Pt) : 3 ≤ (ptWord q).length := by
  have h1 := List.length_pos_iff.2 (itoa_ne q.x)
  have h2 := List.length_pos_iff.2 (itoa_ne q.y)
  simp only [ptWord, List.length_append, List.length_cons]
  omega
theorem itoa_no (n : Int) (c : UInt8) (h : c ≠ 45) (h2 : ¬ (48 ≤ c.toNat ∧ c.toNat ≤ 57)) : c ∉ Lib.itoa n := fun hc => (itoa_chars n c hc).elim h h2
theorem words_sp {p : List Verb} (h : ∀ v ∈ p, 0 ≤ v.k ∧ v.k ≤ 4) : ∀ w ∈ words p, (32 : UInt8) ∉ w := by
  intro w hw
  simp only [words, List.mem_flatMap, vWords, List.mem_cons, List.mem_map] at hw
  obtain ⟨v, hv, rfl | ⟨q, _, rfl⟩⟩ := hw
  · obtain ⟨h0, h1⟩ := h v hv
    rcases letter_one h0 h1 with ⟨e, _⟩ | ⟨e, _⟩ | ⟨e, _⟩ | ⟨e, _⟩ | ⟨e, _⟩ <;> simp [e]
  · intro hc
    rcases List.mem_append.1 hc with hc | hc
    · exact itoa_no _ _ (by decide) (by decide) hc
    · rcases List.mem_cons.1 hc with hc | hc
      · cases hc
      · exact itoa_no _ _ (by decide) (by decide) hc
theorem spl_fmt {p : List Verb} (hp : p ≠ []) (h : ∀ v ∈ p, 0 ≤ v.k ∧ v.k ≤ 4) : spl 32 (fmtL p) = words p := spl_join 32 (words_ne hp) (words_sp h)
/-- A point is put behind the last verb's. -/
def addPt : List Verb → Pt → List Verb
  | [], _ => []
  | [v], q => [⟨v.k, v.ps ++ [q]⟩]
  | v :: w :: r, q => v :: addPt (w :: r) q
theorem addPt_snoc (p : List Verb) (k : Int) (ps : List Pt) (q : Pt) : addPt (p ++ [⟨k, ps⟩]) q = p ++ [⟨k, ps ++ [q]⟩] := by
  induction p with
  | nil => rfl
  | cons v p ih => cases p with
    | nil => rfl
    | cons w r => simp only [List.cons_append, addPt] at ih ⊢; rw [ih]
theorem foldl_map_pts {α : Type} (f : α → List UInt8 → α) (g : α → Pt → α) (q : Pt → Prop) (h : ∀ a p, q p → f a (ptWord p) = g a p) : ∀ (l : List Pt) (a : α), (∀ p ∈ l, q p) → (l.map ptWord).foldl f a = l.foldl g a
  | [], _, _ => rfl
  | p :: r, a, hq => by
    simp only [List.map_cons, List.foldl_cons, h a p (hq p (by simp))]
    exact foldl_map_pts f g q h r _ fun x hx => hq x (by simp [hx])
theorem foldl_addPt (p : List Verb) (k : Int) : ∀ (l ps : List Pt), l.foldl addPt (p ++ [⟨k, ps⟩]) = p ++ [⟨k, ps ++ l⟩]
  | [], ps => by simp
  | q :: r, ps => by
    rw [List.foldl_cons, addPt_snoc, foldl_addPt p k r]
    simp
/-- What a reading of words does, if it meets letters and points as they should be. -/
theorem fold_words {α : Type} (f : α → List UInt8 → α) (mk : List Verb → α) (okp : Pt → Prop)
    (hl : ∀ p k, 0 ≤ k → k ≤ 4 → f (mk p) [letter k] = mk (p ++ [⟨k, []⟩])) (hp : ∀ p q, p ≠ [] → okp q → f (mk p) (ptWord q) = mk (addPt p q)) :
    ∀ (r p : List Verb), (∀ v ∈ r, (0 ≤ v.k ∧ v.k ≤ 4) ∧ ∀ q ∈ v.ps, okp q) → (words r).foldl f (mk p) = mk (p ++ r)
  | [], p, _ => by simp [words]
  | v :: r, p, h => by
    obtain ⟨⟨h0, h1⟩, h2⟩ := h v (by simp)
    have key : ∀ (l ps : List Pt), (∀ q ∈ l, okp q) → (l.map ptWord).foldl f (mk (p ++ [⟨v.k, ps⟩])) = mk (p ++ [⟨v.k, ps ++ l⟩]) := by
      intro l
      induction l with
      | nil => intro ps _; simp
      | cons q l ih =>
        intro ps hq
        rw [List.map_cons, List.foldl_cons, hp _ q (by simp) (hq q (by simp)), addPt_snoc, ih _ (fun x hx => hq x (by simp [hx]))]
        simp
    have e : words (v :: r) = [letter v.k] :: (v.ps.map ptWord ++ words r) := by simp [words, vWords]
    rw [e, List.foldl_cons, hl p v.k h0 h1, List.foldl_append, key v.ps [] h2, List.nil_append]
    rw [fold_words f mk okp hl hp r _ fun x hx => h x (by simp [hx])]
    simp
/-! Texts as paths. -/
def idxL (w : List UInt8) : Int := Lib.index [77, 76, 81, 67, 90] w
def stepI : Option (List Verb) → List UInt8 → Option (List Verb)
  | none, _ => none
  | some out, w => if w.length = 1 ∧ 0 ≤ idxL w then some (out ++ [⟨idxL w, []⟩])
    else if (Lib.cut w [44]).2.2 = true then match Lib.atoiAll (Lib.cut w [44]).1, Lib.atoiAll (Lib.cut w [44]).2.1 with
      | .ok x, .ok y => if out = [] then none else some (addPt out ⟨x, y⟩)
      | _, _ => none
    else none
def parseI (ws : List (List UInt8)) : Option (List Verb) := ws.foldl stepI (some [])
theorem stepI_none (ws : List (List UInt8)) : ws.foldl stepI none = none := by
  induction ws with
  | nil => rfl
  | cons w ws ih => exact ih
def kindW (w : List UInt8) : Int := if w = [77] then 0 else if w = [76] then 1 else if w = [81] then 2 else if w = [67] then 3 else if w = [90] then 4 else -1
def numW (w : List UInt8) : Int := match Lib.atoiAll w with
  | .ok n => if Lib.itoa n = w ∧ -9999 ≤ n ∧ n ≤ 9999 then n else 1001
  | _ => 1001
def ptOf (w : List UInt8) : Pt := match spl 44 w with
  | [a, b] => ⟨numW a, numW b⟩
  | _ => ⟨1001, 0⟩
def stepS (out : List Verb) (w : List UInt8) : List Verb := if 0 ≤ kindW w ∨ out = [] then out ++ [⟨kindW w, []⟩] else addPt out (ptOf w)
def parseS (ws : List (List UInt8)) : List Verb := ws.foldl stepS []
def pp (s : List UInt8) : Option (List Verb) := if 800 < s.length then none else if s = [] then some [] else if vPath (parseS (spl 32 s)) = true ∧ fmtL (parseS (spl 32 s)) = s then some (parseS (spl 32 s)) else none
def ppI (s : List UInt8) : Option (List Verb) := if s = [] then some [] else if 800 < s.length then none else match parseI (spl 32 s) with
  | some p => if vPath p = true ∧ fmtL p = s then some p else none
  | none => none
theorem index_app (c : UInt8) : ∀ {w : List UInt8} (r : List UInt8), c ∉ w → Lib.index (w ++ c :: r) [c] = w.length
  | [], r, _ => by rw [List.nil_append, Lib.index]; simp [List.isPrefixOf]
  | b :: w, r, h => by
    have hb : b ≠ c := fun e => h (by simp [e])
    have ih := index_app c (w := w) r (fun e => h (by simp [e]))
    rw [List.cons_append, index_one_cons c b _ hb, ih]
    rw [if_neg (fun e => by have := beq_iff_eq.1 e; omega)]
    simp
theorem cut_pt (q : Pt) : Lib.cut (ptWord q) [44] = (Lib.itoa q.x, Lib.itoa q.y, true) := by
  have hi := index_app 44 (Lib.itoa q.y) (itoa_no q.x 44 (by decide) (by decide))
  unfold Lib.cut ptWord
  rw [hi, if_pos (by omega), Int.toNat_natCast, List.take_left]
  congr 2
  rw [List.drop_append]
  simp
theorem spl_pt (q : Pt) : spl 44 (ptWord q) = [Lib.itoa q.x, Lib.itoa q.y] := by
  rw [ptWord, spl_app 44 _ (itoa_no q.x 44 (by decide) (by decide)), spl_self 44 (itoa_no q.y 44 (by decide) (by decide))]
theorem vVerbs_all : ∀ {p : List Verb} {b : Bool}, vVerbs b p = true → ∀ v ∈ p, (0 ≤ v.k ∧ v.k ≤ 4) ∧ (v.ps.length : Int) = many v.k ∧ ∀ q ∈ v.ps, vPt q = true
  | [], _, _, v, hv => by cases hv
  | w :: r, b, h, v, hv => by
    simp only [vVerbs, Bool.and_eq_true] at h
    rcases List.mem_cons.1 hv with rfl | hv
    · have h1 := h.1
      simp only [vVerb, Bool.and_eq_true, decide_eq_true_eq, vPts, List.all_eq_true] at h1
      exact ⟨h1.1.1.1, h1.1.1.2, h1.1.2.2⟩
    · exact vVerbs_all h.2 v hv
theorem vPath_all {p : List Verb} (h : vPath p = true) : ∀ v ∈ p, (0 ≤ v.k ∧ v.k ≤ 4) ∧ ∀ q ∈ v.ps, vPt q = true := by
  simp only [vPath, Bool.and_eq_true] at h
  exact fun v hv => ⟨(vVerbs_all h.1.1 v hv).1, (vVerbs_all h.1.1 v hv).2.2⟩
theorem vPt_rg {q : Pt} (h : vPt q = true) : (-1000 ≤ q.x ∧ q.x ≤ 1000) ∧ -1000 ≤ q.y ∧ q.y ≤ 1000 := by
  simpa [vPt, isU] using h
theorem parseI_words {p : List Verb} (h : vPath p = true) : parseI (words p) = some p := by
  have := fold_words stepI some (fun q => vPt q = true) (fun p k h0 h1 => ?_) (fun p q hp hq => ?_) p [] (vPath_all h)
  · simpa [parseI] using this
  · rcases letter_one h0 h1 with ⟨e, rfl⟩ | ⟨e, rfl⟩ | ⟨e, rfl⟩ | ⟨e, rfl⟩ | ⟨e, rfl⟩ <;> (rw [e]; simp only [stepI]; rw [if_pos ⟨rfl, by decide⟩]; congr 4)
  · have h3 := ptWord_len q
    obtain ⟨hx, hy⟩ := vPt_rg hq
    simp only [stepI]
    rw [if_neg (fun hh => by omega), cut_pt, if_pos rfl]
    simp only
    rw [atoi_itoa (by omega) (by omega), atoi_itoa (by omega) (by omega)]
    simp only
    rw [if_neg hp]
theorem kindW_letter {k : Int} (h0 : 0 ≤ k) (h1 : k ≤ 4) : kindW [letter k] = k := by
  rcases letter_one h0 h1 with ⟨e, rfl⟩ | ⟨e, rfl⟩ | ⟨e, rfl⟩ | ⟨e, rfl⟩ | ⟨e, rfl⟩ <;> rw [e] <;> decide
theorem kindW_long {w : List UInt8} (h : w.length ≠ 1) : kindW w = -1 := by
  unfold kindW
  rw [if_neg (fun e => h (by rw [e]; rfl)), if_neg (fun e => h (by rw [e]; rfl)), if_neg (fun e => h (by rw [e]; rfl)), if_neg (fun e => h (by rw [e]; rfl)), if_neg (fun e => h (by rw [e]; rfl))]
theorem numW_itoa {n : Int} (h0 : -9999 ≤ n) (h1 : n ≤ 9999) : numW (Lib.itoa n) = n := by
  unfold numW
  rw [atoi_itoa (by omega) (by omega)]
  simp only
  rw [if_pos ⟨trivial, h0, h1⟩]
theorem parseS_words {p : List Verb} (h : vPath p = true) : parseS (words p) = p := by
  have := fold_words stepS (fun p => p) (fun q => vPt q = true) (fun p k h0 h1 => ?_) (fun p q hp hq => ?_) p [] (vPath_all h)
  · simpa [parseS] using this
  · simp only [stepS, kindW_letter h0 h1]
    rw [if_pos (.inl h0)]
  · have h3 := ptWord_len q
    obtain ⟨hx, hy⟩ := vPt_rg hq
    simp only [stepS]
    rw [kindW_long (by omega), if_neg (by rintro (hh | hh); · omega
                                          · exact hp hh)]
    simp only [ptOf, spl_pt]
    rw [numW_itoa (by omega) (by omega), numW_itoa (by omega) (by omega)]
theorem fmtL_nil : fmtL [] = [] := rfl
theorem spl_fmtL {p : List Verb} (h : vPath p = true) (hp : fmtL p ≠ []) : spl 32 (fmtL p) = words p :=
  spl_fmt (fun e => hp (by rw [e]; rfl)) fun v hv => (vPath_all h v hv).1
theorem ppI_eq (s : List UInt8) : ppI s = pp s := by
  unfold ppI pp
  by_cases h0 : s = []
  · subst h0; simp
  · rw [if_neg h0]
    by_cases h8 : 800 < s.length
    · rw [if_pos h8, if_pos h8]
    · rw [if_neg h8, if_neg h8, if_neg h0]
      have key : ∀ p, vPath p = true → fmtL p = s → parseI (spl 32 s) = some p ∧ parseS (spl 32 s) = p := by
        rintro p h1 rfl
        rw [spl_fmtL h1 h0]
        exact ⟨parseI_words h1, parseS_words h1⟩
      by_cases hS : vPath (parseS (spl 32 s)) = true ∧ fmtL (parseS (spl 32 s)) = s
      · rw [if_pos hS]
        obtain ⟨k1, _⟩ := key _ hS.1 hS.2
        rw [k1]
        simp only
        rw [if_pos hS]
      · rw [if_neg hS]
        cases hI : parseI (spl 32 s) with
        | none => rfl
        | some p =>
          simp only
          by_cases hp : vPath p = true ∧ fmtL p = s
          · obtain ⟨_, k2⟩ := key p hp.1 hp.2
            rw [k2] at hS
            exact absurd hp hS
          · rw [if_neg hp]
theorem pp_some {s : List UInt8} {p : List Verb} (h : pp s = some p) : vPath p = true ∧ fmtL p = s ∧ s.length ≤ 800 := by
  unfold pp at h
  split at h
  · cases h
  · rename_i h8
    split at h
    · rename_i h0
      cases h
      exact ⟨rfl, h0.symm, by omega⟩
    · split at h
      · rename_i hp
        cases h
        exact ⟨hp.1, hp.2, by omega⟩
      · cases h
theorem pp_fmt {p : List Verb} (h : vPath p = true) (hl : (fmtL p).length ≤ 800) : pp (fmtL p) = some p := by
  unfold pp
  rw [if_neg (by omega)]
  by_cases h0 : fmtL p = []
  · rw [if_pos h0]
    cases p with
    | nil => rfl
    | cons v r =>
      exfalso
      have hw : (words (v :: r)) ≠ [] := words_ne (by simp)
      have e : words (v :: r) = [letter v.k] :: (v.ps.map ptWord ++ words r) := by simp [words, vWords]
      rw [fmtL, e, Lib.join_cons] at h0
      simp at h0
  · rw [if_neg h0, spl_fmtL h h0, parseS_words h, if_pos ⟨h, rfl⟩]
theorem word_len {p : List Verb} (h : vPath p = true) : ∀ w ∈ words p, w.length ≤ 11 := by
  intro w hw
  simp only [words, List.mem_flatMap, vWords, List.mem_cons, List.mem_map] at hw
  obtain ⟨v, hv, rfl | ⟨q, hq, rfl⟩⟩ := hw
  · simp
  · obtain ⟨hx, hy⟩ := vPt_rg ((vPath_all h v hv).2 q hq)
    have h1 := itoa_len (n := q.x) (by omega) (by omega)
    have h2 := itoa_len (n := q.y) (by omega) (by omega)
    simp only [ptWord, List.length_append, List.length_cons]
    omega
theorem join_len {ws : List (List UInt8)} (h : ∀ w ∈ ws, w.length ≤ 11) : (Lib.join ws [32]).length ≤ 12 * ws.length := by
  have key : ∀ r : List (List UInt8), (∀ w ∈ r, w.length ≤ 11) → (Lib.joinTail [32] r).length ≤ 12 * r.length := by
    intro r
    induction r with
    | nil => intro _; simp [Lib.joinTail]
    | cons w r ih =>
      intro hr
      have h1 := ih fun x hx => hr x (by simp [hx])
      have h2 := hr w (by simp)
      simp only [Lib.joinTail, List.map_cons, List.flatten_cons, List.length_append, List.length_cons] at h1 ⊢
      simp only [List.length_nil]
      omega
  cases ws with
  | nil => simp [Lib.join_nil]
  | cons w r =>
    rw [Lib.join_cons, List.length_append, List.length_cons]
    have h1 := key r fun x hx => h x (by simp [hx])
    have h2 := h w (by simp)
    omega
theorem words_len (p : List Verb) : (words p).length = p.length + nPts p := by
  induction p with
  | nil => rfl
  | cons v r ih =>
    have e : words (v :: r) = [letter v.k] :: (v.ps.map ptWord ++ words r) := by simp [words, vWords]
    rw [e]
    simp only [List.length_cons, List.length_append, List.length_map, ih, nPts, List.map_cons, List.sum_cons]
    omega
theorem fmtL_len {p : List Verb} (h : vPath p = true) : (fmtL p).length ≤ 840 := by
  have h1 := join_len (word_len h)
  rw [words_len] at h1
  simp only [vPath, Bool.and_eq_true, decide_eq_true_eq] at h
  unfold fmtL
  omega
end Go.Proofs.YthphndhiacikaaaDoor
