/- A part of the engine: what operations do to described states, proved sound against the model. No conditions. -/
import Derived.Test.YtofelomoieamoaaW9
set_option linter.unusedSimpArgs false
set_option linter.unusedVariables false
namespace Go.VE
open Go

theorem copyE_length {es : List (List C)} {lo m : Nat} {ys : List (List C)} (h : lo + m ≤ es.length) (hm : m ≤ ys.length) : (copyE es lo m ys).length = es.length := by
  simp only [copyE, List.length_append, List.length_take, List.length_drop]; omega

theorem copyE_get {es : List (List C)} {lo m : Nat} {ys : List (List C)} (h : lo + m ≤ es.length) (hm : m ≤ ys.length) (i : Nat) :
    (copyE es lo m ys)[i]? = if lo ≤ i ∧ i < lo + m then ys[i - lo]? else es[i]? := by
  simp only [copyE, List.getElem?_append, List.length_take, List.getElem?_take, List.getElem?_drop]
  have h1 : min lo es.length = lo := by omega
  have h2 : min m ys.length = m := by omega
  rw [h1, h2]
  by_cases a1 : i < lo
  · rw [if_pos a1, if_pos a1, if_neg (by omega)]
  · rw [if_neg a1]
    by_cases a2 : i - lo < m
    · rw [if_pos a2, if_pos a2, if_pos (by omega)]
    · rw [if_neg a2, if_neg (by omega)]
      congr 1; omega

section
variable {P : Program} {tt : Nat → Option TI} {X : Cx} {s : St} {a : Act} {w : World} {β : Nat → Option Nat} {cp : Nat → Nat} {Rd : Nat → Prop}

theorem run_copy_gen (w : World) (dT sT ty elem : TypeId) (g o dLen dCap : Nat) (ad : Addr) (sLen sCap sz : Nat) (cur : Array Value) (t : TypeId) (cs : List Value)
    (hu : P.underlying dT = some (.slice elem)) {i : TypeInfo} (hi : P.info? elem = some i) (hs : i.size = sz)
    (hg : w.heap[g]? = some (.cells cur t (0, 0))) (hn : cs.length = Nat.min sLen dLen * sz)
    (hsrc : ∀ j v, cs[j]? = some v → w.cell? (ad.add j) = some v) (hfit : o + cs.length ≤ cur.size) (h1 : ∀ v ∈ cs, v.oneCell' = true) :
    (Builtin.copy_ #[dT, sT] ty #[.slice (some ⟨g, o, none⟩) dLen dCap, .slice (some ad) sLen sCap]).run P w =
      .ok (goInt (Nat.min sLen dLen)) (w.setRow g (cur.toList.take o ++ cs ++ cur.toList.drop (o + cs.length)).toArray) := by
  have hl := run_loadCells_list (P := P) w ad cs hsrc
  have hst := run_storeCells_at P g o t cs 0 cur w hg (by simpa using hfit) h1
  simp [Builtin.copy_, run_underlying hu, Builtin.lenOf, Builtin.firstCells, sizeOf, typeInfo, hi, hs, ← hn, hl, hst]

theorem run_copy_zero (w : World) (dT sT ty elem : TypeId) (da sa : Option Addr) (dLen dCap sLen sCap : Nat) (hu : P.underlying dT = some (.slice elem)) {i : TypeInfo} (hi : P.info? elem = some i) (hn : Nat.min sLen dLen = 0) :
    (Builtin.copy_ #[dT, sT] ty #[.slice da dLen dCap, .slice sa sLen sCap]).run P w = .ok (goInt 0) w := by
  cases da <;> cases sa <;> simp [Builtin.copy_, run_underlying hu, Builtin.lenOf, Builtin.firstCells, sizeOf, typeInfo, hi, hn, storeCells, loadCells, loadCellsFrom]

/-- Onto a part of a row of one's own. -/
theorem copy_core (h : Good X s a w β cp Rd) {d : Option Nat} (hd : dstOK s.nt d) {t t2 ty e : Nat} {ie : TypeInfo} {sz : Nat} (hu : P.underlying t = some (.slice e)) (hie : P.info? e = some ie) (hs : ie.size = sz) {b : Nat} {bx : Box} (hbx : s.box b = some bx)
    (hrow : bx.row = true) (hfz : bx.fz = false) (hk : bx.k = sz) (hsz : 0 < sz) {lo hi : Nat} (hlo : lo ≤ hi) (hhi : hi ≤ bx.es.length) {aa : Option Addr} {c : Nat} (haa : lo < hi → ∃ g, β b = some g ∧ aa = some ⟨g, lo * bx.k, none⟩)
    {v' : Value} {y : AV} (hy : MA w (X.mt s β Rd) Rd (hOf s β cp) v' y) {p : Prop} {ys : List (List C)} (hsrc : srcOf s (b + 1) y = some (p, ys)) (hl : copyS.srcLen s y) (hys : ∀ e ∈ ys, e.length = sz) :
    ∃ w', (Builtin.copy_ #[t, t2] ty #[.slice aa (hi - lo) c, v']).run P w = .ok (.int .i64 ((min (hi - lo) ys.length : Nat) : Int)) w' ∧
      Rel X ((s.setBox b (some { bx with es := copyE bx.es lo (min (hi - lo) ys.length) ys })).put d (.c (.v (.int .i64 ((min (hi - lo) ys.length : Nat) : Int))))) (a.put d (.int .i64 ((min (hi - lo) ys.length : Nat) : Int))) w' := by
  obtain ⟨hpy, hsrc2⟩ := src_ok h hy hsrc hl hsz hys
  have hB := h.boxes b bx hbx
  have zero : min (hi - lo) ys.length = 0 → ∀ x c', v' = .slice x ys.length c' → ∃ w', (Builtin.copy_ #[t, t2] ty #[.slice aa (hi - lo) c, v']).run P w = .ok (.int .i64 ((min (hi - lo) ys.length : Nat) : Int)) w' ∧
      Rel X ((s.setBox b (some { bx with es := copyE bx.es lo (min (hi - lo) ys.length) ys })).put d (.c (.v (.int .i64 ((min (hi - lo) ys.length : Nat) : Int))))) (a.put d (.int .i64 ((min (hi - lo) ys.length : Nat) : Int))) w' := by
    rintro h0 x c' rfl
    refine ⟨w, ?_, ?_⟩
    · rw [run_copy_zero w t t2 ty e aa x _ c _ c' hu hie (by rw [← h0]; exact Nat.min_comm _ _), h0]; rfl
    · rw [h0]
      have e0 : copyE bx.es lo 0 ys = bx.es := by simp [copyE]
      rw [e0]
      have hG := h.updM (w' := w) b bx (β b) (cp b) (h.fresh b (St.keyed_of_box hbx)) (.inr ⟨bx, hbx, id, .inl ⟨rfl, rfl, rfl, rfl⟩⟩) (Keeps.refl _ w) (fun g hg => .inr ⟨bx, hbx, hg⟩) hB
      exact ⟨_, _, _, hG.put (by simpa [St.setBox] using hd) (RC.v _ rfl)⟩
  rcases hsrc2 with ⟨x, c', rfl, hnil⟩ | ⟨ad, c', news, rfl, hnl, hnews, hone, hmc⟩
  · exact zero (by rw [hnil]; simp) x c' (by rw [hnil]; rfl)
  by_cases h0 : min (hi - lo) ys.length = 0
  · exact zero h0 _ c' rfl
  have hlt : lo < hi := by omega
  obtain ⟨g, hg, rfl⟩ := haa hlt
  rcases hB.two (.inl hrow) with ⟨q1, _⟩ | ⟨g', cur, h1, h2, h4, h5, h6, h7, h9, h8⟩
  · rw [q1] at hg; cases hg
  rw [h1] at hg; cases hg
  generalize hm : min (hi - lo) ys.length = m at *
  have hm1 : m ≤ hi - lo := by omega
  have hm2 : m ≤ ys.length := by omega
  have hlen : (news.take (m * sz)).length = m * sz := by
    rw [List.length_take, hnl]
    have := Nat.mul_le_mul_right sz hm2
    omega
  have hspan : lo * sz + m * sz ≤ cur.size := by
    rw [← Nat.add_mul, h4, hk]
    exact Nat.mul_le_mul_right _ (by omega)
  have hr := run_copy_gen (P := P) w t t2 ty e g (lo * bx.k) (hi - lo) c ad ys.length c' sz cur bx.ty (news.take (m * sz)) hu hie hs h2 (by rw [hlen]; congr 1; rw [← hm]; exact Nat.min_comm _ _)
    (fun j v hj => hnews j v (by rw [List.getElem?_take] at hj; split at hj; exact hj; cases hj)) (by rw [hlen, hk]; exact hspan) (fun u hu => hone u (List.mem_of_mem_take hu))
  have hmm : Nat.min ys.length (hi - lo) = m := by rw [← hm]; exact Nat.min_comm _ _
  rw [hmm] at hr
  refine ⟨_, hr, _, _, _, (h.upd (w' := w.setRow g (cur.toList.take (lo * bx.k) ++ news.take (m * sz) ++ cur.toList.drop (lo * bx.k + (news.take (m * sz)).length)).toArray) b
    { bx with es := copyE bx.es lo m ys } (β b) (cp b) (h.fresh b (St.keyed_of_box hbx)) (.inr ⟨bx, hbx, fun _ => hfz, .inl ⟨copyE_length (by omega) hm2, rfl, rfl, rfl⟩⟩)
    ⟨rfl, rfl, rfl, by simp, fun q _ hq => setRow_other w g q _ (fun e => hq ⟨bx, hbx, hfz, by rw [h1, e]⟩)⟩ (fun q hq => .inr ⟨bx, hbx, hq⟩)
    (.inr ⟨g, _, h1, setRow_heap w g cur _ bx.ty _ h2, ?_, ?_, h6, ?_, ?_, ?_⟩)).put (by simpa [St.setBox] using hd) (RC.v _ rfl)⟩
  · simp only [List.size_toArray, List.length_append, List.length_take, List.length_drop, Array.length_toList, hlen, hk] at hlen ⊢
    rw [hk] at h4
    omega
  · rw [copyE_length (by omega) hm2]; exact h5
  · intro el hel
    obtain ⟨i, hi', rfl⟩ := List.getElem_of_mem hel
    have := List.getElem?_eq_getElem hi'
    rw [copyE_get (by omega) hm2] at this
    split at this
    · dsimp only; rw [hk]; exact hys _ (List.mem_of_getElem? this)
    · exact h7 _ (List.mem_of_getElem? this)
  · intro hr' el hel
    obtain ⟨i, hi', rfl⟩ := List.getElem_of_mem hel
    have := List.getElem?_eq_getElem hi'
    rw [copyE_get (by omega) hm2] at this
    split at this
    · exact hpy _ (List.mem_of_getElem? this)
    · exact h9 hr' _ (List.mem_of_getElem? this)
  · intro i j el cc he hc
    dsimp only at he ⊢
    rw [copyE_get (by omega) hm2] at he
    have hcur : ∀ q, q < cur.size → (cur.toList.take (lo * bx.k) ++ news.take (m * sz) ++ cur.toList.drop (lo * bx.k + (news.take (m * sz)).length)).toArray.getD q undef =
        if lo * sz ≤ q ∧ q < lo * sz + m * sz then news.getD (q - lo * sz) undef else cur.getD q undef := by
      intro q hq
      simp only [Array.getD_eq_getD_getElem?, List.getD_eq_getElem?_getD, List.getElem?_toArray, List.getElem?_append, List.length_append, hlen, Array.length_toList, List.getElem?_take, List.getElem?_drop, Array.getElem?_toList, hk]
      rw [List.length_take, Array.length_toList]
      have hmin : min (lo * sz) cur.size = lo * sz := by omega
      rw [hmin]
      by_cases a1 : q < lo * sz
      · rw [if_pos (by omega), if_pos a1, if_pos a1, if_neg (by omega)]
      · by_cases a2 : q < lo * sz + m * sz
        · rw [if_pos (by omega), if_neg a1, if_pos (by omega), if_pos (by omega)]
        · rw [if_neg (by omega), if_neg (by omega)]
          congr 2; omega
    split at he
    · rename_i hin
      have hil := (List.getElem?_eq_some_iff.1 he).1
      have hjl := (List.getElem?_eq_some_iff.1 hc).1
      rw [hys el (List.mem_of_getElem? he)] at hjl
      have hq := row_lt (m := m) (sz := sz) (i := i - lo) (j := j) (by omega) hjl
      have e1 : i * bx.k + j = lo * sz + ((i - lo) * sz + j) := by
        rw [hk, ← Nat.add_assoc, ← Nat.add_mul]; congr 2; omega
      rw [e1, hcur _ (by omega), if_pos (by omega), Nat.add_sub_cancel_left]
      exact hmc _ j el cc he hc
    · rename_i hin
      have hil := (List.getElem?_eq_some_iff.1 he).1
      have hjl := (List.getElem?_eq_some_iff.1 hc).1
      rw [h7 el (List.mem_of_getElem? he)] at hjl
      have hlt2 := row_lt (m := cp b) (sz := bx.k) (i := i) (j := j) (by omega) hjl
      rw [hcur _ (by omega), if_neg]
      · exact h8 i j el cc he hc
      · rintro ⟨q1, q2⟩
        rw [← Nat.add_mul] at q2
        rw [hk] at q1 q2 hjl
        rcases Nat.lt_or_ge i lo with q3 | q3
        · have : (i + 1) * sz ≤ lo * sz := Nat.mul_le_mul_right _ q3
          rw [Nat.succ_mul] at this
          omega
        · have : (lo + m) * sz ≤ i * sz := Nat.mul_le_mul_right _ (by omega)
          omega

theorem copy_ok (ht : TTok P tt) (h : Good X s a w β cp Rd) {d : Option Nat} (hd : dstOK s.nt d) {t t2 ty : Nat} {v v' : Value} {x y : AV} (hx : MA w (X.mt s β Rd) Rd (hOf s β cp) v x)
    (hy : MA w (X.mt s β Rd) Rd (hOf s β cp) v' y) (hp : (copyS tt t x y s d).1) :
    ∃ u w', (Builtin.copy_ #[t, t2] ty #[v, v']).run P w = .ok u w' ∧ ∃ s', (copyS tt t x y s d).2 s' ∧ Rel X s' (a.put d u) w' := by
  unfold copyS at hp ⊢
  split at hp
  · rename_i sz b n t0 hsz
    obtain ⟨e, hu, ie, hie, hsz'⟩ := elemSz_key ht hsz
    split at hp
    · rename_i bx p ys hbx hsrc
      simp only [Res.mk1] at hp ⊢
      obtain ⟨hn, hl, hrow, hfz, hk, hs, hys⟩ := hp
      have hV := hx.2.at rfl hbx hn
      have hv : ∃ aa c, v = .slice aa (n - 0) c ∧ (0 < n → ∃ g, β b = some g ∧ aa = some ⟨g, 0 * bx.k, none⟩) := by
        rcases hV with ⟨_, q, aa, rfl⟩ | ⟨g, c, q1, rfl, _⟩
        · exact ⟨aa, 0, by rw [q], by omega⟩
        · exact ⟨_, c, rfl, fun _ => ⟨g, q1, by simp⟩⟩
      obtain ⟨aa, c, rfl, haa⟩ := hv
      obtain ⟨w', h1, h2⟩ := copy_core (t2 := t2) (ty := ty) h hd hu hie hsz' hbx hrow hfz hk hs (Nat.zero_le n) (by omega) (c := c) haa hy hsrc hl hys
      exact ⟨_, w', h1, _, rfl, by simpa using h2⟩
    · exact hp.elim
  · rename_i sz b n lo hi hsz
    obtain ⟨e, hu, ie, hie, hsz'⟩ := elemSz_key ht hsz
    split at hp
    · rename_i bx p ys hbx hsrc
      simp only [Res.mk1] at hp ⊢
      obtain ⟨hn, hl, hrow, hfz, hk, hs, hys⟩ := hp
      obtain ⟨v1, v2, aa, c, rfl, v3, v4, v5⟩ := hx.2.at rfl hbx hn
      obtain ⟨w', h1, h2⟩ := copy_core (t2 := t2) (ty := ty) h hd hu hie hsz' hbx hrow hfz hk hs v1 (by omega) (c := c) v5 hy hsrc hl hys
      exact ⟨_, w', h1, _, rfl, h2⟩
    · exact hp.elim
  · exact hp.elim
end
end Go.VE
