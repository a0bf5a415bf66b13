/- A part of the engine: what operations do to described states, proved sound against the model. No conditions. -/
import Derived.Test.YtofelomoieamoaaW7
set_option linter.unusedSimpArgs false
set_option linter.unusedVariables false
namespace Go.VE
open Go

theorem over_length {e : List C} {off : Nat} {cs : List C} (h : off + cs.length ≤ e.length) : (over e off cs).length = e.length := by
  simp only [over, List.length_append, List.length_take, List.length_drop]; omega

theorem over_get {e : List C} {off : Nat} {cs : List C} (h : off + cs.length ≤ e.length) (j : Nat) :
    (over e off cs)[j]? = if off ≤ j ∧ j < off + cs.length then cs[j - off]? else e[j]? := by
  simp only [over, List.getElem?_append, List.length_take, List.getElem?_take, List.getElem?_drop]
  have h1 : min off e.length = off := by omega
  rw [h1]
  by_cases a1 : j < off
  · rw [if_pos a1, if_pos a1, if_neg (by omega)]
  · rw [if_neg a1]
    by_cases a2 : j - off < cs.length
    · rw [if_pos a2, if_pos (by omega)]
    · rw [if_neg a2, if_neg (by omega)]
      congr 1; omega

section
variable {P : Program} {tt : Nat → Option TI} {X : Cx} {s : St} {a : Act} {w : World} {β : Nat → Option Nat} {cp : Nat → Nat} {Rd : Nat → Prop}
variable {Mt : Nat → Prop} {H : C → Value → Prop}

theorem cells_ok' {v : Value} {x : AV} (h : MA w Mt Rd H v x) (hn : (cellsOf x).length ≠ 0) (hno : okCs (cellsOf x)) : MCs w Mt Rd H v.cells (cellsOf x) := by
  rcases cells_ok h (fun e => hn (by rw [e]; rfl)) with hm | ⟨c, rfl, h1⟩
  · exact hm
  · exact absurd (okC_one hno.1 h) h1

/-- A row of one's own, read only. -/
theorem row_rc (h : Good X s a w β cp Rd) {Mt' : Nat → Prop} {b : Nat} {bx : Box} (hbx : s.box b = some bx) (hM : ∀ v c, (∃ e ∈ bx.es, c ∈ e) → RC w (X.mt s β Rd) v c → RC w Mt' v c) (hrow : bx.row = true) (hav : ∀ g, β b = some g → ¬ Mt' g)
    {lo hi : Nat} (hlo : lo ≤ hi) (hhi : hi ≤ bx.es.length) {aa : Option Addr} {c : Nat} {t : Bool} (hc : hi - lo ≤ c) (hcm : c ≤ maxLen) (ht : t = true → c = hi - lo) (ha : lo < hi → ∃ g, β b = some g ∧ aa = some ⟨g, lo * bx.k, none⟩) :
    RC w Mt' (.slice aa (hi - lo) c) (.sl t ((bx.es.take hi).drop lo)) := by
  have hl : ((bx.es.take hi).drop lo).length = hi - lo := by simp; omega
  have get : ∀ i e, ((bx.es.take hi).drop lo)[i]? = some e → bx.es[lo + i]? = some e ∧ lo + i < hi := fun i e he => by
    rw [List.getElem?_drop, List.getElem?_take] at he
    split at he
    · exact ⟨he, by assumption⟩
    · cases he
  rcases Nat.lt_or_ge lo hi with hlt | hge
  · obtain ⟨g, hg, rfl⟩ := ha hlt
    rcases (h.boxes b bx hbx).two (.inl hrow) with ⟨q1, _⟩ | ⟨g', cur, h1, h2, h4, h5, h6, h7, h9, h8⟩
    · rw [q1] at hg; cases hg
    rw [h1] at hg; cases hg
    refine RC.sl t _ bx.k _ ⟨g, lo * bx.k, none⟩ (hi - lo) c hl.symm ht hc hcm (fun e he => h7 e (List.mem_of_mem_take (List.mem_of_mem_drop he))) (fun _ => ⟨rfl, rfl, hav g h1, (Array.getElem?_eq_some_iff.1 h2).1⟩)
      (fun i j => cur.getD ((lo + i) * bx.k + j) undef) (fun i j e cc he hcc => ?_) (fun i j e cc he hcc => ?_)
    · obtain ⟨he', hlt'⟩ := get i e he
      have hjl := (List.getElem?_eq_some_iff.1 hcc).1
      rw [h7 e (List.mem_of_getElem? he')] at hjl
      have hr := row_lt (m := cp b) (sz := bx.k) (i := lo + i) (j := j) (by omega) hjl
      rw [cell_of_row w g _ cur bx.ty (0, 0) h2]
      have e1 : lo * bx.k + (i * bx.k + j) = (lo + i) * bx.k + j := by rw [Nat.add_mul]; omega
      have : (lo + i) * bx.k + j < cur.size := by rw [h4]; omega
      dsimp only
      rw [e1]
      simp [this]
    · obtain ⟨he', _⟩ := get i e he
      exact hM _ _ ⟨e, List.mem_of_getElem? he', List.mem_of_getElem? hcc⟩ ((h8 (lo + i) j e cc he' hcc).rc (h9 hrow e (List.mem_of_getElem? he') cc (List.mem_of_getElem? hcc)))
  · have e0 : (bx.es.take hi).drop lo = [] := List.eq_nil_of_length_eq_zero (by omega)
    rw [e0]
    exact RC.sl t [] 0 aa ⟨0, 0, none⟩ (hi - lo) c (by simp; omega) ht hc hcm (by simp) (fun h => absurd rfl h) (fun _ _ => undef) (by simp) (by simp)

/-- Sealed cells. -/
theorem seal_okC (h : Good X s a w β cp Rd) {Mt' Rd' : Nat → Prop} {H' : C → Value → Prop} (hR : ∀ g, Rd g → Rd' g) {ids : List Nat} (hav : ∀ b ∈ ids, ∀ bx g, s.box b = some bx → β b = some g → ¬ Mt' g)
    {v : Value} {c : C} (hM : ∀ v c', (c' = c ∨ (∃ x, c = .ex x c') ∨ ∃ b bx, b ∈ rowIds [c] ∧ s.box b = some bx ∧ ∃ e ∈ bx.es, c' ∈ e) → RC w (X.mt s β Rd) v c' → RC w Mt' v c') (hm : MC w (X.mt s β Rd) Rd (hOf s β cp) v c) (ho : sealOk s c) (hid : ∀ b ∈ rowIds [c], b ∈ ids) : MC w Mt' Rd' H' v (sealC s c) := by
  cases c with
  | own b n t =>
    simp only [sealC]
    split
    · rename_i bx hbx
      split
      · rename_i hrow
        simp only [sealOk, hbx] at ho
        have hv := hm.2.at rfl hbx ho
        have hb : b ∈ ids := hid b (by simp [rowIds])
        have key : ∀ aa c, n ≤ c → c ≤ maxLen → (t = true → c = n) → (0 < n → ∃ g, β b = some g ∧ aa = some ⟨g, 0, none⟩) → v = .slice aa n c → RC w Mt' v (.sl t bx.es) := by
          rintro aa c h1 h2 h3 h4 rfl
          have := row_rc h hbx (fun v c hc => hM v c (.inr (.inr ⟨b, bx, by simp [rowIds], hbx, hc⟩))) hrow (fun g hg => hav b hb bx g hbx hg) (lo := 0) (hi := n) (Nat.zero_le _) (by omega) (aa := aa) (c := c) (t := t) h1 h2 h3 (fun hlt => by simpa using h4 hlt)
          rw [ho] at this ⊢
          simpa using this
        rcases hv with ⟨q1, q2, aa, q3⟩ | ⟨g, c, q1, q2, q3, q4, q5⟩
        · exact (key aa 0 (by omega) (by simp [maxLen]) (fun _ => q2.symm) (by omega) (by rw [q3, q2])).mc
        · have hcm : c ≤ maxLen := by
            rcases (h.boxes b bx hbx).two (.inl hrow) with ⟨p1, _⟩ | ⟨g', cur, p1, p2, p4, p5, p6, _⟩
            · rw [p1] at q1; cases q1
            · omega
          exact (key _ c q3 hcm q5 (fun _ => ⟨g, q1, rfl⟩) q2).mc
      · trivial
    · trivial
  | vw b n lo hi =>
    simp only [sealC]
    split
    · rename_i bx hbx
      split
      · rename_i hrow
        simp only [sealOk, hbx] at ho
        obtain ⟨v1, v2, aa, c, rfl, v3, v4, v5⟩ := hm.2.at rfl hbx ho
        exact (row_rc h hbx (fun v c hc => hM v c (.inr (.inr ⟨b, bx, by simp [rowIds], hbx, hc⟩))) hrow (fun g hg => hav b (hid b (by simp [rowIds])) bx g hbx hg) v1 (by omega) v3 v4 (fun h => by cases h) v5).mc
      · trivial
    · trivial
  | v x =>
    have hm' : RC w (X.mt s β Rd) v (.v x) := hm
    unfold sealC
    split
    · rename_i he; cases he
    · rename_i he; cases he
    · rename_i he
      cases he
      cases hm' with
      | v _ _ => exact RC.sl true [] 0 none ⟨0, 0, none⟩ 0 0 rfl (fun _ => rfl) (Nat.le_refl _) (by simp [maxLen]) (by simp) (fun h => absurd rfl h) (fun _ _ => undef) (by simp) (by simp)
    · rename_i he; cases he
    · rename_i he; cases he
    · rename_i he; cases he
    · rename_i he; cases he
    · exact (hM _ _ (.inl rfl) hm').mc
  | sl t es => exact (hM _ (.sl t es) (.inl rfl) hm).mc
  | rp cs => exact (hM _ (.rp cs) (.inl rfl) hm).mc
  | rdr => obtain ⟨g, h1, h2⟩ := hm; exact ⟨g, hR g h1, h2⟩
  | ex x c => exact ⟨hm.1, hM _ _ (.inr (.inl ⟨x, rfl⟩)) hm.2⟩
  | ptr b n i off => trivial
  | fn f caps => trivial
  | und => trivial
  | bot => trivial

theorem seal_ok (h : Good X s a w β cp Rd) {Mt' Rd' : Nat → Prop} {H' : C → Value → Prop} (hM : ∀ g, g < w.heap.size → Mt' g → X.mt s β Rd g) (hR : ∀ g, Rd g → Rd' g) {ids : List Nat} (hav : ∀ b ∈ ids, ∀ bx g, s.box b = some bx → β b = some g → ¬ Mt' g)
    {v : Value} {c : C} (hm : MC w (X.mt s β Rd) Rd (hOf s β cp) v c) (ho : sealOk s c) (hid : ∀ b ∈ rowIds [c], b ∈ ids) : MC w Mt' Rd' H' v (sealC s c) :=
  seal_okC h hR hav (fun _ _ _ hc => hc.mono (fun _ _ _ => rfl) (Nat.le_refl _) hM) hm ho hid

theorem seal_oks (h : Good X s a w β cp Rd) {Mt' Rd' : Nat → Prop} {H' : C → Value → Prop} (hM : ∀ g, g < w.heap.size → Mt' g → X.mt s β Rd g) (hR : ∀ g, Rd g → Rd' g) {ids : List Nat} (hav : ∀ b ∈ ids, ∀ bx g, s.box b = some bx → β b = some g → ¬ Mt' g) :
    ∀ (cs : List C) (f : Nat → Value), (∀ j c, cs[j]? = some c → MC w (X.mt s β Rd) Rd (hOf s β cp) (f j) c) → sealOks s cs → (∀ b ∈ rowIds cs, b ∈ ids) → ∀ j c, (cs.map (sealC s))[j]? = some c → MC w Mt' Rd' H' (f j) c
  | [], _, _, _, _, j, c, hj => by simp at hj
  | x :: r, f, hm, ho, hid, 0, c, hj => by
    simp only [List.map_cons, List.getElem?_cons_zero, Option.some.injEq] at hj
    subst hj
    exact seal_ok h hM hR hav (hm 0 x rfl) ho.1 (fun b hb => hid b (by cases x <;> simp_all [rowIds]))
  | x :: r, f, hm, ho, hid, j + 1, c, hj => by
    refine seal_oks h hM hR hav r (fun j => f (j + 1)) (fun j c hj => hm (j + 1) c (by simpa using hj)) ho.2 (fun b hb => hid b (by cases x <;> simp_all [rowIds])) j c (by simpa using hj)

/-- What is frozen is not written. -/
theorem freeze_av (h : Good X s a w β cp Rd) (ids : List Nat) : ∀ b ∈ ids, ∀ bx g, s.box b = some bx → β b = some g → ¬ X.mt (freeze s ids) β Rd g := by
  rintro b hb bx g hbx hg (h1 | ⟨b', bx', h1, h2, h3⟩ | h1)
  · exact h.own_av g ⟨b, bx, hbx, hg⟩ h1
  · rw [freeze_box] at h1
    simp only [Option.map_eq_some_iff] at h1
    obtain ⟨bx2, h4, h5⟩ := h1
    have := h.inj b b' bx bx2 g hbx h4 hg h3
    subst this
    rw [if_pos hb] at h5
    subst h5
    cases h2
  · exact h.own_rd g ⟨b, bx, hbx, hg⟩ h1
theorem freeze_mt (ids : List Nat) (g : Nat) (h : X.mt (freeze s ids) β Rd g) : X.mt s β Rd g := by
  rcases h with h | ⟨b, bx, h1, h2, h3⟩ | h
  · exact .inl h
  · rw [freeze_box] at h1
    simp only [Option.map_eq_some_iff] at h1
    obtain ⟨bx2, h4, h5⟩ := h1
    refine .inr (.inl ⟨b, bx2, h4, ?_, h3⟩)
    by_cases hb : b ∈ ids
    · rw [if_pos hb] at h5; subst h5; cases h2
    · rw [if_neg hb] at h5; subst h5; exact h2
  · exact .inr (.inr h)

theorem store_core (ht : TTok P tt) (h : Good X s a w β cp Rd) {d : Option Nat} (hd : dstOK s.nt d) {t : Nat} {ti : TI} (hti : tt t = some ti) {b n i off : Nat} {bx : Box} (hbx : s.box b = some bx) {v v' : Value} (hv : hV (β b) (cp b) bx.k (.ptr b n i off) v)
    (hn : n = bx.es.length) (hi : i < n) (ho : off + ti.sz ≤ bx.k) (hsz : 0 < ti.sz) {cs : List C} (hlen : cs.length = ti.sz) (hfz : bx.fz = false) (hm : MCs w (X.mt s β Rd) Rd (hOf s β cp) v'.cells cs) (hone : ∀ u ∈ v'.cells, u.oneCell' = true) (hrow : bx.row = true → okRs cs)
    {e : List C} (he : bx.es[i]? = some e) :
    ∃ w', (Instr.storeAt t v v').run P w = .ok () w' ∧ Rel X ((s.setBox b (some { bx with es := bx.es.set i (over e off cs) })).put d (.c .und)) (a.put d undef) w' := by
  have hT := ht t ti hti
  obtain ⟨g, hg, rfl⟩ := hv
  have hB := (h.boxes b bx hbx).two (.inr (ne_of_lt (show i < bx.es.length by omega)))
  rcases hB with ⟨hnone, _⟩ | ⟨g', cur, h1, h2, h4, h5, h6, h7, h9, h8⟩
  · rw [hnone] at hg; cases hg
  rw [h1] at hg; cases hg
  have hil : i < bx.es.length := by omega
  have hel := h7 e (List.mem_of_getElem? he)
  have hspan : i * bx.k + bx.k ≤ cur.size := by
    rw [h4, ← Nat.succ_mul]
    exact Nat.mul_le_mul_right _ (by omega)
  have hcl : v'.cells.toList.length = ti.sz := by rw [Array.length_toList, hm.1, hlen]
  have hst := run_storeCells_at P g (i * bx.k + off) bx.ty v'.cells.toList 0 cur w h2 (by rw [hcl]; omega) (fun u hu => hone u (by simpa using hu))
  simp only [Nat.add_zero] at hst
  refine ⟨_, ?_, _, _, _, (h.upd (w' := w.setRow g (cur.toList.take (i * bx.k + off) ++ v'.cells.toList ++ cur.toList.drop (i * bx.k + off + v'.cells.toList.length)).toArray) b
    { bx with es := bx.es.set i (over e off cs) } (β b) (cp b) (h.fresh b (St.keyed_of_box hbx)) (.inr ⟨bx, hbx, fun _ => hfz, .inl ⟨by simp, rfl, rfl, rfl⟩⟩)
    ⟨rfl, rfl, rfl, by simp, fun q _ hq => setRow_other w g q _ (fun e => hq ⟨bx, hbx, hfz, by rw [h1, e]⟩)⟩ (fun q hq => .inr ⟨bx, hbx, hq⟩)
    (.inr ⟨g, _, h1, setRow_heap w g cur _ bx.ty _ h2, ?_, by simpa using h5, h6, ?_, ?_, ?_⟩)).put (by simpa [St.setBox] using hd) rfl⟩
  · simp only [Instr.storeAt, Instr.sureAddr, Sem.run_bind, Sem.run_pure, Result.andThen_ok, storeVar, hT.run_sizeOf]
    rw [if_neg (by rw [hm.1, hlen]; simp)]
    exact hst
  · simp only [List.size_toArray, List.length_append, List.length_take, List.length_drop, hcl, Array.length_toList]
    omega
  · intro el hel'
    rcases List.mem_or_eq_of_mem_set hel' with h9 | rfl
    · exact h7 el h9
    · rw [over_length (by omega)]; exact hel
  · intro hr el hel' c hc
    rcases List.mem_or_eq_of_mem_set hel' with h10 | rfl
    · exact h9 hr el h10 c hc
    · simp only [over, List.mem_append] at hc
      rcases hc with hc | hc | hc
      · exact h9 hr e (List.mem_of_getElem? he) c (List.mem_of_mem_take hc)
      · obtain ⟨j, hj, rfl⟩ := List.getElem_of_mem hc
        exact okRs_get (hrow hr) (List.getElem?_eq_getElem hj)
      · exact h9 hr e (List.mem_of_getElem? he) c (List.mem_of_mem_drop hc)
  · intro i' j' el c he' hc
    dsimp only at he' ⊢
    rw [List.getElem?_set] at he'
    have hcur : ∀ q, q < cur.size → (cur.toList.take (i * bx.k + off) ++ v'.cells.toList ++ cur.toList.drop (i * bx.k + off + v'.cells.toList.length)).toArray.getD q undef =
        if i * bx.k + off ≤ q ∧ q < i * bx.k + off + ti.sz then v'.cells.getD (q - (i * bx.k + off)) undef else cur.getD q undef := by
      intro q hq
      simp only [Array.getD_eq_getD_getElem?, List.getElem?_toArray, List.getElem?_append, List.length_append, List.length_take, hcl, Array.length_toList, List.getElem?_take, List.getElem?_drop, Array.getElem?_toList]
      have hmin : min (i * bx.k + off) cur.size = i * bx.k + off := by omega
      rw [hmin]
      by_cases a1 : q < i * bx.k + off
      · rw [if_pos (by omega), if_pos a1, if_pos a1, if_neg (by omega)]
      · by_cases a2 : q < i * bx.k + off + ti.sz
        · rw [if_pos a2, if_neg a1, if_pos (by omega)]
        · rw [if_neg a2, if_neg (by omega)]
          congr 2; omega
    by_cases hii : i = i'
    · subst hii
      rw [if_pos rfl] at he'
      simp only [hil, if_true, Option.some.injEq] at he'
      subst he'
      have hjl := (List.getElem?_eq_some_iff.1 hc).1
      rw [over_length (by omega), hel] at hjl
      rw [over_get (by omega)] at hc
      rw [hcur _ (by omega)]
      by_cases hin : off ≤ j' ∧ j' < off + cs.length
      · rw [if_pos hin] at hc
        rw [if_pos (by omega)]
        have : i * bx.k + j' - (i * bx.k + off) = j' - off := by omega
        rw [this]
        exact hm.2 _ c hc
      · rw [if_neg hin] at hc
        rw [if_neg (by omega)]
        exact h8 i j' e c he hc
    · rw [if_neg hii] at he'
      have hil' := (List.getElem?_eq_some_iff.1 he').1
      have hjl := (List.getElem?_eq_some_iff.1 hc).1
      rw [h7 el (List.mem_of_getElem? he')] at hjl
      have hlt := row_lt (m := cp b) (sz := bx.k) (i := i') (j := j') (by omega) hjl
      rw [hcur _ (by omega), if_neg]
      · exact h8 i' j' el c he' hc
      · rintro ⟨q1, q2⟩
        rcases Nat.lt_or_gt_of_ne hii with q3 | q3
        · have : (i + 1) * bx.k ≤ i' * bx.k := Nat.mul_le_mul_right _ q3
          rw [Nat.succ_mul] at this
          omega
        · have : (i' + 1) * bx.k ≤ i * bx.k := Nat.mul_le_mul_right _ q3
          rw [Nat.succ_mul] at this
          omega

/-- Cells of a value, each of one cell. -/
theorem cells_seal (h : Good X s a w β cp Rd) {v : Value} {x : AV} (hx : MA w (X.mt s β Rd) Rd (hOf s β cp) v x) (hn : (cellsOf x).length ≠ 0) (ho : sealOks s (cellsOf x)) (hr : okRs ((cellsOf x).map (sealC s))) {ids : List Nat} (hid : ∀ b ∈ rowIds (cellsOf x), b ∈ ids) :
    MCs w (X.mt (freeze s ids) β Rd) Rd (hOf (freeze s ids) β cp) v.cells ((cellsOf x).map (sealC s)) ∧ (∀ u ∈ v.cells, u.oneCell' = true) := by
  have hok : okCs (cellsOf x) := by
    have : ∀ cs : List C, okRs (cs.map (sealC s)) → okCs cs := by
      intro cs
      induction cs with
      | nil => intro _; trivial
      | cons c r ih =>
        rintro ⟨h1, h2⟩
        refine ⟨?_, ih h2⟩
        cases c <;> first | rfl | cases h1
    exact this _ hr
  have hm := cells_ok' hx hn hok
  refine ⟨⟨by rw [hm.1]; simp, fun j c hj => ?_⟩, fun u hu => ?_⟩
  · exact seal_oks h (fun g _ hg => freeze_mt ids g hg) (fun _ h => h) (freeze_av h ids) (cellsOf x) (fun j => v.cells.getD j undef) hm.2 ho hid j c hj
  · obtain ⟨j, hj, rfl⟩ := Array.getElem_of_mem hu
    have hl : j < (cellsOf x).length := by rw [← hm.1]; exact hj
    have := hm.2 j _ (List.getElem?_eq_getElem hl)
    have e : v.cells.getD j undef = v.cells[j] := by simp [hj]
    rw [e] at this
    exact okC_one (okCs_get hok (List.getElem?_eq_getElem hl)) this

theorem store_ok (ht : TTok P tt) (h : Good X s a w β cp Rd) {d : Option Nat} (hd : dstOK s.nt d) {t : Nat} {v v' : Value} {x y : AV} (hx : MA w (X.mt s β Rd) Rd (hOf s β cp) v x)
    (hy : MA w (X.mt s β Rd) Rd (hOf s β cp) v' y) (hp : (storeS tt t x y s d).1) :
    ∃ w', (Instr.storeAt t v v').run P w = .ok () w' ∧ ∃ s', (storeS tt t x y s d).2 s' ∧ Rel X s' (a.put d undef) w' := by
  unfold storeS at hp ⊢
  split at hp
  · rename_i ti b n i off hti
    split at hp
    · rename_i bx hbx
      split at hp
      · rename_i hrow
        simp only [Res.mkE] at hp ⊢
        obtain ⟨hn, hi, ho, hsz, hlen, hfz, hso, hro, hb⟩ := hp
        have hnb : b ∉ rowIds (cellsOf y) := fun hm => by
          have := List.contains_iff_mem.2 hm
          rw [hb] at this; cases this
        obtain ⟨hm, hone⟩ := cells_seal h hy (by omega) hso hro (ids := rowIds (cellsOf y)) (fun b hb => hb)
        have hG := h.freeze (rowIds (cellsOf y))
        have hbx' : (freeze s (rowIds (cellsOf y))).box b = some bx := by rw [freeze_box, hbx, Option.map_some, if_neg hnb]
        obtain ⟨e, he⟩ : ∃ e, bx.es[i]? = some e := ⟨_, List.getElem?_eq_getElem (by omega)⟩
        obtain ⟨w', h1, h2⟩ := store_core ht hG (d := d) (by rw [(freeze_env s _).2.1]; exact hd) hti hbx' (hx.2.at rfl hbx hn) hn hi ho hsz (cs := (cellsOf y).map (sealC s)) (by simpa using hlen) hfz hm hone (fun _ => hro) he
        exact ⟨w', h1, _, ⟨e, he, rfl⟩, h2⟩
      · rename_i hrow
        simp only [Res.mkE] at hp ⊢
        obtain ⟨hn, hi, ho, hsz, hlen, hfz, hno⟩ := hp
        have hm := cells_ok' hy (by omega) hno
        obtain ⟨e, he⟩ : ∃ e, bx.es[i]? = some e := ⟨_, List.getElem?_eq_getElem (by omega)⟩
        have hone : ∀ u ∈ v'.cells, u.oneCell' = true := fun u hu => by
          obtain ⟨j, hj, rfl⟩ := Array.getElem_of_mem hu
          have hl : j < (cellsOf y).length := by rw [← hm.1]; exact hj
          have := hm.2 j _ (List.getElem?_eq_getElem hl)
          have e : v'.cells.getD j undef = v'.cells[j] := by simp [hj]
          rw [e] at this
          exact okC_one (okCs_get hno (List.getElem?_eq_getElem hl)) this
        obtain ⟨w', h1, h2⟩ := store_core ht h hd hti hbx (hx.2.at rfl hbx hn) hn hi ho hsz hlen hfz hm hone (fun hr => by rw [hrow] at hr; cases hr) he
        exact ⟨w', h1, _, ⟨e, he, rfl⟩, h2⟩
    · exact hp.elim
  · exact hp.elim

theorem makeSlice_ok (ht : TTok P tt) (h : Good X s a w β cp Rd) {d : Option Nat} (hd : dstOK s.nt d) {nid : Nat} (hf : ¬ s.keyed nid) (hnx : nid < s.nx) {t : Nat} {v v' : Value} {x y : AV} (hx : MA w (X.mt s β Rd) Rd (hOf s β cp) v x)
    (hy : MA w (X.mt s β Rd) Rd (hOf s β cp) v' y) (hp : (makeSliceS tt nid t x y s d).1) :
    ∃ u w', (Instr.makeSlice t v v').run P w = .ok u w' ∧ ∃ s', (makeSliceS tt nid t x y s d).2 s' ∧ RelF w Rd X s' (a.put d u) w' := by
  unfold makeSliceS at hp ⊢
  split at hp
  · rename_i ti k n k' m hti
    split at hp
    · rename_i e hk
      split at hp
      · rename_i te hte
        simp only [Res.mk1] at hp ⊢
        obtain ⟨h0, hnm, hby, h63, hsz⟩ := hp
        cases hx with
        | v _ _ => cases hy with
          | v _ _ =>
            obtain ⟨i, z, hi, hs, hb, hz, hzl⟩ := (ht e te hte).info
            have hr := run_make (P := P) w t e i z ((ht t ti hti).slice hk) hi hz k k' n m h0 hnm (by rw [hb]; exact hby) (by omega)
            have hzm := zv_mcs (w := w) (Mt := X.mt s β Rd) (Rd := Rd) (H := hOf s β cp) (ht e te hte) hzl
            have hzs : z.cells.size = te.sz := by rw [← (ht e te hte).zlen, ← hzl]; simp
            have hG := h.newRow hf hnx (es := List.replicate n.toNat (te.zv.map .v)) (k := te.sz) (ty := e) (row := true) (cap := m.toNat) (cur := madeCells z.cells (m.toNat * i.size)) (by rw [size_madeCells, hs]) (by simp; omega) (by simp only [maxLen]; omega)
              (fun el hel => by rw [List.eq_of_mem_replicate hel]; simp [(ht e te hte).zlen])
              (fun _ el hel c hc => by
                rw [List.eq_of_mem_replicate hel] at hc
                obtain ⟨x, _, rfl⟩ := List.mem_map.1 hc
                rfl)
              (fun i' j el c he hc => by
                have hil := (List.getElem?_eq_some_iff.1 he).1
                have hel : el = te.zv.map .v := List.eq_of_mem_replicate (List.mem_of_getElem? he)
                subst hel
                have hjl := (List.getElem?_eq_some_iff.1 hc).1
                simp only [List.length_map, (ht e te hte).zlen] at hjl
                simp only [List.length_replicate] at hil
                have hlt := row_lt (m := m.toNat) (sz := te.sz) (i := i') (j := j) (by omega) hjl
                have : (madeCells z.cells (m.toNat * i.size)).getD (i' * te.sz + j) undef = z.cells.getD j undef := by
                  have h9 : (i' * te.sz + j) % z.cells.size = j := by rw [hzs]; exact (row_div hjl).2
                  have h10 : j < z.cells.size := by rw [hzs]; exact hjl
                  simp [madeCells, hs, hlt, h9, h10]
                rw [this]
                exact hzm.2 j c hc)
            exact ⟨_, _, hr, _, rfl, _, _, _, hG.put (v := .slice (some ⟨w.heap.size, 0, none⟩) n.toNat m.toNat) (x := .c (.own nid n.toNat false)) (by simpa [St.setBox] using hd)
              ⟨rfl, hOf.mk rfl (St.box_set_same _ _ _) (by simp) fun _ => .inr ⟨_, m.toNat, upd_same _ _ _, rfl, by omega, by rw [upd_same]; exact Nat.le_refl _, fun h => by cases h⟩⟩, Fr.alloc _ _ _⟩
      · exact hp.elim
    · exact hp.elim
  · exact hp.elim
end
end Go.VE
