/- A part of the engine: what operations do to described states, proved sound against the model. No conditions. -/
import Derived.Test.YtofelomoieamoaaW3
set_option linter.unusedSimpArgs false
set_option linter.unusedVariables false
namespace Go.VE
open Go

def descOK (P : Program) : TypeDesc → TK → Prop
  | .int k, .int k' => k = k'
  | .bool, .bool => True
  | .string, .string => True
  | .slice e, .slice e' => e = e'
  | .map k _, .map k' => k = k'
  | .struct fields, .struct fs => fields.toList.map (fun f => (f.type, f.offset)) = fs.map (fun x => (x.1, x.2.1)) ∧ ∀ x ∈ fs, x.2.2 ≠ 0 ∧ ∃ j, P.info? x.1 = some j ∧ j.size = x.2.2
  | .struct _, .other => False
  | .array _ _, .other => False
  | _, .other => True
  | _, _ => False

structure TIok (P : Program) (t : Nat) (x : TI) : Prop where
  info : ∃ i z, P.info? t = some i ∧ i.size = x.sz ∧ i.bytes = x.bytes ∧ i.zero = some z ∧ z.cells.toList = x.zv
  und : ∃ d, P.underlying t = some d ∧ descOK P d x.kind
  zlen : x.zv.length = x.sz
  zone : ∀ v ∈ x.zv, v.oneCell' = true
  one : x.kind.agg = false → x.sz = 1
  eqv : x.eq = true → P.eqGuardType P.depth t = false ∧ ∀ (w : World) (as bs : List Int), as.length = x.sz → bs.length = x.sz →
    (Op.equalIn 10000 t (.agg (as.map (Value.int .i64)).toArray) (.agg (bs.map (Value.int .i64)).toArray)).run P w = .ok (decide (as = bs)) w ∧ (Instr.checkKey false 10000 t (.agg (as.map (Value.int .i64)).toArray)).run P w = .ok () w

def TTok (P : Program) (tt : Nat → Option TI) : Prop := ∀ t x, tt t = some x → TIok P t x

section
variable {P : Program} {w : World}

theorem TIok.size {t : Nat} {x : TI} (h : TIok P t x) : ∃ i, P.info? t = some i ∧ i.size = x.sz := by
  obtain ⟨i, z, h1, h2, _⟩ := h.info
  exact ⟨i, h1, h2⟩

theorem TIok.run_sizeOf {t : Nat} {x : TI} (h : TIok P t x) : (sizeOf t).run P w = .ok x.sz w := by
  obtain ⟨i, h1, h2⟩ := h.size
  simp [sizeOf, typeInfo, h1, h2]

theorem TIok.run_isAgg {t : Nat} {x : TI} (h : TIok P t x) : (isAgg t).run P w = .ok x.kind.agg w := by
  obtain ⟨d, h1, h2⟩ := h.und
  unfold isAgg
  rw [Sem.run_bind, run_underlying h1 w]
  generalize x.kind = k at h2
  cases d <;> cases k <;> first | exact h2.elim | rfl

theorem TIok.slice {t e : Nat} {x : TI} (h : TIok P t x) (hk : x.kind = .slice e) : P.underlying t = some (.slice e) := by
  obtain ⟨d, h1, h2⟩ := h.und
  rw [hk] at h2
  cases d <;> first | exact h2.elim | (simp only [descOK] at h2; subst h2; exact h1)

theorem TIok.struct' {t : Nat} {x : TI} {fs : List (Nat × Nat × Nat)} (h : TIok P t x) (hk : x.kind = .struct fs) : ∃ fields : Array Field, P.underlying t = some (.struct fields) ∧
    fields.toList.map (fun f => (f.type, f.offset)) = fs.map (fun x => (x.1, x.2.1)) ∧ ∀ x ∈ fs, x.2.2 ≠ 0 ∧ ∃ j, P.info? x.1 = some j ∧ j.size = x.2.2 := by
  obtain ⟨d, h1, h2⟩ := h.und
  rw [hk] at h2
  cases d <;> first | exact h2.elim | exact ⟨_, h1, h2⟩

theorem TIok.struct {t : Nat} {x : TI} {fs : List (Nat × Nat × Nat)} (h : TIok P t x) (hk : x.kind = .struct fs) : ∃ fields, P.underlying t = some (.struct fields) ∧
    ∀ (i ft o sz : Nat), fs[i]? = some (ft, o, sz) → ∃ f : Field, fields[i]? = some f ∧ f.type = ft ∧ f.offset = o ∧ sz ≠ 0 ∧ ∃ j, P.info? ft = some j ∧ j.size = sz := by
  obtain ⟨fields, h1, h2, h3⟩ := h.struct' hk
  refine ⟨fields, h1, fun i ft o sz hi => ?_⟩
  have h4 : (fs.map (fun x => (x.1, x.2.1)))[i]? = some (ft, o) := by simp [hi]
  rw [← h2] at h4
  simp only [List.getElem?_map, Option.map_eq_some_iff, Prod.mk.injEq, Array.getElem?_toList] at h4
  obtain ⟨f, h5, h6, h7⟩ := h4
  obtain ⟨h8, h9⟩ := h3 _ (List.mem_of_getElem? hi)
  exact ⟨f, h5, h6, h7, h8, h9⟩

theorem addr_add (g o n : Nat) : (⟨g, o, none⟩ : Addr).add n = ⟨g, o + n, none⟩ := by
  unfold Addr.add; split <;> simp_all

theorem addr_add' {p : Addr} (hs : p.spot = none) (n : Nat) : p.add n = ⟨p.block, p.off + n, none⟩ := by
  cases p; simp only at hs; subst hs; exact addr_add _ _ _

theorem loadVar_ok {t : Nat} {x : TI} (h : TIok P t x) (p : Addr) (hs : p.spot = none) (u : Nat → Value) (hc : ∀ j, j < x.sz → w.cell? ⟨p.block, p.off + j, none⟩ = some (u j)) :
    (loadVar t p).run P w = .ok (match x.kind.agg with | true => .agg ((List.range x.sz).map u).toArray | false => u 0) w := by
  unfold loadVar
  rw [Sem.run_bind, h.run_isAgg]
  simp only [Result.andThen_ok]
  cases hk : x.kind.agg with
  | true =>
    simp only [if_true, Sem.run_bind, h.run_sizeOf, Result.andThen_ok]
    rw [run_loadCells w p x.sz u (fun j hj => by rw [addr_add' hs]; exact hc j hj)]
    rfl
  | false =>
    have h1 := h.one hk
    have h2 := hc 0 (by omega)
    have h3 : p = ⟨p.block, p.off + 0, none⟩ := by cases p; simp_all
    simp only [Bool.false_eq_true, if_false]
    rw [run_load, h3, h2]
end

section
variable {P : Program} {tt : Nat → Option TI} {X : Cx} {s : St} {a : Act} {w : World} {β : Nat → Option Nat} {cp : Nat → Nat} {Rd : Nat → Prop}

/-- Cells taken out of a row, as a value of a type. -/
theorem mk_ok {Mt Rd : Nat → Prop} {H : C → Value → Prop} {t : Nat} {x : TI} (h : TIok P t x) (cs : List C) (hl : cs.length = x.sz) (u : Nat → Value)
    (hu : ∀ j c, cs[j]? = some c → MC w Mt Rd H (u j) c) : MA w Mt Rd H (match x.kind.agg with | true => .agg ((List.range x.sz).map u).toArray | false => u 0) (mkAV x.kind.agg cs) := by
  cases hk : x.kind.agg with
  | true =>
    refine ⟨_, rfl, by simp [hl], fun j c hj => ?_⟩
    have hlt : j < x.sz := by rw [← hl]; exact (List.getElem?_eq_some_iff.1 hj).1
    have : (((List.range x.sz).map u).toArray).getD j undef = u j := by simp [hlt]
    rw [this]
    exact hu j c hj
  | false =>
    have h1 := h.one hk
    match cs, hl with
    | [c], _ => exact hu 0 c rfl
    | [], hl => simp at hl; omega
    | _ :: _ :: _, hl => simp at hl; omega

theorem loaded_length (row : Bool) (cs : List C) : (loaded row cs).length = cs.length := by cases row <;> simp [loaded]
theorem loaded_get {row : Bool} {cs : List C} {j : Nat} {c : C} (h : (loaded row cs)[j]? = some c) : ∃ c0, cs[j]? = some c0 ∧ (c = c0 ∨ c = VE.strip c0) := by
  cases row with
  | true => exact ⟨c, h, .inl rfl⟩
  | false =>
    simp only [loaded, List.getElem?_map, Option.map_eq_some_iff] at h
    obtain ⟨c0, h1, rfl⟩ := h
    exact ⟨c0, h1, .inr rfl⟩
theorem MC.strip {Mt Rd : Nat → Prop} {H : C → Value → Prop} {v : Value} {c : C} (h : MC w Mt Rd H v c) : MC w Mt Rd H v (strip c) := by
  cases c <;> first | exact h | exact h.2.mc

theorem load_ok (ht : TTok P tt) (h : Good X s a w β cp Rd) {d : Option Nat} (hd : dstOK s.nt d) {t : Nat} {v : Value} {x : AV} (hx : MA w (X.mt s β Rd) Rd (hOf s β cp) v x)
    (hp : (loadS tt t x s d).1) : ∃ u, (∀ w' Rd', Fr w Rd w' Rd' → (Instr.loadAt t v).run P w' = .ok u w') ∧ ∃ s', (loadS tt t x s d).2 s' ∧ Good X s' (a.put d u) w β cp Rd := by
  unfold loadS at hp ⊢
  split at hp
  · rename_i ti cs hti
    have hT := ht t ti hti
    simp only [Res.mk1] at hp ⊢
    cases hx with
    | rp cs p hs hm hlt u hc hr =>
      have hcell : ∀ w' Rd', Fr w Rd w' Rd' → ∀ j, j < ti.sz → w'.cell? ⟨p.block, p.off + j, none⟩ = some (u j) := fun w' Rd' hfr j hj =>
        (World.cell?_of_block (w := w) (w' := w') (a := ⟨p.block, p.off + j, none⟩) (hfr.block p.block hlt fun hr => hm (.inr (.inr hr)))).trans (hc j _ (List.getElem?_eq_getElem (by omega)))
      refine ⟨_, ?_, _, rfl, h.put hd (mk_ok hT (cs.take ti.sz) (by simp; omega) u fun j c hj => ?_)⟩
      · intro w' Rd' hfr
        simp only [Instr.loadAt, Instr.sureAddr, Sem.run_bind, Sem.run_pure, Result.andThen_ok]
        exact loadVar_ok hT p hs u (hcell w' Rd' hfr)
      · rw [List.getElem?_take] at hj
        split at hj
        · exact (hr j c hj).mc
        · cases hj
  · rename_i ti b n i off hti
    have hT := ht t ti hti
    split at hp
    · rename_i bx hbx
      simp only [Res.mkE] at hp ⊢
      obtain ⟨hn, hi, ho⟩ := hp
      obtain ⟨g, hg, rfl⟩ := hx.2.at rfl hbx hn
      rcases (h.boxes b bx hbx).two (.inr (ne_of_lt (show i < bx.es.length by omega))) with ⟨hnone, _⟩ | ⟨g', cur, h1, h2, h4, h5, h6, h7, h9, h8⟩
      · rw [hnone] at hg; cases hg
      rw [h1] at hg; cases hg
      have hil : i < bx.es.length := by omega
      obtain ⟨e, he⟩ : ∃ e, bx.es[i]? = some e := ⟨_, List.getElem?_eq_getElem hil⟩
      have hel := h7 e (List.mem_of_getElem? he)
      have hspan : i * bx.k + bx.k ≤ cur.size := by
        rw [h4, ← Nat.succ_mul]
        exact Nat.mul_le_mul_right _ (by omega)
      have hcell : ∀ w' Rd', Fr w Rd w' Rd' → ∀ j, j < ti.sz → w'.cell? ⟨g, i * bx.k + off + j, none⟩ = some (cur.getD (i * bx.k + (off + j)) undef) := by
        intro w' Rd' hfr j hj
        have h2' := (hfr.block g (Array.getElem?_eq_some_iff.1 h2).1 (h.own_rd g ⟨b, bx, hbx, h1⟩)).trans h2
        rw [cell_of_row w' g _ cur bx.ty (0, 0) h2']
        have : i * bx.k + off + j < cur.size := by omega
        simp [Nat.add_assoc] at this ⊢
        simp [this]
      refine ⟨_, ?_, _, ⟨e, he, rfl⟩, h.put hd (mk_ok hT (loaded bx.row ((e.drop off).take ti.sz)) (by rw [loaded_length]; simp; omega) (fun j => cur.getD (i * bx.k + (off + j)) undef) fun j c hj => ?_)⟩
      · intro w' Rd' hfr
        simp only [Instr.loadAt, Instr.sureAddr, Sem.run_bind, Sem.run_pure, Result.andThen_ok]
        exact loadVar_ok hT ⟨g, i * bx.k + off, none⟩ rfl _ (hcell w' Rd' hfr)
      · obtain ⟨c0, hj, hcc⟩ := loaded_get hj
        rw [List.getElem?_take] at hj
        split at hj
        · rw [List.getElem?_drop] at hj
          have := h8 i (off + j) e c0 he hj
          rcases hcc with rfl | rfl
          · exact this
          · exact this.strip
        · cases hj
    · exact hp.elim
  · exact hp.elim

theorem fieldAddr_ok (ht : TTok P tt) (h : Good X s a w β cp Rd) {d : Option Nat} (hd : dstOK s.nt d) {t f : Nat} {v : Value} {x : AV} (hx : MA w (X.mt s β Rd) Rd (hOf s β cp) v x)
    (hp : (fieldAddrS tt t x f s d).1) : ∃ u, (∀ w, (Instr.fieldAt t v f).run P w = .ok u w) ∧ ∃ s', (fieldAddrS tt t x f s d).2 s' ∧ Good X s' (a.put d u) w β cp Rd := by
  unfold fieldAddrS at hp ⊢
  split at hp
  · rename_i ti hti
    have hT := ht t ti hti
    split at hp
    · rename_i fs hk
      obtain ⟨fields, hu, hf⟩ := hT.struct hk
      have key : ∀ ft o sz, nthL fs f = some (ft, o, sz) → ∃ F, fields[f]? = some F ∧ F.offset = o ∧ ∀ (w : World) (p : Addr), (fieldPlace p F).run P w = .ok (p.add o) w := by
        intro ft o sz hfs
        rw [nthL_eq] at hfs
        obtain ⟨F, h1, h2, h3, h4, j, h5, h6⟩ := hf f ft o sz hfs
        refine ⟨F, h1, h3, fun w p => ?_⟩
        subst h2
        simp [fieldPlace, sizeOf, typeInfo, h5, h6, h4, h3]
      split at hp
      · rename_i ft o sz cs hfs
        simp only [Res.mk1] at hp ⊢
        obtain ⟨F, h1, h2, h3⟩ := key _ _ _ hfs
        cases hx with
        | rp cs p hs hm hlt u hc hr =>
          refine ⟨.pointer (some (p.add o)), ?_, _, rfl, h.put hd ?_⟩
          · intro w; simp [Instr.fieldAt, run_underlying hu, h1, Instr.sureAddr, h3]
          · rw [addr_add' hs]
            exact RC.rp (cs.drop o) ⟨p.block, p.off + o, none⟩ rfl hm hlt (fun j => u (o + j))
              (fun j c hj => by rw [List.getElem?_drop] at hj; simpa [Nat.add_assoc] using hc (o + j) c hj) (fun j c hj => by rw [List.getElem?_drop] at hj; exact hr (o + j) c hj)
      · rename_i ft o sz b n i off hfs
        simp only [Res.mk1] at hp ⊢
        obtain ⟨F, h1, h2, h3⟩ := key _ _ _ hfs
        split at hp
        · rename_i bx hbx
          simp only [Res.mk1] at hp ⊢
          obtain ⟨g, hg, rfl⟩ := hx.2.at rfl hbx hp
          refine ⟨.pointer (some ⟨g, i * bx.k + (off + o), none⟩), ?_, _, rfl, h.put hd ⟨rfl, hOf.mk rfl hbx (Nat.le_of_eq hp) fun _ => ⟨g, hg, rfl⟩⟩⟩
          intro w; simp [Instr.fieldAt, run_underlying hu, h1, Instr.sureAddr, h3, addr_add, Nat.add_assoc]
        · exact hp.elim
      · exact hp.elim
    · exact hp.elim
  · exact hp.elim

theorem field_ok (ht : TTok P tt) (h : Good X s a w β cp Rd) {d : Option Nat} (hd : dstOK s.nt d) {t f : Nat} {v : Value} {x : AV} (hx : MA w (X.mt s β Rd) Rd (hOf s β cp) v x)
    (hp : (fieldS tt t x f s d).1) : ∃ u, (∀ w, (Instr.field t v f).run P w = .ok u w) ∧ ∃ s', (fieldS tt t x f s d).2 s' ∧ Good X s' (a.put d u) w β cp Rd := by
  unfold fieldS at hp ⊢
  split at hp
  · rename_i ti cs hti
    have hT := ht t ti hti
    split at hp
    · rename_i fs hk
      obtain ⟨fields, hu, hf⟩ := hT.struct hk
      split at hp
      · rename_i ft o sz hfs
        split at hp
        · rename_i fi hfi
          have hF := ht ft fi hfi
          simp only [Res.mk1] at hp ⊢
          rw [nthL_eq] at hfs
          obtain ⟨F, h1, h2, h3, h4, j, h5, h6⟩ := hf f ft o sz hfs
          obtain ⟨hol, hsz⟩ := hp
          obtain ⟨arr, rfl, hlen, hcell⟩ := hx
          have hm := mk_ok (w := w) (Mt := X.mt s β Rd) (Rd := Rd) (H := hOf s β cp) hF ((cs.drop o).take sz) (by simp; omega) (fun j => arr.getD (o + j) undef) (fun j c hj => by
            rw [List.getElem?_take] at hj
            split at hj
            · rw [List.getElem?_drop] at hj; exact hcell (o + j) c hj
            · cases hj)
          refine ⟨_, fun w => ?_, _, rfl, h.put hd hm⟩
          have hpart : (part F.type arr F.offset).run P w = .ok (match fi.kind.agg with | true => .agg ((List.range fi.sz).map fun j => arr.getD (o + j) undef).toArray | false => arr.getD (o + 0) undef) w := by
            subst h2 h3
            unfold part
            rw [Sem.run_bind, hF.run_isAgg]
            simp only [Result.andThen_ok]
            cases hk : fi.kind.agg with
            | true =>
              simp only [if_true, Sem.run_bind, hF.run_sizeOf, Result.andThen_ok, Sem.run_pure]
              congr 2
              apply Array.ext
              · simp; omega
              · intro i hi1 hi2
                simp at hi1 hi2 ⊢
                have : F.offset + i < arr.size := by omega
                simp [this]
            | false =>
              have h1 := hF.one hk
              have : F.offset < arr.size := by omega
              simp [this]
          simp [Instr.field, run_underlying hu, h1, asAgg, hpart]
        · exact hp.elim
      · exact hp.elim
    · exact hp.elim
  · exact hp.elim

theorem indexAddr_ok (ht : TTok P tt) (h : Good X s a w β cp Rd) {d : Option Nat} (hd : dstOK s.nt d) {t : Nat} {v vi : Value} {x i : AV} (hx : MA w (X.mt s β Rd) Rd (hOf s β cp) v x)
    (hi : MA w (X.mt s β Rd) Rd (hOf s β cp) vi i) (hp : (indexAddrS tt t x i s d).1) :
    ∃ u, (∀ w, (Instr.indexAt t v vi).run P w = .ok u w) ∧ ∃ s', (indexAddrS tt t x i s d).2 s' ∧ Good X s' (a.put d u) w β cp Rd := by
  unfold indexAddrS at hp ⊢
  have key : ∀ sz, elemSz tt t = some sz → ∃ e, P.underlying t = some (.slice e) ∧ ∃ ie, P.info? e = some ie ∧ ie.size = sz := by
    intro sz h1
    unfold elemSz at h1
    split at h1
    · rename_i ti hti
      split at h1
      · rename_i e hk
        simp only [Option.map_eq_some_iff] at h1
        obtain ⟨te, hte, rfl⟩ := h1
        exact ⟨e, (ht t ti hti).slice hk, (ht e te hte).size⟩
      · cases h1
    · cases h1
  split at hp
  · rename_i sz t' es k n hsz
    obtain ⟨e, hu, ie, hie, hsz'⟩ := key _ hsz
    simp only [Res.mkE] at hp ⊢
    obtain ⟨h0, hlt, hes⟩ := hp
    cases hi with
    | v _ _ =>
    cases hx with
    | sl t'' es' kk aa p m cap hn htt hle hmax hk ha u hc hr =>
      have hil : n.toNat < es.length := by omega
      obtain ⟨el, hel⟩ : ∃ el, es[n.toNat]? = some el := ⟨_, List.getElem?_eq_getElem hil⟩
      have hne : es ≠ [] := by rintro rfl; simp at hil
      obtain ⟨rfl, hs, hm, hblt⟩ := ha hne
      have hkk : kk = sz := by rw [← hk el (List.mem_of_getElem? hel)]; exact hes el (List.mem_of_getElem? hel)
      subst hkk
      refine ⟨.pointer (some (p.add (n.toNat * kk))), ?_, _, ⟨el, hel, rfl⟩, h.put hd ?_⟩
      · intro w
        have : n < (m : Int) := by omega
        simp [Instr.indexAt, asIntOf, run_underlying hu, h0, this, sizeOf, typeInfo, hie, hsz']
      · rw [addr_add' hs]
        exact RC.rp el ⟨p.block, p.off + n.toNat * kk, none⟩ rfl hm hblt (fun j => u n.toNat j) (fun j c hj => by simpa [Nat.add_assoc] using hc n.toNat j el c hel hj) (fun j c hj => hr n.toNat j el c hel hj)
  · rename_i sz b m t1 k n hsz
    obtain ⟨e, hu, ie, hie, hsz'⟩ := key _ hsz
    split at hp
    · rename_i bx hbx
      simp only [Res.mk1] at hp ⊢
      obtain ⟨hm, h0, hlt, hk⟩ := hp
      cases hi with
      | v _ _ =>
      rcases hx.2.at rfl hbx hm with ⟨_, e1, _⟩ | ⟨g, c, hg, rfl, hc1, hc2, _⟩
      · omega
      refine ⟨.pointer (some ⟨g, n.toNat * bx.k, none⟩), ?_, _, rfl, h.put hd ⟨rfl, hOf.mk rfl hbx (Nat.le_of_eq hm) fun _ => ⟨g, hg, by simp⟩⟩⟩
      intro w
      have : n < (bx.es.length : Int) := by omega
      simp [Instr.indexAt, asIntOf, run_underlying hu, h0, hm, this, sizeOf, typeInfo, hie, hsz', addr_add, hk]
    · exact hp.elim
  · rename_i sz b m lo hh k n hsz
    obtain ⟨e, hu, ie, hie, hsz'⟩ := key _ hsz
    split at hp
    · rename_i bx hbx
      simp only [Res.mk1] at hp ⊢
      obtain ⟨hm, h0, hlt, hk⟩ := hp
      cases hi with
      | v _ _ =>
      obtain ⟨h1, h2, a0, c, rfl, h3, h4, h5⟩ := hx.2.at rfl hbx hm
      obtain ⟨g, hg, rfl⟩ := h5 (by omega)
      refine ⟨.pointer (some ⟨g, (lo + n.toNat) * bx.k, none⟩), ?_, _, rfl, h.put hd ⟨rfl, hOf.mk rfl hbx (Nat.le_of_eq hm) fun _ => ⟨g, hg, by simp⟩⟩⟩
      intro w
      have : n < ((hh - lo : Nat) : Int) := by omega
      simp [Instr.indexAt, asIntOf, run_underlying hu, h0, this, sizeOf, typeInfo, hie, hsz', addr_add, hk, Nat.add_mul]
    · exact hp.elim
  · exact hp.elim

theorem index_ok (ht : TTok P tt) (h : Good X s a w β cp Rd) {d : Option Nat} (hd : dstOK s.nt d) {t : Nat} {v vi : Value} {x i : AV} (hx : MA w (X.mt s β Rd) Rd (hOf s β cp) v x)
    (hi : MA w (X.mt s β Rd) Rd (hOf s β cp) vi i) (hp : (indexS tt t x i s d).1) :
    ∃ u, (∀ w, (Instr.index t v vi).run P w = .ok u w) ∧ ∃ s', (indexS tt t x i s d).2 s' ∧ Good X s' (a.put d u) w β cp Rd := by
  unfold indexS at hp ⊢
  split at hp
  · rename_i b k n hti
    simp only [Option.map_eq_some_iff] at hti
    obtain ⟨ti, hti, hk⟩ := hti
    obtain ⟨dd, hu, hdk⟩ := (ht t ti hti).und
    rw [hk] at hdk
    have hu' : P.underlying t = some .string := by cases dd <;> first | exact hdk.elim | exact hu
    simp only [Res.mkE] at hp ⊢
    obtain ⟨h0, hlt⟩ := hp
    cases hi with
    | v _ _ =>
    cases hx with
    | v _ _ =>
      have hl : n.toNat < b.size := by omega
      have hl' : n.toNat < b.data.size := hl
      have hb : b[n.toNat]? = some (b.data[n.toNat]'hl') := getElem?_pos b n.toNat hl
      refine ⟨.int .u8 (b.data[n.toNat]'hl').toNat, ?_, _, ⟨b.data[n.toNat]'hl', by simp, rfl⟩, h.put hd (RC.v _ rfl)⟩
      intro w; simp [Instr.index, asIntOf, run_underlying hu', h0, hb]
  · exact hp.elim

theorem extract_ok (h : Good X s a w β cp Rd) {d : Option Nat} (hd : dstOK s.nt d) {j : Nat} {v : Value} {x : AV} (hx : MA w (X.mt s β Rd) Rd (hOf s β cp) v x)
    (hp : (extractS x j s d).1) : ∃ u, (∀ w, (Instr.extract v j).run P w = .ok u w) ∧ ∃ s', (extractS x j s d).2 s' ∧ Good X s' (a.put d u) w β cp Rd := by
  unfold extractS at hp ⊢
  split at hp
  · rename_i vs
    split at hp
    · rename_i y hy
      simp only [Res.mk1] at hp ⊢
      rw [nthL_eq] at hy
      obtain ⟨arr, rfl, hs, hc⟩ := hx
      have hlt : j < arr.size := by rw [hs]; exact (List.getElem?_eq_some_iff.1 hy).1
      refine ⟨arr.getD j undef, by intro w; simp [Instr.extract, hlt], _, rfl, h.put hd ?_⟩
      have := hc j y hy
      cases y with
      | tup _ => exact this.elim
      | c _ => exact this
      | agg _ => exact this
      | mp _ _ => exact this.elim
    · exact hp.elim
  · exact hp.elim

theorem elemSz_key (ht : TTok P tt) {t sz : Nat} (h1 : elemSz tt t = some sz) : ∃ e, P.underlying t = some (.slice e) ∧ ∃ ie, P.info? e = some ie ∧ ie.size = sz := by
  unfold elemSz at h1
  split at h1
  · rename_i ti hti
    split at h1
    · rename_i e hk
      simp only [Option.map_eq_some_iff] at h1
      obtain ⟨te, hte, rfl⟩ := h1
      exact ⟨e, (ht t ti hti).slice hk, (ht e te hte).size⟩
    · cases h1
  · cases h1

theorem RC.part {w : World} {Mt : Nat → Prop} {a : Option Addr} {n cap m : Nat} {t0 : Bool} {es : List (List C)} (hx : RC w Mt (.slice a n cap) (.sl t0 es)) {sz l h : Nat} (hlh : l ≤ h) (hh : h ≤ es.length) (hsz : ∀ e ∈ es, e.length = sz) (t1 : Bool) (hm : h ≤ m) (hmc : m ≤ cap) (ht : t1 = true → m = h) :
    RC w Mt (.slice (if m = l then a else a.map (·.add (l * sz))) (h - l) (m - l)) (.sl t1 ((es.take h).drop l)) := by
  cases hx with
  | sl _ _ k _ p _ _ hn ht' hle hmax hk ha u hc hr =>
    have get : ∀ i e, ((es.take h).drop l)[i]? = some e → es[l + i]? = some e ∧ l + i < h := fun i e he => by
      rw [List.getElem?_drop, List.getElem?_take] at he
      split at he
      · exact ⟨he, by assumption⟩
      · cases he
    refine RC.sl t1 _ sz _ ⟨p.block, p.off + l * sz, none⟩ (h - l) (m - l) (by simp; omega) (fun hq => by rw [ht hq]) (by omega) (by omega) (fun e he => hsz e (List.mem_of_mem_take (List.mem_of_mem_drop he))) (fun hne => ?_) (fun i j => u (l + i) j) (fun i j e c he hj => ?_) (fun i j e c he hj => hr (l + i) j e c (get i e he).1 hj)
    · have hlt : l < h := by
        rcases Nat.lt_or_ge l h with h' | h'
        · exact h'
        · exact absurd (List.drop_eq_nil_of_le (by rw [List.length_take]; omega)) hne
      have hne' : es ≠ [] := by rintro rfl; simp at hh; omega
      obtain ⟨rfl, hs, hM, hb⟩ := ha hne'
      rw [if_neg (by omega)]
      exact ⟨by simp [addr_add' hs], rfl, hM, hb⟩
    · obtain ⟨h1, _⟩ := get i e he
      have hkk : k = sz := by rw [← hk e (List.mem_of_getElem? h1)]; exact hsz e (List.mem_of_getElem? h1)
      subst hkk
      have := hc (l + i) j e c h1 hj
      simpa [Nat.add_mul, Nat.add_assoc] using this

/-- A bound of a slice expression. -/
def Bd (o : Option Value) (dflt : Nat) (n : Int) : Prop := (o = none ∧ n = dflt) ∨ ∃ k, o = some (.int k n)

theorem bound_run (w : World) {k : IntKind} {n : Int} {y : Nat} (h0 : 0 ≤ n) (h1 : n ≤ y) (c : BoundsCode) : (Instr.sliceBound (.int k n) y c).run P w = .ok n.toNat w := by
  simp [Instr.sliceBound, asIntOf, h0, h1]

theorem bounds_run (w : World) (isS : Bool) {len cap : Nat} {lo hi mx : Option Value} {l h m : Int} (hlo : Bd lo 0 l) (hhi : (hi = none ∧ mx = none ∧ h = len) ∨ ∃ k, hi = some (.int k h)) (hmx : Bd mx cap m)
    (h0 : 0 ≤ l) (h1 : l ≤ h) (h2 : h ≤ m) (h3 : m ≤ cap) : (Instr.sliceBounds isS len cap lo hi mx).run P w = .ok (l.toNat, h.toNat, m.toNat) w := by
  have f1 : 0 ≤ h := Int.le_trans h0 h1
  have f2 : 0 ≤ m := Int.le_trans f1 h2
  have f3 : h ≤ (m.toNat : Int) := by omega
  have f4 : l ≤ (h.toNat : Int) := by omega
  have f5 : h ≤ (cap : Int) := by omega
  rcases hmx with ⟨rfl, rfl⟩ | ⟨k3, rfl⟩
  · rcases hhi with ⟨rfl, _, rfl⟩ | ⟨k2, rfl⟩ <;> rcases hlo with ⟨rfl, rfl⟩ | ⟨k1, rfl⟩
    · simp [Instr.sliceBounds]
    · simp [Instr.sliceBounds, bound_run w h0 h1]
    · simp [Instr.sliceBounds, bound_run w f1 f5]
    · simp [Instr.sliceBounds, bound_run w f1 f5, bound_run w h0 f4]
  · rcases hhi with ⟨_, h', _⟩ | ⟨k2, rfl⟩
    · cases h'
    · rcases hlo with ⟨rfl, rfl⟩ | ⟨k1, rfl⟩
      · simp [Instr.sliceBounds, bound_run w f2 h3, bound_run w f1 f3]
      · simp [Instr.sliceBounds, bound_run w f2 h3, bound_run w f1 f3, bound_run w h0 f4]

theorem slice_run (w : World) {t e : Nat} {ie : TypeInfo} {sz : Nat} (hu : P.underlying t = some (.slice e)) (hie : P.info? e = some ie) (hsz : ie.size = sz) {aa : Option Addr} {n cap : Nat} {lo hi mx : Option Value} {l h m : Int}
    (hlo : Bd lo 0 l) (hhi : (hi = none ∧ mx = none ∧ h = n) ∨ ∃ k, hi = some (.int k h)) (hmx : Bd mx cap m) (h0 : 0 ≤ l) (h1 : l ≤ h) (h2 : h ≤ m) (h3 : m ≤ cap) :
    (Instr.sliceAt t (.slice aa n cap) lo hi mx).run P w = .ok (.slice (if m.toNat = l.toNat then aa else aa.map (·.add (l.toNat * sz))) (h.toNat - l.toNat) (m.toNat - l.toNat)) w := by
  simp only [Instr.sliceAt, Instr.slice, Sem.run_bind, run_underlying hu w, Result.andThen_ok, bounds_run w true hlo hhi hmx h0 h1 h2 h3]
  simp [sizeOf, typeInfo, hie, hsz]

theorem slice_run_string (w : World) {t : Nat} (hu : P.underlying t = some .string) {b : ByteArray} {lo hi : Option Value} {l h : Int}
    (hlo : Bd lo 0 l) (hhi : Bd hi b.size h) (h0 : 0 ≤ l) (h1 : l ≤ h) (h2 : h ≤ b.size) :
    (Instr.sliceAt t (.string b) lo hi none).run P w = .ok (.string (b.extract l.toNat h.toNat)) w := by
  have hb := bounds_run (P := P) w false hlo (hhi.imp (fun h => ⟨h.1, rfl, h.2⟩) id) (.inl ⟨rfl, rfl⟩ : Bd none b.size b.size) h0 h1 h2 (Int.le_refl _)
  simp [Instr.sliceAt, Instr.slice, run_underlying hu w, hb]

theorem slice_ok (ht : TTok P tt) (h : Good X s a w β cp Rd) {d : Option Nat} (hd : dstOK s.nt d) {t : Nat} {x : Operand} {lo hi mx : Option Operand}
    (hp : (sliceS tt t (s.ev x) (lo.map s.ev) (hi.map s.ev) (mx.map s.ev) s d).1) :
    ∃ u, (∀ w, (Instr.sliceAt t (a.eval x) (lo.map a.eval) (hi.map a.eval) (mx.map a.eval)).run P w = .ok u w) ∧ ∃ s', (sliceS tt t (s.ev x) (lo.map s.ev) (hi.map s.ev) (mx.map s.ev) s d).2 s' ∧ Good X s' (a.put d u) w β cp Rd := by
  have hx := h.ev x
  have bnd : ∀ (o : Option Operand) (dflt : Nat) (n : Int), boundOf (o.map s.ev) dflt = some n → Bd (o.map a.eval) dflt n := by
    intro o dflt n hb
    cases o with
    | none => simp only [Option.map_none, boundOf, Option.some.injEq] at hb; exact .inl ⟨rfl, hb.symm⟩
    | some y =>
      have hy := h.ev y
      simp only [Option.map_some] at hb ⊢
      unfold boundOf at hb
      split at hb
      · rename_i he; cases he
      · rename_i k n' _ he
        simp only [Option.some.injEq] at he hb
        subst hb
        rw [he] at hy
        generalize a.eval y = v at hy
        cases hy
        exact .inr ⟨_, rfl⟩
      · cases hb
  have noN : ∀ o : Option Operand, o.map s.ev = none → o.map a.eval = none := by
    intro o ho; cases o <;> first | rfl | cases ho
  have smI : ∀ (o : Option Operand) (k : IntKind) (m : Int), o.map s.ev = some (.c (.v (.int k m))) → ∃ k', o.map a.eval = some (.int k' m) := by
    intro o k m ho
    rcases bnd o 0 m (by rw [ho]; rfl) with ⟨e1, _⟩ | hq
    · cases o <;> first | cases ho | cases e1
    · exact hq
  have smB : ∀ (o : Option Operand) (dflt : Nat) (n : Int), (o.map s.ev).isSome = true → boundOf (o.map s.ev) dflt = some n → ∃ k, o.map a.eval = some (.int k n) := by
    intro o dflt n h1 h2
    rcases bnd o dflt n h2 with ⟨e1, _⟩ | hq
    · cases o with
      | none => cases h1
      | some y => cases e1
    · exact hq
  unfold sliceS at hp ⊢
  split at hp
  · rename_i sz t0 es hsz hxe
    obtain ⟨e, hu, ie, hie, hsz'⟩ := elemSz_key ht hsz
    rw [hxe] at hx
    generalize hv : a.eval x = v at hx ⊢
    split at hp
    · rename_i l hh hl hhi hm
      simp only [Res.mk1] at hp ⊢
      obtain ⟨h0, h1, h2, h3⟩ := hp
      cases hx with
      | sl _ _ k aa p n cap hn ht' hle hmax hk ha u hc hr =>
        have hx' : RC w (X.mt s β Rd) (.slice aa n cap) (.sl t0 es) := RC.sl t0 es k aa p n cap hn ht' hle hmax hk ha u hc hr
        have hpart := RC.part (m := cap) hx' (sz := sz) (l := l.toNat) (h := hh.toNat) (by omega) (by omega) h3 false (by omega) (Nat.le_refl _) (fun h => by cases h)
        rw [noN _ hm]
        subst hn
        exact ⟨_, fun w => slice_run w hu hie hsz' (bnd lo 0 l hl) ((bnd hi _ hh hhi).imp (fun q => ⟨q.1, rfl, q.2⟩) id) (.inl ⟨rfl, rfl⟩) h0 h1 (by omega) (Int.le_refl _), _, rfl, h.put hd (x := .c _) (RC.mc (Rd := Rd) (H := hOf s β cp) hpart)⟩
    · rename_i l hh k m hl hhi hm
      simp only [Res.mk1] at hp ⊢
      obtain ⟨h0, h1, h2, rfl, hsome, h3⟩ := hp
      cases hx with
      | sl _ _ k aa p n cap hn ht' hle hmax hk ha u hc hr =>
        have hx' : RC w (X.mt s β Rd) (.slice aa n cap) (.sl t0 es) := RC.sl t0 es k aa p n cap hn ht' hle hmax hk ha u hc hr
        have hpart := RC.part (m := m.toNat) hx' (sz := sz) (l := l.toNat) (h := m.toNat) (by omega) (by omega) h3 true (Nat.le_refl _) (by omega) (fun _ => rfl)
        exact ⟨_, fun w => slice_run w hu hie hsz' (bnd lo 0 l hl) (.inr (smB hi _ m hsome hhi)) (.inr (smI mx _ m hm)) h0 h1 (Int.le_refl _) (by omega), _, rfl, h.put hd (x := .c _) (RC.mc (Rd := Rd) (H := hOf s β cp) hpart)⟩
    · exact hp.elim
  · rename_i sz b n t0 hsz hxe
    obtain ⟨e, hu, ie, hie, hsz'⟩ := elemSz_key ht hsz
    rw [hxe] at hx
    generalize hv : a.eval x = v at hx ⊢
    split at hp
    · rename_i bx hbx
      split at hp
      · rename_i l hh hl hhi hm
        simp only [Res.mk1] at hp ⊢
        obtain ⟨hn, h0, h1, h2, h3⟩ := hp
        rw [noN _ hm]
        have hV := hx.2.at rfl hbx hn
        have hB := h.boxes b bx hbx
        have run1 : ∀ aa c, n ≤ c → v = .slice aa n c → ∀ w, (Instr.sliceAt t v (lo.map a.eval) (hi.map a.eval) none).run P w = .ok (.slice (if c = l.toNat then aa else aa.map (·.add (l.toNat * sz))) (hh.toNat - l.toNat) (c - l.toNat)) w := by
          rintro aa c hc rfl w
          exact slice_run w hu hie hsz' (bnd lo 0 l hl) ((bnd hi _ hh hhi).imp (fun q => ⟨q.1, rfl, q.2⟩) id) (.inl ⟨rfl, rfl⟩) h0 h1 (by omega) (Int.le_refl _)
        rcases hV with ⟨hβ, rfl, aa, rfl⟩ | ⟨g, c, hg, rfl, hc1, hc2, _⟩
        · exact ⟨_, run1 aa 0 (Nat.le_refl _) rfl, _, rfl, h.put hd (x := .c _) ⟨rfl, hOf.mk rfl hbx (Nat.le_of_eq hn) fun _ => ⟨by omega, by omega, _, _, rfl, by omega, by simp [maxLen], by omega⟩⟩⟩
        · rcases hB with (⟨q1, _⟩ | ⟨g', cur, q1, q2, q3, q4, q5, q6, q7, q8⟩) | ⟨q1, q2, q3, _⟩
          · rw [q1] at hg; cases hg
          · refine ⟨_, run1 _ c hc1 rfl, _, rfl, h.put hd (x := .c _) ⟨rfl, hOf.mk rfl hbx (Nat.le_of_eq hn) fun _ => ⟨by omega, by omega, _, _, rfl, by omega, by omega, fun hlt => ⟨g, hg, ?_⟩⟩⟩⟩
            rw [if_neg (by omega)]
            simp [addr_add, h3]
          · have hn0 : n = 0 := by rw [hn, q1]; rfl
            subst hn0
            exact ⟨_, run1 _ c hc1 rfl, _, rfl, h.put hd (x := .c _) ⟨rfl, hOf.mk rfl hbx (Nat.le_of_eq hn) fun _ => ⟨by omega, by omega, _, _, rfl, by omega, by simp [maxLen]; omega, fun hlt => by omega⟩⟩⟩
      · rename_i l hh k m hl hhi hm
        simp only [Res.mk1] at hp ⊢
        obtain ⟨hn, rfl, rfl, rfl, hsome, h3⟩ := hp
        have run1 : ∀ aa c, n ≤ c → v = .slice aa n c → ∀ w, (Instr.sliceAt t v (lo.map a.eval) (hi.map a.eval) (mx.map a.eval)).run P w = .ok (.slice aa n n) w := by
          rintro aa c hc rfl w
          rw [slice_run w hu hie hsz' (bnd lo 0 0 hl) (.inr (smB hi _ _ hsome hhi)) (.inr (smI mx _ _ hm)) (Int.le_refl _) (by omega) (Int.le_refl _) (by omega)]
          congr 2
          split
          · rfl
          · cases aa <;> simp
            rename_i ad
            cases ad
            simp [Addr.add]
        rcases hx.2.at rfl hbx hn with ⟨hβ, rfl, aa, rfl⟩ | ⟨g, c, hg, rfl, hc1, hc2, _⟩
        · exact ⟨_, run1 aa 0 (Nat.le_refl _) rfl, _, rfl, h.put hd (x := .c _) ⟨rfl, hOf.mk rfl hbx (Nat.le_of_eq hn) fun _ => .inl ⟨hβ, rfl, _, rfl⟩⟩⟩
        · exact ⟨_, run1 _ c hc1 rfl, _, rfl, h.put hd (x := .c _) ⟨rfl, hOf.mk rfl hbx (Nat.le_of_eq hn) fun _ => .inr ⟨g, n, hg, rfl, Nat.le_refl _, by omega, fun _ => rfl⟩⟩⟩
      · exact hp.elim
    · exact hp.elim
  · rename_i sz b n lo' hi' hsz hxe
    obtain ⟨e, hu, ie, hie, hsz'⟩ := elemSz_key ht hsz
    rw [hxe] at hx
    generalize hv : a.eval x = v at hx ⊢
    split at hp
    · rename_i bx hbx
      split at hp
      · rename_i l hh hl hhi hm
        simp only [Res.mk1] at hp ⊢
        obtain ⟨hn, h0, h1, h2, h3⟩ := hp
        rw [noN _ hm]
        obtain ⟨v1, v2, aa, c, rfl, v3, v4, v5⟩ := hx.2.at rfl hbx hn
        have hlc : hh ≤ (c : Int) := by omega
        refine ⟨_, fun w => slice_run w hu hie hsz' (bnd lo 0 l hl) ((bnd hi _ hh hhi).imp (fun q => ⟨q.1, rfl, q.2⟩) id) (.inl ⟨rfl, rfl⟩) h0 h1 hlc (Int.le_refl _), _, rfl, h.put hd (x := .c _) ⟨rfl, hOf.mk rfl hbx (Nat.le_of_eq hn) fun _ => ⟨by omega, by omega, (if (c : Int).toNat = l.toNat then aa else aa.map (·.add (l.toNat * sz))), c - l.toNat, ?_, by omega, by omega, fun hlt => ?_⟩⟩⟩
        · rw [show lo' + hh.toNat - (lo' + l.toNat) = hh.toNat - l.toNat by omega]
          rfl
        · obtain ⟨g, hg, rfl⟩ := v5 (by omega)
          refine ⟨g, hg, ?_⟩
          rw [if_neg (by simp; omega)]
          simp [addr_add, h3, Nat.add_mul]
      · exact hp.elim
    · exact hp.elim
  · rename_i b hsz hxe
    rw [hxe] at hx
    generalize hv : a.eval x = v at hx ⊢
    split at hp
    · rename_i l hh hk hl hhi hm
      simp only [Option.map_eq_some_iff] at hk
      obtain ⟨ti, hti, hk⟩ := hk
      obtain ⟨dd, hu, hdk⟩ := (ht t ti hti).und
      rw [hk] at hdk
      have hu' : P.underlying t = some .string := by cases dd <;> first | exact hdk.elim | exact hu
      simp only [Res.mk1] at hp ⊢
      obtain ⟨h0, h1, h2⟩ := hp
      rw [noN _ hm]
      cases hx with
      | v _ _ => exact ⟨_, fun w => slice_run_string w hu' (bnd lo 0 l hl) (bnd hi _ hh hhi) h0 h1 h2, _, rfl, h.put hd (x := .c _) (RC.v _ rfl)⟩
    · exact hp.elim
  · exact hp.elim
end
end Go.VE
