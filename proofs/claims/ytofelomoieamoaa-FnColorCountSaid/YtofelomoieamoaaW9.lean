/- A part of the engine: what operations do to described states, proved sound against the model. No conditions. -/
import Derived.Test.YtofelomoieamoaaW8
set_option linter.unusedSimpArgs false
set_option linter.unusedVariables false
namespace Go.VE
open Go

theorem foldl_set (off : Nat) : ∀ (l : List Value) (n : Nat) (arr : Array Value), ((l.zipIdx n).foldl (fun cs (p : Value × Nat) => cs.setIfInBounds (off + p.2) p.1) arr).size = arr.size ∧
    ∀ q, q < arr.size → ((l.zipIdx n).foldl (fun cs (p : Value × Nat) => cs.setIfInBounds (off + p.2) p.1) arr).getD q undef = if off + n ≤ q ∧ q < off + n + l.length then l.getD (q - (off + n)) undef else arr.getD q undef
  | [], n, arr => by
    refine ⟨rfl, fun q _ => ?_⟩
    rw [if_neg (by simp only [List.length_nil]; omega)]
    rfl
  | v :: l, n, arr => by
    simp only [List.zipIdx_cons, List.foldl_cons]
    obtain ⟨h1, h2⟩ := foldl_set off l (n + 1) (arr.setIfInBounds (off + n) v)
    refine ⟨by simpa using h1, fun q hq => ?_⟩
    rw [h2 q (by simpa using hq)]
    by_cases a1 : q = off + n
    · subst a1
      rw [if_neg (by omega), if_pos (by simp)]
      simp [hq]
    · by_cases a2 : off + (n + 1) ≤ q ∧ q < off + (n + 1) + l.length
      · rw [if_pos a2, if_pos (by simp; omega)]
        have : q - (off + n) = q - (off + (n + 1)) + 1 := by omega
        rw [this]; simp
      · rw [if_neg a2, if_neg (by simp; omega)]
        have : off + n ≠ q := fun e => a1 e.symm
        simp [this]

section
variable {P : Program} {tt : Nat → Option TI} {X : Cx} {s : St} {a : Act} {w : World} {β : Nat → Option Nat} {cp : Nat → Nat} {Rd : Nat → Prop}
variable {Mt : Nat → Prop} {H : C → Value → Prop}

theorem MCs.over {arr vs : Array Value} {z cs : List C} (h : MCs w Mt Rd H arr z) (hv : MCs w Mt Rd H vs cs) {off : Nat} (hle : off + cs.length ≤ z.length) :
    MCs w Mt Rd H (vs.zipIdx.foldl (fun cs (c, j) => cs.setIfInBounds (off + j) c) arr) (over z off cs) := by
  have e : vs.zipIdx.foldl (fun cs (c, j) => cs.setIfInBounds (off + j) c) arr = (vs.toList.zipIdx 0).foldl (fun cs (p : Value × Nat) => cs.setIfInBounds (off + p.2) p.1) arr := by
    rw [← Array.foldl_toList, Array.toList_zipIdx]
  rw [e]
  obtain ⟨h1, h2⟩ := foldl_set off vs.toList 0 arr
  refine ⟨by rw [h1, over_length hle]; exact h.1, fun j c hj => ?_⟩
  have hjl := (List.getElem?_eq_some_iff.1 hj).1
  rw [over_length hle, ← h.1] at hjl
  rw [h2 j hjl]
  rw [over_get hle] at hj
  simp only [Nat.add_zero, Array.length_toList, hv.1]
  by_cases a1 : off ≤ j ∧ j < off + cs.length
  · rw [if_pos a1] at hj ⊢
    have := hv.2 _ c hj
    simpa [List.getD_eq_getElem?_getD, Array.getD_eq_getD_getElem?] using this
  · rw [if_neg a1] at hj ⊢
    exact h.2 j c hj

theorem fill_ok (pl place : Nat → Option (Nat × Nat)) (hpl : ∀ i o z, pl i = some (o, z) → place i = some (o, z)) (F : Nat × Operand → List C) : ∀ (l : List (Nat × Operand)) (arr : Array Value) (z cs : List C),
    MCs w Mt Rd H arr z → (∀ p ∈ l, MCs w Mt Rd H (a.eval p.2).cells (F p)) → fillC pl z (l.map fun p => (p.1, F p)) = some cs →
    ∃ arr', Instr.fill place arr (l.map fun p => (p.1, a.eval p.2)) = some arr' ∧ MCs w Mt Rd H arr' cs
  | [], arr, z, cs, hz, _, hf => by
    simp only [List.map_nil, fillC, Option.some.injEq] at hf
    subst hf
    exact ⟨arr, rfl, hz⟩
  | p :: l, arr, z, cs, hz, hp, hf => by
    simp only [List.map_cons, fillC] at hf ⊢
    cases hpi : pl p.1 with
    | none => simp [hpi] at hf
    | some o =>
      obtain ⟨off, sz⟩ := o
      simp only [hpi] at hf
      split at hf
      · rename_i hc
        have hm := hp p (by simp)
        have hle : off + (F p).length ≤ z.length := by omega
        obtain ⟨arr', h1, h2⟩ := fill_ok pl place hpl F l _ _ cs (hz.over hm hle) (fun q hq => hp q (by simp [hq])) hf
        refine ⟨arr', ?_, h2⟩
        simp only [Instr.fill, hpl _ _ _ hpi]
        have e1 : (a.eval p.2).cells.size = sz := by rw [hm.1]; exact hc.1
        rw [if_neg (by simp [e1]; rw [hz.1]; omega)]
        exact h1
      · cases hf

theorem parts_mcs (h : Good X s a w β cp Rd) : ∀ (l : List (Nat × Operand)), partsOK (l.map fun p => (p.1, cellsOf (s.ev p.2))) → ∀ p ∈ l, MCs w (X.mt s β Rd) Rd (hOf s β cp) (a.eval p.2).cells (cellsOf (s.ev p.2))
  | [], _, p, hp => by simp at hp
  | q :: l, hq, p, hp => by
    obtain ⟨h1, h2, h3⟩ := hq
    rcases List.mem_cons.1 hp with rfl | hp
    · exact cells_ok' (h.ev _) h1 h2
    · exact parts_mcs h l h3 p hp

theorem parts_seal (h : Good X s a w β cp Rd) (ids : List Nat) : ∀ (l : List (Nat × Operand)), partsOK (l.map fun p => (p.1, cellsOf (s.ev p.2))) → sealPs s (l.map fun p => (p.1, cellsOf (s.ev p.2))) → (∀ b ∈ rowIdsL (l.map fun p => cellsOf (s.ev p.2)), b ∈ ids) →
    ∀ p ∈ l, MCs w (X.mt (freeze s ids) β Rd) Rd (hOf (freeze s ids) β cp) (a.eval p.2).cells ((cellsOf (s.ev p.2)).map (sealC s)) ∧ okRs ((cellsOf (s.ev p.2)).map (sealC s))
  | [], _, _, _, p, hp => by simp at hp
  | q :: l, hq, hs, hid, p, hp => by
    obtain ⟨h1, h2, h3⟩ := hq
    obtain ⟨s1, s2, s3⟩ := hs
    simp only [List.map_cons, rowIdsL, List.mem_append] at hid
    rcases List.mem_cons.1 hp with rfl | hp
    · exact ⟨(cells_seal h (h.ev _) h1 s1 s2 (fun b hb => hid b (.inl hb))).1, s2⟩
    · exact parts_seal h ids l h3 s3 (fun b hb => hid b (.inr hb)) p hp

theorem build_ok (ht : TTok P tt) (h : Good X s a w β cp Rd) {d : Option Nat} (hd : dstOK s.nt d) {t : Nat} {parts : Array (Nat × Operand)} (hp : (buildS tt t (parts.toList.map fun p => (p.1, s.ev p.2)) s d).1) :
    ∃ u, (∀ w, (Instr.build t (parts.map fun (i, x) => (i, a.eval x))).run P w = .ok u w) ∧ ∃ s', (buildS tt t (parts.toList.map fun p => (p.1, s.ev p.2)) s d).2 s' ∧ Good X s' (a.put d u) w β cp Rd := by
  unfold buildS at hp ⊢
  split at hp
  · rename_i ti hti
    have hT := ht t ti hti
    split at hp
    · rename_i fs hk
      split at hp
      · rename_i cs hcs
        simp only [Res.mk1, List.map_map] at hp hcs ⊢
        obtain ⟨fields, hu, hf1, hf2⟩ := hT.struct' hk
        obtain ⟨i, z, hi, hs, hb, hz, hzl⟩ := hT.info
        have hplaces : fields.toList.mapM (fun f => (P.info? f.type).map fun i => (f.offset, i.size)) = some (fs.map (·.2)) := by
          have : ∀ (l : List Field) (fs : List (Nat × Nat × Nat)), l.map (fun f => (f.type, f.offset)) = fs.map (fun x => (x.1, x.2.1)) → (∀ x ∈ fs, x.2.2 ≠ 0 ∧ ∃ j, P.info? x.1 = some j ∧ j.size = x.2.2) →
              l.mapM (fun f => (P.info? f.type).map fun i => (f.offset, i.size)) = some (fs.map (·.2)) := by
            intro l
            induction l with
            | nil => intro fs he _; cases fs with | nil => rfl | cons _ _ => simp at he
            | cons f l ih =>
              intro fs he hx
              cases fs with
              | nil => simp at he
              | cons x fs =>
                simp only [List.map_cons, List.cons.injEq, Prod.mk.injEq] at he
                obtain ⟨⟨e1, e2⟩, e3⟩ := he
                obtain ⟨_, j, g1, g2⟩ := hx x (by simp)
                simp [List.mapM_cons, e1, g1, ih fs e3 fun y hy => hx y (by simp [hy]), e2, g2]
          exact this _ _ hf1 hf2
        obtain ⟨arr', h1, h2⟩ := fill_ok _ (fun i => (fs.map (·.2)).toArray[i]?) (fun i o z hi => by simpa [nthL_eq] using hi) (fun p => cellsOf (s.ev p.2)) parts.toList z.cells _ cs (zv_mcs hT hzl) (parts_mcs h _ hp) hcs
        refine ⟨.agg arr', fun w => run_build w t _ arr' ?_, _, rfl, h.put hd ⟨arr', rfl, h2⟩⟩
        simp only [Program.built, hi, hu, hz, hplaces]
        have : (parts.map fun (i, x) => (i, a.eval x)).toList = parts.toList.map fun p => (p.1, a.eval p.2) := by simp
        rw [this]
        exact h1
      · exact hp.elim
    · exact hp.elim
  · exact hp.elim

theorem fillSeq {sz : Nat} : ∀ (l : List (Nat × List C)) (m : Nat) (z : List C), idsAre m l = true → lensAll sz l → (m + l.length) * sz ≤ z.length →
    ∃ z', fillC (fun i => some (i * sz, sz)) z l = some z' ∧ z'.length = z.length ∧ (∀ q, q < m * sz → z'[q]? = z[q]?) ∧ ∀ i p, l[i]? = some p → ∀ j, j < sz → z'[(m + i) * sz + j]? = p.2[j]?
  | [], m, z, _, _, _ => ⟨z, rfl, rfl, fun _ _ => rfl, fun i p h => by simp at h⟩
  | p :: l, m, z, hi, hl, hz => by
    simp only [idsAre, Bool.and_eq_true, beq_iff_eq] at hi
    obtain ⟨h1, h2⟩ := hl
    have hz' : (m + 1 + l.length) * sz ≤ z.length := by
      have : m + 1 + l.length = m + (p :: l).length := by simp; omega
      rw [this]; exact hz
    have hle : m * sz + p.2.length ≤ z.length := by
      have : (m + 1) * sz ≤ (m + 1 + l.length) * sz := Nat.mul_le_mul_right _ (by omega)
      rw [Nat.succ_mul] at this
      omega
    obtain ⟨z', e1, e2, e3, e4⟩ := fillSeq l (m + 1) (over z (m * sz) p.2) hi.2 h2 (by rw [over_length hle]; exact hz')
    refine ⟨z', ?_, by rw [e2, over_length hle], fun q hq => ?_, fun i q hq j hj => ?_⟩
    · simp only [fillC, hi.1]
      rw [if_pos ⟨h1, by omega⟩]
      exact e1
    · rw [e3 q (by rw [Nat.succ_mul]; omega), over_get hle, if_neg (by omega)]
    · cases i with
      | zero =>
        simp only [List.getElem?_cons_zero, Option.some.injEq] at hq
        subst hq
        rw [Nat.add_zero, e3 _ (by rw [Nat.succ_mul]; omega), over_get hle, if_pos (by omega)]
        congr 1; omega
      | succ i =>
        simp only [List.getElem?_cons_succ] at hq
        have := e4 i q hq j hj
        rw [show m + 1 + i = m + (i + 1) by omega] at this
        exact this

theorem lensAll_of {sz : Nat} : ∀ (l : List (Nat × List C)), lensAll sz l → ∀ p ∈ l, p.2.length = sz
  | [], _, p, hp => by simp at hp
  | q :: l, hl, p, hp => by
    rcases List.mem_cons.1 hp with rfl | hp
    · exact hl.1
    · exact lensAll_of l hl.2 p hp
theorem lensAll_map {sz : Nat} (f : C → C) : ∀ (l : List (Nat × List C)), lensAll sz l → lensAll sz (l.map fun p => (p.1, p.2.map f))
  | [], _ => trivial
  | q :: l, hl => ⟨by simpa using hl.1, lensAll_map f l hl.2⟩
theorem idsAre_map (f : C → C) : ∀ (n : Nat) (l : List (Nat × List C)), idsAre n l = true → idsAre n (l.map fun p => (p.1, p.2.map f)) = true
  | _, [], _ => rfl
  | n, q :: l, h => by
    simp only [idsAre, Bool.and_eq_true, List.map_cons] at h ⊢
    exact ⟨h.1, idsAre_map f (n + 1) l h.2⟩

theorem buildSlice_ok (ht : TTok P tt) (h : Good X s a w β cp Rd) {d : Option Nat} (hd : dstOK s.nt d) {nid : Nat} (hf : ¬ s.keyed nid) (hnx : nid < s.nx) {t len : Nat} {parts : Array (Nat × Operand)}
    (hp : (buildSliceS tt nid t len (parts.toList.map fun p => (p.1, s.ev p.2)) s d).1) :
    ∃ u w', (Instr.buildSlice t len (parts.map fun (i, x) => (i, a.eval x))).run P w = .ok u w' ∧ ∃ s', (buildSliceS tt nid t len (parts.toList.map fun p => (p.1, s.ev p.2)) s d).2 s' ∧ RelF w Rd X s' (a.put d u) w' := by
  unfold buildSliceS at hp ⊢
  split at hp
  · rename_i ti hti
    split at hp
    · rename_i e hk
      split at hp
      · rename_i te hte
        simp only [Res.mk1, List.map_map, List.length_map] at hp ⊢
        obtain ⟨hsmall, hsz, hids, hlen, hlens, hpo, hso⟩ := hp
        have hT := ht e te hte
        obtain ⟨i, z, hi, hs, hb, hz, hzl⟩ := hT.info
        have hpm := parts_seal h (rowIdsL (parts.toList.map fun p => cellsOf (s.ev p.2))) parts.toList hpo hso (fun b hb => hb)
        have hG0 := h.freeze (rowIdsL (parts.toList.map fun p => cellsOf (s.ev p.2)))
        have hids' : idsAre 0 (parts.toList.map fun p => (p.1, (cellsOf (s.ev p.2)).map (sealC s))) = true := by
          have := idsAre_map (sealC s) 0 _ hids
          rw [List.map_map] at this
          exact this
        have hlens' : lensAll te.sz (parts.toList.map fun p => (p.1, (cellsOf (s.ev p.2)).map (sealC s))) := by
          have := lensAll_map (sealC s) _ hlens
          rw [List.map_map] at this
          exact this
        obtain ⟨z', f1, f2, f3, f4⟩ := fillSeq (sz := te.sz) _ 0 (List.replicate (len * te.sz) .bot) hids' hlens' (by simp [hlen])
        generalize hs1 : freeze s (rowIdsL (parts.toList.map fun p => cellsOf (s.ev p.2))) = s1 at hpm hG0
        have e0 : ((rowIdsL (List.map ((fun p => cellsOf p.2) ∘ fun p => (p.1, s.ev p.2)) parts.toList))) = rowIdsL (parts.toList.map fun p => cellsOf (s.ev p.2)) := rfl
        rw [e0, hs1]
        have hbot : ∀ arr : Array Value, arr.size = len * te.sz → MCs w (X.mt s1 β Rd) Rd (hOf s1 β cp) arr (List.replicate (len * te.sz) .bot) := fun arr ha => ⟨by simp [ha], fun j c hj => by
          rw [List.eq_of_mem_replicate (List.mem_of_getElem? hj)]; trivial⟩
        generalize hzc : (if len * te.sz = 0 then #[] else z.cells : Array Value) = zc
        obtain ⟨arr', g1, g2⟩ := fill_ok _ (fun i => some (i * te.sz, te.sz)) (fun i o z hi => hi) (fun p => (cellsOf (s.ev p.2)).map (sealC s)) parts.toList ((Array.range (len * te.sz)).map (zc[· % zc.size]!)) _ z' (hbot _ (by simp)) (fun p hp => (hpm p hp).1) f1
        have hkey : ∀ c, s1.keyed c ↔ s.keyed c := fun c => by rw [← hs1]; exact freeze_keyed s _ c
        have henv := freeze_env s (rowIdsL (parts.toList.map fun p => cellsOf (s.ev p.2)))
        rw [hs1] at henv
        have hG := hG0.newRow (nid := nid) (fun hk => hf ((hkey nid).1 hk)) (by rw [henv.2.2.2.1]; exact hnx) (es := parts.toList.map fun p => (cellsOf (s.ev p.2)).map (sealC s)) (k := te.sz) (ty := e) (row := true) (cap := len) (cur := arr') (by rw [g2.1, f2]; simp) (by simp [hlen]) (by
            have : len * 1 ≤ len * te.sz := Nat.mul_le_mul_left _ hsz
            simp only [maxLen]; omega)
          (fun el hel => by
            simp only [List.mem_map] at hel
            obtain ⟨p, hp, rfl⟩ := hel
            exact lensAll_of _ hlens' (p.1, (cellsOf (s.ev p.2)).map (sealC s)) (by simp only [List.mem_map]; exact ⟨p, hp, rfl⟩))
          (fun _ el hel c hc => by
            simp only [List.mem_map] at hel
            obtain ⟨p, hp, rfl⟩ := hel
            obtain ⟨j, hj, rfl⟩ := List.getElem_of_mem hc
            exact okRs_get (hpm p hp).2 (List.getElem?_eq_getElem hj))
          (fun i' j el c he hc => by
            simp only [List.getElem?_map, Option.map_eq_some_iff] at he
            obtain ⟨p, hp, rfl⟩ := he
            have hjl := (List.getElem?_eq_some_iff.1 hc).1
            have hpl := lensAll_of _ hlens' (p.1, (cellsOf (s.ev p.2)).map (sealC s)) (by simp only [List.mem_map]; exact ⟨p, List.mem_of_getElem? hp, rfl⟩)
            simp only at hpl
            have h9 := f4 i' (p.1, (cellsOf (s.ev p.2)).map (sealC s)) (by simp [hp]) j (by omega)
            simp only [Nat.zero_add] at h9
            exact g2.2 _ c (h9.trans hc))
        have hl2 : (parts.toList.map fun p => (cellsOf (s.ev p.2)).map (sealC s)).length = len := by simp [hlen]
        refine ⟨.slice (some ⟨w.heap.size, 0, none⟩) len len, w.alloc (.cells arr' e), ?_, _, rfl, _, _, _, hG.put (by simpa [St.setBox, henv.2.1] using hd) ⟨rfl, hOf.mk rfl (St.box_set_same _ _ _) (by simp [hlen]) fun _ => .inr ⟨_, len, upd_same _ _ _, rfl, Nat.le_refl _, by rw [upd_same]; exact Nat.le_refl _, fun _ => rfl⟩⟩, Fr.alloc _ _ _⟩
        have hsm : ¬ (len * te.sz > 2 ^ 24) := by omega
        have hmap : (parts.map fun (i, x) => (i, a.eval x)).toList = parts.toList.map fun p => (p.1, a.eval p.2) := by simp
        unfold Instr.buildSlice
        rw [Sem.run_bind, run_underlying ((ht t ti hti).slice hk) w]
        simp only [Result.andThen_ok, Sem.run_bind, hT.run_sizeOf]
        rw [if_neg hsm]
        have hzv : (zeroValue e).run P w = .ok z w := by simp [zeroValue, typeInfo, hi, hz]
        by_cases h0 : len * te.sz = 0
        · rw [if_pos h0] at hzc ⊢
          subst hzc
          simp only [Sem.run_bind, Sem.run_pure, Result.andThen_ok, hmap]
          rw [g1]
          simp [newRow]
        · rw [if_neg h0] at hzc ⊢
          subst hzc
          simp only [Sem.run_bind, Sem.run_pure, Result.andThen_ok, hmap, hzv]
          rw [g1]
          simp [newRow]
      · exact hp.elim
    · exact hp.elim
  · exact hp.elim

theorem makeFunc_ok (h : Good X s a w β cp Rd) {d : Option Nat} (hd : dstOK s.nt d) {f : Nat} {captured : Array Operand} (hp : (makeFuncS f (captured.toList.map s.ev) s d).1) :
    ∃ u, (∀ w, (Instr.makeFunc (.func f) #[] (captured.map a.eval)).run P w = .ok u w) ∧ ∃ s', (makeFuncS f (captured.toList.map s.ev) s d).2 s' ∧ Good X s' (a.put d u) w β cp Rd := by
  unfold makeFuncS at hp ⊢
  simp only [Res.mk1] at hp ⊢
  obtain ⟨h1, h2, h3, h4⟩ := hp
  refine ⟨_, fun w => rfl, _, rfl, h.put hd ⟨_, rfl, by rw [h2]; simp, fun j c hj => ?_⟩⟩
  have key : ∀ (l : List Operand), (∀ x ∈ l.map s.ev, ∃ c, x = .c c) → ∀ (j : Nat) c, ((l.map s.ev).flatMap cellsOf)[j]? = some c → ∃ o, l[j]? = some o ∧ s.ev o = .c c := by
    intro l
    induction l with
    | nil => intro _ j c hj; simp at hj
    | cons o r ih =>
      intro hl j c hj
      obtain ⟨c0, hc0⟩ := hl (s.ev o) (by simp)
      simp only [List.map_cons, List.flatMap_cons, hc0, cellsOf] at hj
      cases j with
      | zero => simp at hj; subst hj; exact ⟨o, rfl, hc0⟩
      | succ j =>
        obtain ⟨o', q1, q2⟩ := ih (fun x hx => hl x (List.mem_cons_of_mem _ hx)) j c (by simpa using hj)
        exact ⟨o', by simpa using q1, q2⟩
  obtain ⟨o, q1, q2⟩ := key captured.toList h4 j c hj
  have hv := h.ev o
  rw [q2] at hv
  have e : (captured.map a.eval).getD j undef = a.eval o := by
    rw [Array.getElem?_toList] at q1
    simp [Array.getD_eq_getD_getElem?, q1]
  rw [e]
  have hnf := h3 c (List.mem_of_getElem? hj)
  cases c with
  | fn f l => exact absurd rfl (hnf f l)
  | _ => exact hv
end
end Go.VE
