/- A part of the engine: what operations do to described states, proved sound against the model. No conditions. -/
import Derived.Test.YtofelomoieamoaaW9b
import Derived.MapKept
set_option linter.unusedSimpArgs false
set_option linter.unusedVariables false
namespace Go.VE
open Go

section
variable {P : Program} {tt : Nat → Option TI} {X : Cx} {s : St} {a : Act} {w : World} {β : Nat → Option Nat} {cp : Nat → Nat} {Rd : Nat → Prop}

theorem makeMap_ok (h : Good X s a w β cp Rd) {d : Option Nat} (hd : dstOK s.nt d) {nid : Nat} (hf : ¬ s.keyed nid) (hnx : nid < s.nx) {t : Nat} (hp : (makeMapS nid t s d).1) :
    ∃ u w', (Instr.makeMap t none).run P w = .ok u w' ∧ ∃ s', (makeMapS nid t s d).2 s' ∧ RelF w Rd X s' (a.put d u) w' := by
  cases d with
  | none => exact hp.elim
  | some d =>
    have hG := h.updM (w' := w.alloc (.map #[] 0)) nid ⟨[], 0, t, false, true⟩ (some w.heap.size) 0 hnx (.inl hf) (Keeps.alloc _ w _) (fun g hg => .inl (by cases hg; exact Nat.le_refl _))
      (.inr ⟨rfl, rfl, rfl, w.heap.size, #[], 0, rfl, heap_alloc_new w _⟩)
    have hmt : ¬ X.mt (s.setBox nid (some ⟨[], 0, t, false, true⟩)) (VE.upd β nid (some w.heap.size)) Rd w.heap.size := by
      rintro (h1 | ⟨b, bx, h1, h2, h3⟩ | h1)
      · have := h.avlt _ h1
        have := h.keeps.size
        omega
      · by_cases e : b = nid
        · subst e
          rw [St.box_set_same] at h1
          cases h1
          cases h2
        · rw [St.box_set_ne _ _ e] at h1
          rw [upd_ne _ _ e] at h3
          exact Nat.lt_irrefl _ ((h.boxes b bx h1).lt h3)
      · exact Nat.lt_irrefl _ (h.rdok _ h1).1
    refine ⟨.map (some w.heap.size), w.alloc (.map #[] 0), rfl, _, rfl, _, _, Rd, hG.put (x := .mp nid []) (by simpa [St.setBox] using hd) ⟨w.heap.size, #[], 0, rfl, hOf.mk rfl (St.box_set_same _ _ _) (Nat.zero_le _) (fun _ => ⟨w.heap.size, by rw [upd_same], by simp⟩), hmt, by simp, heap_alloc_new w _, rfl⟩, Fr.alloc w Rd _⟩

theorem cell_of_map {g o : Nat} {es : Array MapEntry} {clk : Nat} (hb : w.heap[g]? = some (.map es clk)) : w.cell? ⟨g, o, none⟩ = none := by
  simp [World.cell?, hb]

theorem RC.setMap {w' : World} {Mt : Nat → Prop} {g : Nat} {es : Array MapEntry} {clk : Nat} (hb : w.heap[g]? = some (.map es clk)) (hk : ∀ q, q ≠ g → w'.heap[q]? = w.heap[q]?) (hsz : w'.heap.size = w.heap.size) {v : Value} {c : C} (h : RC w Mt v c) : RC w' Mt v c := by
  have cell : ∀ q o u, w.cell? ⟨q, o, none⟩ = some u → w'.cell? ⟨q, o, none⟩ = some u := by
    intro q o u hc
    have hq : q ≠ g := by
      rintro rfl
      rw [cell_of_map hb] at hc
      cases hc
    exact (World.cell?_of_block (w := w) (w' := w') (a := ⟨q, o, none⟩) (hk q hq)).trans hc
  induction h with
  | v x hx => exact .v x hx
  | sl t es k a p n cap hn ht hle hmax hk' ha u hc _ ih =>
    exact .sl t es k a p n cap hn ht hle hmax hk' (fun hne => by rw [hsz]; exact ha hne) u (fun i j e c h1 h2 => cell _ _ _ (hc i j e c h1 h2)) ih
  | rp cs p hs hm hlt u hc _ ih => exact .rp cs p hs hm (by rw [hsz]; exact hlt) u (fun j c h1 => cell _ _ _ (hc j c h1)) ih

theorem MC.setMap {w' : World} {Mt Rd : Nat → Prop} {H : C → Value → Prop} {g : Nat} {es : Array MapEntry} {clk : Nat} (hb : w.heap[g]? = some (.map es clk)) (hk : ∀ q, q ≠ g → w'.heap[q]? = w.heap[q]?) (hsz : w'.heap.size = w.heap.size) {v : Value} {c : C} (h : MC w Mt Rd H v c) : MC w' Mt Rd H v c := by
  have h0 : ∀ v c, MC0 w Mt Rd H v c → MC0 w' Mt Rd H v c := by
    intro v c h
    cases c <;> simp only [MC0] at h ⊢ <;> first | exact h | exact RC.setMap hb hk hsz h | exact ⟨h.1, RC.setMap hb hk hsz h.2⟩
  cases c
  case fn f caps =>
    obtain ⟨arr, e, hs, hr⟩ := h
    exact ⟨arr, e, hs, fun j c hj => h0 _ _ (hr j c hj)⟩
  all_goals (simp only [MC] at h ⊢; exact h0 _ _ h)

theorem sameBits_ints (as : List Int) : Instr.sameBits 10000 (.agg (as.map (Value.int .i64)).toArray) (.agg (as.map (Value.int .i64)).toArray) = true := by
  show Instr.sameBits (9999 + 1) _ _ = true
  simp only [Instr.sameBits, beq_self_eq_true, Bool.true_and, List.all_eq_true]
  intro p hp
  obtain ⟨i, hi, e⟩ := List.getElem_of_mem hp
  rw [List.getElem_zip] at e
  rw [← e]
  simp [Instr.sameBits]

theorem asking_ok {kt : Nat} (as : List Int) (w : World) (heq : ∀ bs : List Int, bs.length = as.length → (Op.equalIn 10000 kt (.agg (as.map (Value.int .i64)).toArray) (.agg (bs.map (Value.int .i64)).toArray)).run P w = .ok (decide (as = bs)) w) :
    ∀ (es : List MapEntry) (ks : List (List Int)) (i : Nat), es.map (·.key) = ks.map (fun k => .agg (k.map fun n => Value.int .i64 n).toArray) → (∀ k ∈ ks, k.length = as.length) →
      ((Instr.findAsking kt (.agg (as.map (Value.int .i64)).toArray) es i).run P w = .ok none w ∧ insK as ks = ks ++ [as]) ∨
      ∃ j e, (Instr.findAsking kt (.agg (as.map (Value.int .i64)).toArray) es i).run P w = .ok (some (i + j, e.val)) w ∧ es[j]? = some e ∧ e.key = .agg (as.map (Value.int .i64)).toArray ∧ insK as ks = ks
  | [], [], i, _, _ => .inl ⟨by simp [Instr.findAsking], rfl⟩
  | [], _ :: _, _, h, _ => by cases h
  | _ :: _, [], _, h, _ => by cases h
  | e :: es, k :: ks, i, h, hl => by
    simp only [List.map_cons, List.cons.injEq] at h
    have hr := heq k (hl k (by simp))
    have hr' : (Op.equal kt (.agg (as.map (Value.int .i64)).toArray) e.key).run P w = .ok (decide (as = k)) w := by
      rw [h.1]; exact hr
    by_cases e0 : as = k
    · subst e0
      refine .inr ⟨0, e, ?_, rfl, h.1, by simp [insK]⟩
      simp [Instr.findAsking, hr']
    · rcases asking_ok as w heq es ks (i + 1) h.2 (fun k hk => hl k (by simp [hk])) with ⟨h1, h2⟩ | ⟨j, e', h1, h2, h3, h4⟩
      · exact .inl ⟨by simp [Instr.findAsking, hr', e0, h1], by simp [insK, e0, h2]⟩
      · exact .inr ⟨j + 1, e', by simp [Instr.findAsking, hr', e0, h1, Nat.add_assoc, Nat.add_comm 1 j], by simpa using h2, h3, by simp [insK, e0, h4]⟩

theorem findKey_ok {kt : Nat} {kd : TypeDesc} (hu : P.underlying kt = some kd) (as : List Int) (w : World) (es : List MapEntry) (ks : List (List Int)) (hk : es.map (·.key) = ks.map (fun k => .agg (k.map fun n => Value.int .i64 n).toArray)) :
    (Instr.findKey kt (.agg (as.map (Value.int .i64)).toArray) es).run P w = (Instr.findAsking kt (.agg (as.map (Value.int .i64)).toArray) es 0).run P w := by
  unfold Instr.findKey
  rw [Sem.run_bind, run_underlying hu w, Result.andThen_ok]
  cases es with
  | nil => simp [Instr.findNow, Instr.findAsking]
  | cons e es =>
    have : Instr.findNow kd (.agg (as.map (Value.int .i64)).toArray) (e :: es) 0 = none := by
      cases kd <;> simp [Instr.findNow, Instr.sameNow]
    rw [this]

theorem lkE_map (f : AV → AV) (hf : f (.c .bot) = .c .bot) : ∀ (env : List (Nat × AV)) (t : Nat), lkE (env.map fun p => (p.1, f p.2)) t = f (lkE env t)
  | [], t => hf.symm
  | (k, x) :: r, t => by
    simp only [List.map_cons, lkE]
    cases k == t with
    | true => rfl
    | false => exact lkE_map f hf r t

theorem mapUpd_ok (htt : TTok P tt) (h : Good X s a w β cp Rd) {t : Nat} {vm vk vx : Value} {m k x : AV} (hm : MA w (X.mt s β Rd) Rd (hOf s β cp) vm m) (hk : MA w (X.mt s β Rd) Rd (hOf s β cp) vk k) (hx : MA w (X.mt s β Rd) Rd (hOf s β cp) vx x) (hp : (mapUpdS tt t m k x s).1) :
    ∃ w', (Instr.mapUpdate t vm vk vx).run P w = .ok () w' ∧ ∃ s', (mapUpdS tt t m k x s).2 s' ∧ Rel X s' a w' := by
  unfold mapUpdS at hp ⊢
  split at hp
  · rename_i kt b ks cs hti
    split at hp
    · rename_i te hte
      simp only [Res.mk1] at hp ⊢
      obtain ⟨he, hsz, hint, hnp, hbox, hks⟩ := hp
      simp only [Option.map_eq_some_iff] at hti
      obtain ⟨ti, h1, h2⟩ := hti
      obtain ⟨dd, hu, hdk⟩ := (htt t ti h1).und
      rw [h2] at hdk
      obtain ⟨ke, hu'⟩ : ∃ ke, P.underlying t = some (.map kt ke) := by cases dd <;> first | exact hdk.elim | (simp only [descOK] at hdk; subst hdk; exact ⟨_, hu⟩)
      obtain ⟨g, es, clk, rfl, q1, q2, q3, q4, q5⟩ := hm
      obtain ⟨as, rfl⟩ := ints_map cs hint
      obtain ⟨arr, rfl, harr⟩ := hk
      have ha : arr = (as.map (Value.int .i64)).toArray := harr.ints
      subst ha
      have hvx : vx = .bool true := by cases hx; rfl
      subst hvx
      have hio : intsOf (as.map fun a => C.v (.int .i64 a)) = as := by
        clear hsz hint harr hks
        induction as with
        | nil => rfl
        | cons a r ih => simp [intsOf, ih]
      simp only [List.length_map] at hsz hks
      obtain ⟨g1, g2⟩ := (htt kt te hte).eqv he
      obtain ⟨kd, hku, _⟩ := (htt kt te hte).und
      have hβ : β b = some g := by
        obtain ⟨g', e1, e2⟩ := q1.at rfl hbox rfl
        cases e2; exact e1
      have hg0 : X.w0.heap.size ≤ g := by
        rcases h.org b _ g hbox hβ with h3 | ⟨q, h3, _⟩
        · exact h3
        · have := (List.getElem?_eq_some_iff.1 h3).1
          rw [h.npin] at this
          omega
      have hck := (g2 w as as hsz.symm hsz.symm).2
      have hask := asking_ok as w (fun bs hb => (g2 w as bs hsz.symm (hb.trans hsz.symm)).1) es.toList ks 0 q5 hks
      rw [← findKey_ok hku as w es.toList ks q5] at hask
      -- the new world
      have done : ∀ es' clk', KeysAre es' (insK as ks) → (Instr.mapUpdate t (.map (some g)) (.agg (as.map (Value.int .i64)).toArray) (.bool true)).run P w = .ok () { w with heap := w.heap.setIfInBounds g (.map es' clk') } →
          ∃ w', (Instr.mapUpdate t (.map (some g)) (.agg (as.map (Value.int .i64)).toArray) (.bool true)).run P w = .ok () w' ∧ ∃ s', s' = { s with env := s.env.map fun p => (p.1, updM b (intsOf (as.map fun a => C.v (.int .i64 a))) p.2) } ∧ Rel X s' a w' := by
        intro es' clk' hkeys hrun
        rw [hio]
        refine ⟨_, hrun, _, rfl, β, cp, Rd, ?_⟩
        generalize hw' : ({ w with heap := w.heap.setIfInBounds g (.map es' clk') } : World) = w'
        have hsz' : w'.heap.size = w.heap.size := by rw [← hw']; simp
        have hoth : ∀ q, q ≠ g → w'.heap[q]? = w.heap[q]? := fun q hq => by
          rw [← hw']
          exact Array.getElem?_setIfInBounds_ne (fun e => hq e.symm)
        have hself : w'.heap[g]? = some (.map es' clk') := by
          rw [← hw']
          show (w.heap.setIfInBounds g _)[g]? = _
          rw [Array.getElem?_setIfInBounds_self_of_lt q3]
        have hne : ∀ q bv p, RdB X.rt w q bv p → q ≠ g := by
          rintro q bv p ⟨arr, c, e1, _⟩ rfl
          rw [q4] at e1
          cases e1
        have hrd : ∀ q, Rd q → w'.heap[q]? = w.heap[q]? := fun q hq => by
          obtain ⟨_, bv, p, bs, e1, _⟩ := h.rdok q hq
          exact hoth q (hne q _ _ e1)
        have hMC : ∀ v c, MC w (X.mt s β Rd) Rd (hOf s β cp) v c → MC w' (X.mt s β Rd) Rd (hOf s β cp) v c := fun v c hc => hc.setMap q4 hoth hsz'
        have hA1 : ∀ v x, MA1 w (X.mt s β Rd) Rd (hOf s β cp) v x → MA1 w' (X.mt s β Rd) Rd (hOf s β cp) v x := by
          intro v x hv
          cases x with
          | c c => exact hMC _ _ hv
          | agg cs => obtain ⟨arr, e, e1, e2⟩ := hv; exact ⟨arr, e, e1, fun j c hj => hMC _ _ (e2 j c hj)⟩
          | tup _ => exact hv.elim
          | mp _ _ => exact hv.elim
        have hk0 : w'.os = w.os ∧ w'.tape = w.tape ∧ w'.output = w.output := by rw [← hw']; exact ⟨rfl, rfl, rfl⟩
        exact {
          defers := h.defers
          size := h.size
          keeps := ⟨hk0.1.trans h.keeps.os, hk0.2.1.trans h.keeps.tape, hk0.2.2.trans h.keeps.output, by rw [hsz']; exact h.keeps.size, fun q hq hmq => (hoth q (by omega)).trans (h.keeps.block q hq hmq)⟩
          fresh := h.fresh
          org := h.org
          own_rd := h.own_rd
          own_av := h.own_av
          rdsame := fun q hq => by
            obtain ⟨bv, p, p', e1, e2⟩ := h.rdsame q hq
            exact ⟨bv, p, p', e1, e2.congr (hrd q (h.rd0 q hq))⟩
          inj := h.inj
          rd0 := h.rd0
          rdge := h.rdge
          avlt := h.avlt
          npin := h.npin
          pin := h.pin
          rdok := fun q hq => by
            obtain ⟨e0, bv, p, bs, e1, e2, e3, e4⟩ := h.rdok q hq
            exact ⟨by rw [hsz']; exact e0, bv, p, bs, e1.congr (hrd q hq), e2, e3, e4.setMap q4 hoth hsz'⟩
          env := fun t => by
            have e1 : ({ s with env := s.env.map fun p => (p.1, updM b as p.2) } : St).get t = updM b as (s.get t) := lkE_map (updM b as) rfl s.env t
            rw [e1]
            have e2 := h.env t
            show MA w' (X.mt s β Rd) Rd (hOf s β cp) (a.tmps.getD t undef) (updM b as (s.get t))
            generalize s.get t = x at e2 ⊢
            cases x with
            | c c => exact hMC _ _ e2
            | agg cs => exact hA1 _ (.agg cs) e2
            | tup vs => trivial
            | mp b' ks' =>
              simp only [updM]
              cases hbb : b' == b with
              | false => trivial
              | true =>
                have := eq_of_beq hbb
                subst this
                obtain ⟨g', es2, clk2, r1, r2, r3, r4, r5, r6⟩ := e2
                obtain ⟨g3, r7, r8⟩ := r2.at rfl hbox rfl
                rw [hβ] at r7
                cases r7
                cases r8
                rw [q4] at r5
                cases r5
                have hks' : ks' = ks := by
                  unfold KeysAre at q5 r6
                  rw [q5] at r6
                  have hinj : ∀ (l l' : List (List Int)), l.map (fun k => Value.agg (k.map fun n => Value.int .i64 n).toArray) = l'.map (fun k => Value.agg (k.map fun n => Value.int .i64 n).toArray) → l = l' := by
                    intro l l' hll
                    refine (List.map_inj_right ?_).1 hll
                    intro x y hxy
                    simp only [Value.agg.injEq] at hxy
                    have := congrArg Array.toList hxy
                    simp only at this
                    exact (List.map_inj_right (fun p q hpq => by cases hpq; rfl)).1 this
                  exact (hinj _ _ r6).symm
                subst hks'
                exact ⟨g, es', clk', r1, r2, r3, by rw [hsz']; exact r4, hself, hkeys⟩
          boxes := fun b2 bx2 hb2 => by
            have old := h.boxes b2 bx2 hb2
            by_cases e : β b2 = some g
            · rcases old with (⟨e1, _⟩ | ⟨g', cur, e1, e2, _⟩) | ⟨e1, e2, e3, g', es3, clk3, e4, e5⟩
              · rw [e1] at e; cases e
              · rw [e1] at e; cases e
                rw [q4] at e2; cases e2
              · rw [e4] at e; cases e
                exact .inr ⟨e1, e2, e3, g, es', clk', e4, hself⟩
            · exact (old.heap (w' := w') fun q hq => hoth q (by rintro rfl; exact e hq)).mono hMC }
      rcases hask with ⟨r1, r2⟩ | ⟨j, e, r1, r2, r3, r4⟩
      · refine done (es.push ⟨.agg (as.map (Value.int .i64)).toArray, .bool true, clk⟩) (clk + 1) ?_ ?_
        · unfold KeysAre at q5 ⊢
          rw [r2]
          simp [q5]
        · simp [Instr.mapUpdate, run_underlying hu', MapKept.run_getObj_map q4, hck, r1, MapKept.run_setObj_map _ q4, Result.andThen]
      · refine done (es.modify j fun e => { e with key := .agg (as.map (Value.int .i64)).toArray, val := .bool true }) clk ?_ ?_
        · unfold KeysAre at q5 ⊢
          rw [r4, ← q5, Array.toList_modify]
          apply List.ext_getElem?
          intro i
          rw [List.getElem?_map, List.getElem?_map, List.getElem?_modify]
          by_cases hij : j = i
          · subst hij
            rw [r2]
            simp [r3]
          · simp [hij]
        · have r2' : es[j]? = some e := by rw [← Array.getElem?_toList]; exact r2
          rw [Nat.zero_add] at r1
          simp [Instr.mapUpdate, run_underlying hu', MapKept.run_getObj_map q4, hck, r1, r2', r3, Instr.keyThatStays, sameBits_ints, MapKept.run_setObj_map _ q4, Result.andThen]
    · exact hp.elim
  · exact hp.elim
end
end Go.VE
