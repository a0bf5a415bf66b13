/- A part of the engine: what operations do to described states, proved sound against the model. No conditions. -/
import Derived.Test.YtofelomoieamoaaW16
set_option linter.unusedSimpArgs false
set_option linter.unusedVariables false
namespace Go.VE
open Go

def resVal : List Value → Value
  | [v] => v
  | vs => .tuple vs.toArray

theorem load_val {P : Program} {tt : Nat → Option TI} {X : Cx} {s : St} {a : Act} {w : World} {β : Nat → Option Nat} {cp : Nat → Nat} {Rd : Nat → Prop} (ht : TTok P tt) (h : Good X s a w β cp Rd) {r : RV} (hr : (rvS tt s r).1) :
    ∃ v, (match r.var with | .tmp t => pure (a.tmps.getD t undef) | .cell c t => do loadVar t (← asAddr (a.tmps.getD c undef)) : Sem Value).run P w = .ok v w ∧ MA w (X.mt s β Rd) Rd (hOf s β cp) v (rvS tt s r).2 := by
  cases r with
  | tmp t => exact ⟨_, rfl, h.env t⟩
  | cell c t =>
    simp only [rvS] at hr ⊢
    have hc := h.env c
    split at hr
    · rename_i ti b n i off hti hg
      rw [hg] at hc
      split at hr
      · rename_i bx hbx
        split at hr
        · rename_i e he
          have hlt : c < s.nt := by
            rw [← h.size]
            rcases Nat.lt_or_ge c a.tmps.size with h' | h'
            · exact h'
            · obtain ⟨g, _, hv⟩ := hc.2.at rfl hbx hr.1
              rw [Array.getD_eq_getD_getElem?, Array.getElem?_eq_none h'] at hv
              simp [undef] at hv
          have hp : (loadS tt t (.c (.ptr b n i off)) s (some c)).1 := by
            unfold loadS
            simp only [hti, hbx]
            exact hr
          obtain ⟨u, h1, s', h2, h3⟩ := load_ok ht h (d := some c) hlt (x := .c (.ptr b n i off)) hc hp
          refine ⟨u, ?_, ?_⟩
          · have := h1 w Rd (Fr.refl w Rd)
            obtain ⟨g, _, hv⟩ := hc.2.at rfl hbx hr.1
            simp only [RV.var]
            rw [hv] at this ⊢
            simpa [Instr.loadAt, Instr.sureAddr, asAddr] using this
          · unfold loadS at h2
            simp only [hti, hbx, Res.mkE] at h2
            obtain ⟨e', he', rfl⟩ := h2
            rw [nthL_eq] at he
            rw [he] at he'
            cases he'
            have h4 := h3.env c
            have e1 : (a.put (some c) u).tmps.getD c undef = u := by
              have : c < a.tmps.size := by rw [h.size]; exact hlt
              simp [Act.put, this]
            rw [e1] at h4
            have e2 : (s.put (some c) (mkAV ti.kind.agg (loaded bx.row (List.take ti.sz (List.drop off e))))).get c = mkAV ti.kind.agg (loaded bx.row (List.take ti.sz (List.drop off e))) := by simp [St.put, St.get, lkE]
            rw [e2] at h4
            exact h4
        · exact hr.elim
      · exact hr.elim
    · exact hr.elim

theorem results_ok {P : Program} {tt : Nat → Option TI} {X : Cx} {s : St} {a : Act} {w : World} {β : Nat → Option Nat} {cp : Nat → Nat} {Rd : Nat → Prop} (ht : TTok P tt) (h : Good X s a w β cp Rd) {fn : Func} {ts : List RV} (hres : fn.results = (ts.map RV.var).toArray) (hr : rvOk tt s ts) :
    ∃ vs : List Value, vs.length = ts.length ∧ (results fn a.tmps).run P w = .ok (resVal vs) w ∧ ∀ j r, ts[j]? = some r → MA w (X.mt s β Rd) Rd (hOf s β cp) (vs.getD j undef) (rvS tt s r).2 := by
  have key : ∀ (F : ResultVar → Sem Value) (_ : ∀ t, F (.tmp t) = pure (a.tmps.getD t undef)) (_ : ∀ c t, F (.cell c t) = do loadVar t (← asAddr (a.tmps.getD c undef))) (l : List RV), rvOk tt s l →
      ∃ vs : List Value, vs.length = l.length ∧ ((l.map RV.var).mapM F).run P w = .ok vs w ∧ ∀ j r, l[j]? = some r → MA w (X.mt s β Rd) Rd (hOf s β cp) (vs.getD j undef) (rvS tt s r).2 := by
    intro F hF1 hF2 l
    induction l with
    | nil => intro _; exact ⟨[], rfl, rfl, by simp⟩
    | cons r l ih =>
      rintro ⟨h1, h2⟩
      obtain ⟨vs, q1, q2, q3⟩ := ih h2
      obtain ⟨v, q4, q5⟩ := load_val ht h h1
      refine ⟨v :: vs, by simp [q1], ?_, fun j r' hj => ?_⟩
      · have : (F r.var).run P w = .ok v w := by
          cases r with
          | tmp t => rw [← q4]; simp only [RV.var, hF1]
          | cell c t => rw [← q4]; simp only [RV.var, hF2]
        simp only [List.map_cons, List.mapM_cons, Sem.run_bind, this, Result.andThen_ok, q2, Sem.run_pure]
      · cases j with
        | zero => simp only [List.getElem?_cons_zero, Option.some.injEq] at hj; subst hj; simpa using q5
        | succ j => simpa using q3 j r' (by simpa using hj)
  obtain ⟨vs, q1, q2, q3⟩ := key (fun x => match x with | .tmp t => pure (a.tmps.getD t undef) | .cell c t => do loadVar t (← asAddr (a.tmps.getD c undef))) (fun _ => rfl) (fun _ _ => rfl) ts hr
  refine ⟨vs, q1, ?_, q3⟩
  unfold results
  rw [hres]
  simp only [List.mapM_toArray]
  have hm : (List.mapM (m := Sem) (fun x => match x with | .tmp t => pure (a.tmps.getD t undef) | .cell c t => do loadVar t (← asAddr (a.tmps.getD c undef))) (ts.map RV.var)).run P w = .ok vs w := q2
  have hfin : ∀ (M : Sem (List Value)), M.run P w = .ok vs w → (do
      let vs ← List.toArray <$> M
      pure (if h : vs.size = 1 then vs[0] else Value.tuple vs) : Sem Value).run P w = .ok (resVal vs) w := by
    intro M hM
    simp only [map_eq_pure_bind, Sem.run_bind, hM, Result.andThen_ok, Sem.run_pure]
    congr 1
    match vs with
    | [] => simp [resVal]
    | [v] => simp [resVal]
    | _ :: _ :: _ => simp [resVal]
  exact hfin _ hm

theorem numsOf_get : ∀ (ins : List Box) (k i : Nat), i < ins.length → (numsOf k ins)[i]? = some (k + i)
  | [], _, _, h => by simp at h
  | _ :: r, k, 0, _ => rfl
  | _ :: r, k, i + 1, h => by
    simp only [numsOf, List.getElem?_cons_succ]
    rw [numsOf_get r (k + 1) i (by simpa using h)]
    congr 1; omega
theorem numsOf_len : ∀ (ins : List Box) (k : Nat), (numsOf k ins).length = ins.length
  | [], _ => rfl
  | _ :: r, k => by simp [numsOf, numsOf_len r (k + 1)]
theorem xids_pre (s : St) (ins : List Box) (shut : Bool) (cs : List C) : ∀ i, i < ins.length → (xids s ins shut cs)[i]? = some i := by
  intro i hi
  have h1 := numsOf_get ins 0 i hi
  rw [Nat.zero_add] at h1
  unfold xids
  split
  · exact h1
  · rw [List.getElem?_append_left (by rw [numsOf_len]; exact hi)]; exact h1

section
variable {P : Program} {tt : Nat → Option TI} {tab : Nat → Option Spec} {rt : Nat}

theorem ret_gives (htt : TTok P tt) {sp : Spec} {args : List AV} {ins : List Box} {ts : List RV} {fn : Func} (hres : fn.results = (ts.map RV.var).toArray) {w0 w : World} {Av Rd0 : Nat → Prop} {pk : Nat} {β0 : Nat → Option Nat} {cp0 : Nat → Nat} {s : St} {a : Act}
    (h : Rel ⟨rt, w0, Av, Rd0, entPins ins β0 cp0⟩ s a w) (hret : retW tt sp args ins ts pk s) :
    a.defers = [] ∧ ∃ v, (results fn a.tmps).run P w = .ok v w ∧ ∃ v' r bs β cp Rd', Ending.returned v = .returned v' ∧ sp.post args ins r bs ∧ Gives rt sp w0 w Av Rd0 pk ins β0 cp0 v' r bs β cp Rd' := by
  obtain ⟨β, cp, Rd, G⟩ := h
  obtain ⟨hrv, hret⟩ := hret
  obtain ⟨vals, hvl, hrun, hvm⟩ := results_ok htt G hres hrv
  refine ⟨G.defers, _, hrun, ?_⟩
  have hpre := xids_pre s ins sp.shut (allCells (resAV tt s ts))
  generalize xids s ins sp.shut (allCells (resAV tt s ts)) = ids at hret hpre
  obtain ⟨h1, h5, hbs, h2, h3, h4, h6⟩ := hret
  have hnp : s.np = ins.length := by have := G.npin; simpa [entPins] using this.symm
  have hE : ExpOK ⟨rt, w0, Av, Rd0, entPins ins β0 cp0⟩ s ids := ⟨⟨fun b hb => let ⟨bx, q1, q2, _⟩ := expBs_box hbs b hb; ⟨bx, q1, q2⟩, distN_inj _ h2⟩, fun b hb => List.mem_of_getElem? (hpre b (by omega))⟩
  have hv : MA w (Cx.mt ⟨rt, w0, Av, Rd0, entPins ins β0 cp0⟩ s β Rd) Rd (hOf s β cp) (resVal vals) (resAV tt s ts) ∨ (∃ l, resAV tt s ts = .tup l ∧ ts.length ≠ 1 ∧ ∃ x ∈ l, ((∃ l', x = .tup l') ∨ ∃ b ks, x = .mp b ks)) := by
    match ts, vals, hvl, hvm with
    | [], [], _, _ => exact .inl ⟨_, rfl, rfl, by simp⟩
    | [t], [v], _, hvm => exact .inl (hvm 0 t rfl)
    | t :: t' :: r', v :: v' :: vr, hvl, hvm =>
      by_cases htup : ∃ x ∈ (t :: t' :: r').map fun r => (rvS tt s r).2, ((∃ l', x = .tup l') ∨ ∃ b ks, x = .mp b ks)
      · exact .inr ⟨_, rfl, by simp, htup⟩
      refine .inl ⟨_, rfl, by simpa using hvl, fun j x hj => ?_⟩
      simp only [List.getElem?_map, Option.map_eq_some_iff] at hj
      obtain ⟨t2, ht2, rfl⟩ := hj
      have := hvm j t2 ht2
      have e : (v :: v' :: vr).toArray.getD j undef = (v :: v' :: vr).getD j undef := by
        rw [Array.getD_eq_getD_getElem?, List.getElem?_toArray, List.getD_eq_getElem?_getD]
      rw [e]
      cases hg : (rvS tt s t2).2 with
      | tup vs => exact absurd ⟨_, List.mem_map.2 ⟨t2, List.mem_of_getElem? ht2, rfl⟩, .inl ⟨vs, hg⟩⟩ htup
      | mp b ks => exact absurd ⟨_, List.mem_map.2 ⟨t2, List.mem_of_getElem? ht2, rfl⟩, .inr ⟨b, ks, hg⟩⟩ htup
      | c x => rw [hg] at this; exact this
      | agg cs => rw [hg] at this; exact this
  have hval : MA w (eAv ⟨rt, w0, Av, Rd0, entPins ins β0 cp0⟩ s β ids sp.flat) Rd0 (hOf (expSt (renIns s (expB s ids) ids)) (renβ β ids) (rencp cp ids)) (resVal vals) (expA s ids (resAV tt s ts)) := by
    match ts, vals, hvl, hvm, hv with
    | [], [], _, _, _ => exact ⟨_, rfl, rfl, by simp⟩
    | [t], [v], _, hvm, hv =>
      rcases hv with hv | ⟨l, _, hl, _⟩
      · exact expA_ok (flat := sp.flat) G hE hv h1 h5
      · simp at hl
    | t :: t' :: r', v :: v' :: vr, hvl, hvm, _ =>
      refine ⟨_, rfl, by simpa using hvl, fun j x hj => ?_⟩
      simp only [List.getElem?_map, Option.map_eq_some_iff] at hj
      obtain ⟨x0, ⟨t2, ht2, rfl⟩, rfl⟩ := hj
      have hm := hvm j t2 ht2
      have e : (v :: v' :: vr).toArray.getD j undef = (v :: v' :: vr).getD j undef := by
        rw [Array.getD_eq_getD_getElem?, List.getElem?_toArray, List.getD_eq_getElem?_getD]
      rw [e]
      have hj2 : ((t :: t' :: r').map fun r => (rvS tt s r).2)[j]? = some (rvS tt s t2).2 := by simp only [List.getElem?_map, ht2, Option.map_some]
      cases hg : (rvS tt s t2).2 with
      | tup vs => trivial
      | mp _ _ => trivial
      | c x =>
        rw [hg] at hm hj2
        exact expA1_ok (x := .c x) G hE hm (catCells_get h1 hj2) fun hfl => catCells_flat (h5 hfl) hj2
      | agg cs =>
        rw [hg] at hm hj2
        exact expA1_ok (x := .agg cs) G hE hm (catCells_get h1 hj2) fun hfl => catCells_flat (h5 hfl) hj2
  rw [expBoxes_ren] at h6
  have hblen : (renIns s (expB s ids) ids).length = ids.length := by simp [renIns]
  refine ⟨_, _, _, renβ β ids, rencp cp ids, Rd0, rfl, h6, ?_⟩
  have hsub : ∀ g, eAv ⟨rt, w0, Av, Rd0, entPins ins β0 cp0⟩ s β ids false g → Cx.mt ⟨rt, w0, Av, Rd0, entPins ins β0 cp0⟩ s β Rd g := fun g hg => (eAv_mt G hE hg).resolve_right fun hh => by cases hh.1
  exact {
    keeps := G.keeps.mono fun g _ hg => by
      rcases hg with hg | ⟨i, q, hq, hqg⟩
      · exact .inl hg
      · obtain ⟨bx, p1, rfl⟩ := entPins_get hq
        exact .inr ⟨i, bx, by rw [exp_box]; exact p1, hqg⟩
    few := by rw [hblen]; exact h3
    long := by
      rw [hblen]
      rcases Nat.lt_or_ge ids.length ins.length with hl | hl
      · have := hpre ids.length hl
        rw [List.getElem?_eq_none (Nat.le_refl _)] at this; cases this
      · exact hl
    rd := fun _ h => h
    rdge := fun _ h => .inl h
    same := G.rdsame
    rdok := fun g hg => by
      obtain ⟨k1, bv, p, bs, k2, k3, k4, k5⟩ := G.rdok g (G.rd0 g hg)
      exact ⟨k1, bv, p, bs, k2, Nat.le_trans k3 h4, k4, k5.mono (fun _ _ _ => rfl) (Nat.le_refl _) fun g _ hg => hsub g hg⟩
    rdnew := fun g h1 h2 => absurd h1 h2
    value := hval
    boxes := fun j bx hj => by
      obtain ⟨b, bx0, k1, k2, k3, rfl, k5, k6⟩ := ren_get (β := β) (cp := cp) hE.ren hj
      obtain ⟨bx1, q1, q2, q3, q4⟩ := expBs_box hbs b (List.mem_of_getElem? k1)
      rw [k2] at q1
      cases q1
      refine ⟨by rw [(expB_fit s ids bx0).2.2.1]; exact k3, ?_⟩
      rw [k5, k6]
      exact expB_ok (flat := sp.flat) G hE k2 q3 q4
    org := fun j bx g hj hg => by
      obtain ⟨b, bx0, k1, k2, k3, rfl, k5, k6⟩ := ren_get (β := β) (cp := cp) hE.ren hj
      rw [k5] at hg
      refine ⟨?_, fun hr => G.own_rd g ⟨b, bx0, k2, hg⟩ (G.rd0 g hr)⟩
      rcases G.org b bx0 g k2 hg with h7 | ⟨q, h7, h8⟩
      · exact .inl h7
      · obtain ⟨bx1, p1, rfl⟩ := entPins_get h7
        have hb := (List.getElem?_eq_some_iff.1 p1).1
        have := distN_inj _ h2 j b b k1 (hpre b hb)
        subst this
        exact .inr ⟨hb, h8⟩
    inj := fun j j' bx bx' g hj hj' hg hg' => by
      obtain ⟨b, bx0, k1, k2, k3, _, k5, k6⟩ := ren_get (β := β) (cp := cp) hE.ren hj
      obtain ⟨b', bx0', l1, l2, l3, _, l5, l6⟩ := ren_get (β := β) (cp := cp) hE.ren hj'
      rw [k5] at hg
      rw [l5] at hg'
      have := G.inj b b' bx0 bx0' g k2 l2 hg hg'
      subst this
      exact distN_inj _ h2 j j' b k1 l1
    pins := fun i bx0 bx hi hj => by
      obtain ⟨b, bx1, k1, k2, k3, rfl, k5, k6⟩ := ren_get (β := β) (cp := cp) hE.ren hj
      rw [hpre i (List.getElem?_eq_some_iff.1 hi).1] at k1
      cases k1
      obtain ⟨e1, e2, _⟩ := expB_fit s ids bx1
      rw [e1, e2, k5, k6]
      exact (G.pin i _ (entPins_of β0 cp0 hi)).2 bx1 k2 }

/-- A FUNCTION'S CONTRACT, FROM ITS TEXT. -/
theorem fn_sat (hm : P.follows .mixedOrders = true) (htt : TTok P tt) (htab : TabOK P rt tab) {f : FuncId} {fn : Func} {c : Code} (hf : P.funcs[f]? = some fn) (hb : fn.body = some c) {ts : List RV} (hres : fn.results = (ts.map RV.var).toArray) {nt : Nat} (hnt : fn.ntmps = nt)
    {sq : Nat → Bool} (hsq : allDB (dwOK tab sq) c = true)
    {sp : Spec} (body : ∀ args ins pk, sp.pre args ins → pk + sp.cost ≤ pickLimit → args.length ≤ nt ∧ runW tt tab Ent (dwS tt tab sq) c (entSt nt args ins pk) (retQ tt sp args ins ts pk)) : Sat P rt f sp := by
  intro w Av Rd pk args vs ins β0 cp0 T hpre hpk
  obtain ⟨hlen, hrun⟩ := body args ins pk hpre hpk
  subst hnt
  refine calls_of_wp hf hb ?_
  have hG := good_entry (nt := fn.ntmps) T hlen
  refine runW_sound (X := ⟨rt, w, Av, Rd, entPins ins β0 cp0⟩) htt htab c (dwS_ok hm htt htab hsq) _ _ _ _ _ ⟨_, _, _, hG⟩ hrun ⟨fun s a w' h1 h2 => ?_, fun i s a w' h1 h2 => h1.elim, fun s a w' h1 h2 => ?_⟩
  · exact ret_gives htt hres h2 h1
  · exact ret_gives htt hres h2 h1
end
end Go.VE
