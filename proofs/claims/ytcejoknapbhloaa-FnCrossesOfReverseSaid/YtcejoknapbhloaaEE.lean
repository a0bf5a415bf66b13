/- Contracts of functions of the program vectorraster, each proved for all states that fit its description. No conditions. -/
import Derived.Test.YtcejoknapbhloaaED
import Derived.Shelf.SlSortCmp.NoneTotal
set_option linter.unusedSimpArgs false
set_option linter.unusedVariables false
section
namespace Go.VE
open Go Go.Shelf Go.Proofs Go.Sort Go.RowKit

def fnV : Func := { name := "V", origin := "V", params := #[], resultTypes := #[], nfree := 0, ntmps := 2, tmpNames := #[], results := #[], body := none, norace := false }

section
variable {α : Type} [Inhabited α]
theorem sortW_heap (enc : α → List Value) (k : Nat) (w : World) {g : Nat} {cur : Array Value} {ty : Nat} (hg : w.heap[g]? = some (.cells cur ty (0, 0))) (m : Nat) (d : Array α) (os : Array Obj) :
    (sortWorldK enc k w g 0 m d os).heap[g]? = some (.cells (putCells id 0 (flatK enc k d) cur) ty (0, 0)) := by
  have hl := (Array.getElem?_eq_some_iff.1 hg).1
  have e : (sortWorldK enc k w g 0 m d os).heap = w.heap.modify g (onCells (putCells id 0 (flatK enc k d))) ++ os := rfl
  rw [e, Array.getElem?_append_left (by simpa using hl), Array.getElem?_modify, if_pos rfl, hg]
  rfl
theorem sortW_keeps (enc : α → List Value) (k : Nat) (w : World) (g m : Nat) (d : Array α) (os : Array Obj) : Keeps (fun x => x = g) w (sortWorldK enc k w g 0 m d os) := by
  have e : (sortWorldK enc k w g 0 m d os).heap = w.heap.modify g (onCells (putCells id 0 (flatK enc k d))) ++ os := rfl
  refine ⟨rfl, rfl, ⟨rfl, Nat.le_add_right _ _⟩, by rw [e]; simp, fun x hx hn => ?_⟩
  rw [e, Array.getElem?_append_left (by simpa using hx), Array.getElem?_modify, if_neg (fun h => hn h.symm)]
theorem put_getD {F cur : Array Value} {j : Nat} (h : j < F.size) (hc : F.size ≤ cur.size) : (putCells id 0 F cur).getD j undef = F[j]! := by
  have hj : j < cur.size := by omega
  rw [Array.getD_eq_getD_getElem?]
  simp only [putCells, Array.getElem?_mapIdx, Array.getElem?_eq_getElem hj, Option.map_some, Option.getD_some]
  rw [if_pos ⟨Nat.zero_le _, by omega⟩]
  rfl
theorem flat_at {enc : α → List Value} {k : Nat} (hk : ∀ x, (enc x).length = k) {d : Array α} {i j : Nat} (hi : i < d.size) (hj : j < k) : (flatK enc k d)[i * k + j]! = (enc d[i]!)[j]! ∧ i * k + j < d.size * k := by
  have hlt : i * k + j < d.size * k := by
    have := Nat.mul_le_mul_right k (show i + 1 ≤ d.size by omega)
    rw [Nat.succ_mul] at this; omega
  refine ⟨?_, hlt⟩
  have h1 := (row_div (i := i) hj)
  rw [get_flatK _ _ _ _ hlt, h1.1, h1.2]
end

theorem sat_sort {P : Program} {ρ : Ren} {tt : Nat → Option TI} {rt : Nat} (L : SlLaysF0.n6 P ρ) (htt : TTok P tt) {te : TI} (hte : tt (ρ.t 24) = some te) (hag : ∀ w, (isAgg (ρ.t 24)).run P w = .ok true w)
    {α : Type} [Inhabited α] (enc : α → List Value) (hk : ∀ x, (enc x).length = te.sz) (h1 : ∀ x, ∀ v ∈ enc x, v.oneCell' = true) (h2 : ∀ (s : St) x, ∀ v ∈ enc x, expC s [0] (C.v v) = C.v v) (cf : α → α → Int) (hO : SWO (ltOf cf)) (hT : ∀ x y, ltOf cf x y = false → ltOf cf y x = false → x = y)
    {g : Nat} (eg : ∀ args w, (callFunc g args).run P w = .ok (.enter g args) w) (hcmp : ∀ blk off size w, CmpLays P g #[] enc te.sz cf blk off size w) {sp : VE.Spec} (hflat : sp.flat = false) (hshut : sp.shut = false)
    (hsp : ∀ a i, sp.pre a i → ∃ l : List α, l.length ≤ 1000000000 ∧ a = [.c (.own 0 l.length false), .c (.fn g [])] ∧ i = [⟨l.map fun x => (enc x).map C.v, te.sz, ρ.t 24, true, false⟩] ∧
      sp.post a i (.tup []) [⟨(l.mergeSort fun x y => !(ltOf cf) y x).map fun x => (enc x).map C.v, te.sz, ρ.t 24, true, false⟩]) : Sat P rt (ρ.f 6) sp := by
  refine sat_lift htt (fn := fnV) (ts := []) rfl fun w Av Rd pk args vs ins β0 cp0 T hpre hpk => ?_
  obtain ⟨l, hl, rfl, rfl, hpost⟩ := hsp _ _ hpre
  obtain ⟨i, z, hi, hs, hby, hz, hzl⟩ := (htt _ _ hte).info
  have zE : ∀ w, (Go.sizeOf (ρ.t 24)).run P w = .ok te.sz w := fun w => by simp [Go.sizeOf, typeInfo, hi, hs]
  have a0 := T.args 0 _ rfl
  obtain ⟨cb, a1, hcb, -⟩ := T.args 1 _ rfl
  have hbx : (expSt [⟨l.map fun x => (enc x).map C.v, te.sz, ρ.t 24, true, false⟩]).box 0 = some ⟨l.map fun x => (enc x).map C.v, te.sz, ρ.t 24, true, false⟩ := rfl
  obtain ⟨-, hB⟩ := T.boxes 0 _ hbx
  have hv := a0.2.at rfl hbx (by simp)
  have hvs : vs = #[vs.getD 0 undef, .func (.func g) #[] #[]] := by
    have hsz := T.size
    have hcb0 : cb = #[] := Array.eq_empty_of_size_eq_zero (by simpa using hcb)
    subst hcb0
    refine Array.ext (by simpa using hsz) fun k hk1 hk2 => ?_
    simp only [List.size_toArray, List.length_cons, List.length_nil] at hk2
    match k, hk2 with
    | 0, _ => simp [Array.getD_eq_getD_getElem?, hk1]
    | 1, _ => simpa [Array.getD_eq_getD_getElem?, hk1] using a1
  have G := good_entry (nt := 2) T (Nat.le_of_ble_eq_true rfl)
  have hle : (l.mergeSort fun x y => !(ltOf cf) y x).length = l.length := List.length_mergeSort l
  -- the state that is left, and its result
  have hx : ∀ (w' : World), Keeps (fun x => β0 0 = some x) w w' → BoxOK0 w' (MC w (Cx.mt ⟨rt, w, Av, Rd, entPins [⟨l.map fun x => (enc x).map C.v, te.sz, ρ.t 24, true, false⟩] β0 cp0⟩ (entSt 2 [.c (.own 0 l.length false), .c (.fn g [])] [⟨l.map fun x => (enc x).map C.v, te.sz, ρ.t 24, true, false⟩] pk) β0 Rd) Rd (hOf (entSt 2 [.c (.own 0 l.length false), .c (.fn g [])] [⟨l.map fun x => (enc x).map C.v, te.sz, ρ.t 24, true, false⟩] pk) β0 cp0)) (β0 0) (cp0 0) ⟨(l.mergeSort fun x y => !(ltOf cf) y x).map fun x => (enc x).map C.v, te.sz, ρ.t 24, true, false⟩ →
      ∃ v' s a, Ending.returned (.tuple #[]) = .returned v' ∧ (results fnV a.tmps).run P w' = .ok v' w' ∧ Rel ⟨rt, w, Av, Rd, entPins [⟨l.map fun x => (enc x).map C.v, te.sz, ρ.t 24, true, false⟩] β0 cp0⟩ s a w' ∧ retW tt sp [.c (.own 0 l.length false), .c (.fn g [])] [⟨l.map fun x => (enc x).map C.v, te.sz, ρ.t 24, true, false⟩] [] pk s := by
    intro w' hK hb
    have G1 := G.upd (w' := w') 0 ⟨(l.mergeSort fun x y => !(ltOf cf) y x).map fun x => (enc x).map C.v, te.sz, ρ.t 24, true, false⟩ (β0 0) (cp0 0) (Nat.le_of_ble_eq_true rfl) (.inr ⟨_, hbx, fun _ => rfl, .inl ⟨by simp [hle], rfl, rfl, rfl⟩⟩) (hK.mono fun x _ hx => ⟨_, hbx, rfl, hx⟩) (fun x hx => .inr ⟨_, hbx, hx⟩) hb
    refine ⟨_, _, _, rfl, by simp [results, fnV], ⟨_, _, _, G1⟩, ?_⟩
    refine ⟨trivial, ?_⟩
    have hr : ∀ s : St, resAV tt s [] = .tup [] := fun _ => rfl
    rw [hr]
    have hexp : ∀ (s : St) (l : List α), (l.map fun x => (enc x).map C.v).map (fun e => e.map (expC s [0])) = l.map fun x => (enc x).map C.v := fun s l => by
      rw [List.map_map]
      refine List.map_congr_left fun x _ => ?_
      simp only [Function.comp, List.map_map]
      exact List.map_congr_left fun v hv => h2 s x v hv
    simp [retE, xids, hshut, hflat, allCells, catCells, numsOf, gather, varCells, VE.isVar, memN, hkey, expOks, expBs, St.box, St.setBox, lkB, distN, expA, expBoxes, expB, boxN, idxOf, pureV, pureEs, FUEL, unfz, entSt]
    exact hpost
  rw [hvs]
  rcases hB.two (.inl rfl) with ⟨hb0, he, -⟩ | ⟨g', cur, hb0, hw, hcs, hlc, hmax, -, -, hcells⟩
  · have hl0 : l = [] := List.map_eq_nil_iff.1 he
    subst hl0
    rcases hv with ⟨-, -, a, hv⟩ | ⟨g2, c, hg2, -⟩
    · rw [hv]
      have hn := AnyF.slices_SortFunc_none { L with } a 0 (.func (.func g) #[] #[]) w
      refine hn.mono ?_
      rintro e w' ⟨rfl, rfl⟩
      exact hx w' (Keeps.refl _ _) (.inl ⟨hb0, by simp, rfl⟩)
    · rw [hb0] at hg2; cases hg2
  · rcases hv with ⟨hn0, -⟩ | ⟨g2, c, hg2, hv, hnc, hcc, -⟩
    · rw [hb0] at hn0; cases hn0
    · rw [hb0] at hg2
      cases hg2
      rw [hv]
      have hH : HoldsK enc te.sz w g' 0 l.toArray := by
        intro t ht
        rw [size_flatK] at ht
        have hsz : 0 < te.sz := by rcases Nat.eq_zero_or_pos te.sz with h | h; (rw [h] at ht; simp at ht); exact h
        have hi' : t / te.sz < l.length := Nat.div_lt_of_lt_mul (by rw [Nat.mul_comm]; simpa using ht)
        have hj : t % te.sz < te.sz := Nat.mod_lt _ hsz
        have htt : t / te.sz * te.sz + t % te.sz = t := by rw [Nat.mul_comm]; exact Nat.div_add_mod t te.sz
        have hf := flat_at hk (d := l.toArray) (i := t / te.sz) (by simpa using hi') hj
        rw [htt] at hf
        have hen : t % te.sz < (enc l[t / te.sz]).length := by rw [hk]; exact hj
        have hc := hcells (t / te.sz) (t % te.sz) ((enc l[t / te.sz]).map C.v) (C.v (enc l[t / te.sz])[t % te.sz]) (by simp [hi']) (by simp [hen])
        rw [htt] at hc
        have hlt : t < cur.size := by rw [hcs]; exact Nat.lt_of_lt_of_le ht (Nat.mul_le_mul_right _ (by simpa using hlc))
        have hval : cur.getD t undef = (enc l[t / te.sz])[t % te.sz] := by
          generalize cur.getD t undef = u at hc
          cases hc; rfl
        refine ⟨?_, by simp [World.frozen?, hw]⟩
        rw [hf.1]
        have e1 : l.toArray[t / te.sz]! = l[t / te.sz] := by rw [getElem!_pos _ _ (by simpa using hi')]; simp
        have e2 : (enc l[t / te.sz])[t % te.sz]! = (enc l[t / te.sz])[t % te.sz] := getElem!_pos (enc l[t / te.sz]) (t % te.sz) hen
        rw [e1, e2, ← hval, Array.getD_eq_getD_getElem?, Array.getElem?_eq_getElem hlt]
        simp [World.cell?, hw, hlt]
      have hs := AnyQ.slices_SortFunc_total L te.sz hag zE enc hk h1 cf hO g #[] g' 0 c l.toArray w eg (hcmp _ _ _ _) hH (Array.getElem?_eq_some_iff.1 hw).1 (by simp; omega) hT
      simp only [List.size_toArray] at hs
      refine hs.mono ?_
      rintro e w' ⟨rfl, m, os, rfl⟩
      refine hx _ ((sortW_keeps enc te.sz w g' m _ os).mono fun x _ hx => by rw [hb0, hx]) (.inr ⟨g', _, hb0, sortW_heap enc te.sz w hw m _ os, ?_, ?_, hmax, ?_, ?_, ?_⟩)
      · simp [putCells, hcs]
      · simpa [hle] using hlc
      · intro e he
        obtain ⟨x, -, rfl⟩ := List.mem_map.1 he
        simp [hk]
      · intro _ e he c hc
        obtain ⟨x, -, rfl⟩ := List.mem_map.1 he
        obtain ⟨v, -, rfl⟩ := List.mem_map.1 hc
        rfl
      · intro i' j e c' he hc
        simp only [List.getElem?_map, Option.map_eq_some_iff] at he
        obtain ⟨x, he, rfl⟩ := he
        simp only [List.getElem?_map, Option.map_eq_some_iff] at hc
        obtain ⟨v, hc, rfl⟩ := hc
        have hj : j < te.sz := by rw [← hk x]; exact (List.getElem?_eq_some_iff.1 hc).1
        have hi' := (List.getElem?_eq_some_iff.1 he).1
        have hf := flat_at hk (d := (l.mergeSort fun x y => !(ltOf cf) y x).toArray) (i := i') (by simpa using hi') hj
        rw [put_getD (by rw [size_flatK]; exact hf.2) (by rw [size_flatK, hcs]; exact Nat.mul_le_mul_right _ (by simpa [hle] using hlc)), hf.1]
        have e1 : (l.mergeSort fun x y => !(ltOf cf) y x).toArray[i']! = x := by
          rw [getElem!_pos _ i' (by simpa using hi')]
          simpa using (List.getElem?_eq_some_iff.1 he).2
        have e2 : (enc x)[j]! = v := by
          rw [getElem!_pos _ j (List.getElem?_eq_some_iff.1 hc).1]
          exact (List.getElem?_eq_some_iff.1 hc).2
        rw [e1, e2]
        exact RC.v v (h1 x v (List.mem_of_getElem? hc))
end Go.VE
end
section
namespace Go.VE
open Go Go.Shelf Go.Proofs Go.Sort Go.RowKit

/-- What is asked of a comparison, out of its contract. -/
theorem cmpLays_of {P : Program} {rt g : Nat} {sp : VE.Spec} (hS : Sat P rt g sp) {α : Type} [Inhabited α] (enc : α → List Value) (k : Nat) (cf : α → α → Int) (h1 : ∀ x, ∀ v ∈ enc x, v.oneCell' = true)
    (hpre : ∀ x y, sp.pre [.agg ((enc x).map C.v), .agg ((enc y).map C.v)] []) (hpost : ∀ x y r bs, sp.post [.agg ((enc x).map C.v), .agg ((enc y).map C.v)] [] r bs → r = .c (.v (.int .i64 (cf x y)))) (hcost : sp.cost ≤ pickLimit) :
    ∀ blk off size w, CmpLays P g #[] enc k cf blk off size w := by
  intro blk off size w m os dk _ x y
  generalize sortWorldK enc k w blk off m dk os = W
  have hagg : ∀ (Mt Rd : Nat → Prop) (H : C → Value → Prop) (z : α), MA W Mt Rd H (.agg (enc z).toArray) (.agg ((enc z).map C.v)) := fun Mt Rd H z => by
    refine ⟨_, rfl, by simp, fun j c hc => ?_⟩
    simp only [List.getElem?_map, Option.map_eq_some_iff] at hc
    obtain ⟨v, hv, rfl⟩ := hc
    have : (enc z).toArray.getD j undef = v := by simp [Array.getD_eq_getD_getElem?, hv]
    rw [this]
    exact RC.v v (h1 z v (List.mem_of_getElem? hv))
  have T : Takes rt W (fun _ => False) (fun _ => False) 0 [.agg ((enc x).map C.v), .agg ((enc y).map C.v)] #[.agg (enc x).toArray, .agg (enc y).toArray] [] (fun _ => none) (fun _ => 0) := {
    rdav := fun _ h => h
    avlt := fun _ h => h.elim
    pasav := fun _ _ h => h
    rdok := fun _ h => h.elim
    size := rfl
    args := fun j z hj => by
      match j, hj with
      | 0, hj => simp only [List.getElem?_cons_zero, Option.some.injEq] at hj; subst hj; exact hagg _ _ _ x
      | 1, hj => simp only [List.getElem?_cons_succ, List.getElem?_cons_zero, Option.some.injEq] at hj; subst hj; exact hagg _ _ _ y
      | j + 2, hj => simp at hj
    boxes := fun b bx h => by simp at h
    inj := fun b b' bx bx' g h => by simp at h }
  refine (hS W _ _ 0 _ _ _ _ _ T (hpre x y) (by omega)).mono fun e w' ⟨v, r, bs', β, cp, Rd', he, hp, G⟩ => ?_
  subst he
  have := hpost _ _ _ _ hp
  subst this
  have hv : v = .int .i64 (cf x y) := by
    have h1 : RC w' (avoid (fun _ => False) bs' β Rd' sp.flat W.heap.size) v (.v (.int .i64 (cf x y))) := G.value
    cases h1; rfl
  subst hv
  refine ⟨rfl, w'.drawn - W.drawn, w'.heap.extract W.heap.size w'.heap.size, ?_⟩
  have hb : ∀ i, i < W.heap.size → w'.heap[i]? = W.heap[i]? := fun i hi => G.keeps.block i hi fun h => by
    rcases h with h | ⟨b, bx, h1, _⟩
    · exact h
    · rw [exp_box] at h1; simp at h1
  have hsz := G.keeps.size
  have hheap : w'.heap = W.heap ++ w'.heap.extract W.heap.size w'.heap.size := by
    refine Array.ext_getElem? fun i => ?_
    rw [Array.getElem?_append]
    by_cases hi : i < W.heap.size
    · rw [if_pos hi, hb i hi]
    · rw [if_neg hi, Array.getElem?_extract]
      by_cases h2 : i < w'.heap.size
      · rw [if_pos (by omega), show W.heap.size + (i - W.heap.size) = i by omega]
      · rw [if_neg (by omega), Array.getElem?_eq_none (by omega)]
  obtain ⟨hp, tp, dr, os', ou⟩ := w'
  obtain ⟨hp0, tp0, dr0, os0, ou0⟩ := W
  have e1 := G.keeps.os
  have e2 := G.keeps.tape
  have e3 := G.keeps.output
  simp only at e1 e2 e3 hheap
  obtain ⟨e3, e4⟩ := e3
  subst e1 e2 e3
  show World.mk hp tp dr os' ou = World.mk (hp0 ++ hp.extract hp0.size hp.size) tp (dr0 + (dr - dr0)) os' ou
  rw [show dr0 + (dr - dr0) = dr by omega]
  exact congrArg (fun z => World.mk z tp dr os' ou) hheap
end Go.VE
end
