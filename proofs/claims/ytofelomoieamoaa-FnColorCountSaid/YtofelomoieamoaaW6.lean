/- A part of the engine: what operations do to described states, proved sound against the model. No conditions. -/
import Derived.Test.YtofelomoieamoaaW5
set_option linter.unusedSimpArgs false
set_option linter.unusedVariables false
namespace Go.VE
open Go

section
variable {P : Program} {tt : Nat → Option TI} {X : Cx} {s : St} {a : Act} {w : World} {β : Nat → Option Nat} {cp : Nat → Nat} {Rd : Nat → Prop}
variable {Mt : Nat → Prop} {H : C → Value → Prop}

theorem Keeps.alloc (M : Nat → Prop) (w : World) (o : Obj) : Keeps M w (w.alloc o) :=
  ⟨rfl, rfl, rfl, by simp, fun g hg _ => heap_alloc_old w o hg⟩

/-- The cells of a value. -/
theorem cells_ok {v : Value} {x : AV} (h : MA w Mt Rd H v x) (hx : cellsOf x ≠ []) : MCs w Mt Rd H v.cells (cellsOf x) ∨ ∃ c, x = .c c ∧ ¬ v.oneCell' = true := by
  cases x with
  | c c =>
    by_cases h1 : v.oneCell' = true
    · refine .inl ⟨?_, fun j c' hj => ?_⟩
      · cases v <;> first | rfl | cases h1
      · simp only [cellsOf] at hj
        match j, hj with
        | 0, hj =>
          simp at hj
          subst hj
          have : v.cells.getD 0 undef = v := by cases v <;> first | rfl | cases h1
          rw [this]; exact h
        | j + 1, hj => simp at hj
    · exact .inr ⟨c, rfl, h1⟩
  | agg cs => obtain ⟨arr, rfl, h⟩ := h; exact .inl h
  | tup vs => simp [cellsOf] at hx
  | mp b ks => simp [cellsOf] at hx

theorem okC_one {c : C} (h : okC c = true) {v : Value} (hm : MC w Mt Rd H v c) : v.oneCell' = true := by
  cases c with
  | und => cases h
  | bot => cases h
  | own b n t => exact hm.1
  | vw b n lo hi => exact hm.1
  | ptr b n i off => exact hm.1
  | fn f caps => obtain ⟨arr, rfl, _⟩ := hm; rfl
  | v x => cases hm with | v _ hx => exact hx
  | sl t es => cases hm; rfl
  | rp cs => cases hm; rfl
  | rdr => obtain ⟨g, _, rfl⟩ := hm; rfl
  | ex x c => exact hm.2.one

theorem okCs_get : ∀ {cs : List C} {j : Nat} {c : C}, okCs cs → cs[j]? = some c → okC c = true
  | [], _, _, _, h => by simp at h
  | c :: r, 0, x, h, hj => by simp at hj; subst hj; exact h.1
  | c :: r, j + 1, x, h, hj => okCs_get h.2 (by simpa using hj)
theorem okRs_get : ∀ {cs : List C} {j : Nat} {c : C}, okRs cs → cs[j]? = some c → okR c = true
  | [], _, _, _, h => by simp at h
  | c :: r, 0, x, h, hj => by simp at hj; subst hj; exact h.1
  | c :: r, j + 1, x, h, hj => okRs_get h.2 (by simpa using hj)

theorem Fr.alloc (w : World) (Rd : Nat → Prop) (o : Obj) : Fr w Rd (w.alloc o) Rd :=
  ⟨(Keeps.alloc (fun _ => False) w o).size, fun g hg _ => (Keeps.alloc (fun _ => False) w o).block g hg id, fun _ h => .inl h⟩

/-- A new box over new cells. -/
theorem Good.newRow (h : Good X s a w β cp Rd) {nid : Nat} (hf : ¬ s.keyed nid) (hnx : nid < s.nx) {es : List (List C)} {k ty cap : Nat} {cur : Array Value} {row : Bool}
    (hcs : cur.size = cap * k) (hle : es.length ≤ cap) (hmax : cap ≤ maxLen) (hk : ∀ e ∈ es, e.length = k) (hr : row = true → pureEs es)
    (hc : ∀ i j e c, es[i]? = some e → e[j]? = some c → MC w (X.mt s β Rd) Rd (hOf s β cp) (cur.getD (i * k + j) undef) c) :
    Good X (s.setBox nid (some ⟨es, k, ty, row, false⟩)) a (w.alloc (.cells cur ty)) (VE.upd β nid (some w.heap.size)) (VE.upd cp nid cap) Rd :=
  h.upd nid ⟨es, k, ty, row, false⟩ _ _ hnx (.inl hf) (Keeps.alloc _ w _) (fun g hg => by cases hg; exact .inl (Nat.le_refl _))
    (.inr ⟨w.heap.size, cur, rfl, heap_alloc_new w _, hcs, hle, hmax, hk, hr, hc⟩)

theorem newBox_ok (h : Good X s a w β cp Rd) {d : Option Nat} (hd : dstOK s.nt d) {nid : Nat} (hf : ¬ s.keyed nid) (hnx : nid < s.nx) {t : Nat} {cs : List C} {arr : Array Value}
    (hm : MCs w (X.mt s β Rd) Rd (hOf s β cp) arr cs) : ∃ s', (newBox nid t cs s d).2 s' ∧ RelF w Rd X s' (a.put d (.pointer (some ⟨w.heap.size, 0, none⟩))) (w.alloc (.cells arr t)) := by
  have h1 := h.newRow hf hnx (es := [cs]) (k := cs.length) (ty := t) (cap := 1) (cur := arr) (row := false) (by simpa using hm.1) (by simp) (by simp [maxLen]) (by simp) (fun h => by cases h) (fun i j e c he hc => by
    match i, he with
    | 0, he => simp at he; subst he; simpa using hm.2 j c hc
    | i + 1, he => simp at he)
  exact ⟨_, rfl, _, _, _, h1.put (by simpa [St.setBox] using hd) ⟨rfl, hOf.mk rfl (St.box_set_same _ _ _) (by simp) fun _ => ⟨w.heap.size, upd_same _ _ _, by simp⟩⟩, Fr.alloc _ _ _⟩

theorem zv_mcs {t : Nat} {ti : TI} (hT : TIok P t ti) {z : Value} (hz : z.cells.toList = ti.zv) : MCs w Mt Rd H z.cells (ti.zv.map .v) := by
  refine ⟨by rw [← hz]; simp, fun j c hj => ?_⟩
  simp only [List.getElem?_map, Option.map_eq_some_iff] at hj
  obtain ⟨x, hx, rfl⟩ := hj
  have h1 : z.cells[j]? = some x := by rw [← hz] at hx; simpa using hx
  have h2 : z.cells.getD j undef = x := by simp [Array.getD_eq_getD_getElem?, h1]
  rw [h2]
  exact RC.v x (hT.zone x (List.mem_of_getElem? hx))

theorem alloc_ok (ht : TTok P tt) (h : Good X s a w β cp Rd) {d : Option Nat} (hd : dstOK s.nt d) {nid : Nat} (hf : ¬ s.keyed nid) (hnx : nid < s.nx) {t : Nat} (hp : (allocS nid (tt t) t s d).1) :
    ∃ u w', (Instr.alloc t true (.tuple #[])).run P w = .ok u w' ∧ ∃ s', (allocS nid (tt t) t s d).2 s' ∧ RelF w Rd X s' (a.put d u) w' := by
  unfold allocS at hp ⊢
  split at hp
  · rename_i ti hti
    have hT := ht t ti hti
    obtain ⟨i, z, h1, h2, h3, h4, h5⟩ := hT.info
    obtain ⟨s', h6, h7⟩ := newBox_ok h hd hf hnx (t := t) (zv_mcs (w := w) (Mt := X.mt s β Rd) (Rd := Rd) (H := hOf s β cp) hT h5)
    refine ⟨_, _, ?_, s', h6, h7⟩
    simp [Instr.alloc, zeroValue, typeInfo, h1, h4, newVar, newRow]
  · exact hp.elim

theorem box_ok (h : Good X s a w β cp Rd) {d : Option Nat} (hd : dstOK s.nt d) {nid : Nat} (hf : ¬ s.keyed nid) (hnx : nid < s.nx) {t : Nat} {v : Value} {x : AV} (hx : MA w (X.mt s β Rd) Rd (hOf s β cp) v x)
    (hp : (boxS nid t (cellsOf x) s d).1) : ∃ u w', (Instr.box t v).run P w = .ok u w' ∧ ∃ s', (boxS nid t (cellsOf x) s d).2 s' ∧ RelF w Rd X s' (a.put d u) w' := by
  obtain ⟨hne, hno⟩ := hp
  rcases cells_ok hx (fun e => hne (by rw [e]; rfl)) with hm | ⟨c, rfl, h1⟩
  · obtain ⟨s', h6, h7⟩ := newBox_ok h hd hf hnx (t := t) hm
    exact ⟨_, _, by simp [Instr.box, newVar, newRow], s', h6, h7⟩
  · exact absurd (okC_one hno.1 hx) h1

/-- A slice variable that begins as nil. -/
theorem assign_ok (h : Good X s a w β cp Rd) {d : Option Nat} (hd : dstOK s.nt d) {nid : Nat} (hf : ¬ s.keyed nid) (hnx : nid < s.nx) {t : Nat} {v : Value} {x : AV} (hx : MA w (X.mt s β Rd) Rd (hOf s β cp) v x)
    (hp : (assignS tt nid x (tt t) s d).1) : ∃ s', (assignS tt nid x (tt t) s d).2 s' ∧ RelF w Rd X s' (a.put d v) w := by
  unfold assignS at hp ⊢
  split at hp
  · rename_i ti hti
    split at hp
    · rename_i e hk
      split at hp
      · rename_i te hte
        simp only [Res.mk1] at hp ⊢
        cases hx with
        | v _ _ =>
          have h1 := h.upd (w' := w) nid ⟨[], te.sz, e, true, false⟩ none 0 hnx (.inl hf) (Keeps.refl _ w) (fun g hg => by cases hg) (.inl ⟨rfl, rfl, rfl⟩)
          exact ⟨_, rfl, _, _, _, h1.put (by simpa [St.setBox] using hd) ⟨rfl, hOf.mk rfl (St.box_set_same _ _ _) (Nat.le_refl _) fun _ => .inl ⟨upd_same _ _ _, rfl, _, rfl⟩⟩, Fr.refl _ _⟩
      · exact hp.elim
    · exact ⟨_, rfl, _, _, _, h.put hd hx, Fr.refl _ _⟩
  · exact ⟨_, rfl, _, _, _, h.put hd hx, Fr.refl _ _⟩

theorem len_ok (ht : TTok P tt) (h : Good X s a w β cp Rd) {d : Option Nat} (hd : dstOK s.nt d) {ty t : Nat} {v : Value} {x : AV} (hx : MA w (X.mt s β Rd) Rd (hOf s β cp) v x)
    (hp : (lenS tt t x s d).1) : ∃ u, (∀ w' Rd', Fr w Rd w' Rd' → (Builtin.len_ #[t] ty #[v]).run P w' = .ok u w') ∧ ∃ s', (lenS tt t x s d).2 s' ∧ Good X s' (a.put d u) w β cp Rd := by
  have hs : ∀ e, (tt t).map (·.kind) = some (TK.slice e) → P.underlying t = some (.slice e) := by
    intro e he
    simp only [Option.map_eq_some_iff] at he
    obtain ⟨ti, h1, h2⟩ := he
    exact (ht t ti h1).slice h2
  unfold lenS at hp ⊢
  split at hp
  · rename_i b hk
    simp only [Option.map_eq_some_iff] at hk
    obtain ⟨ti, h1, h2⟩ := hk
    obtain ⟨dd, hu, hdk⟩ := (ht t ti h1).und
    rw [h2] at hdk
    have hu' : P.underlying t = some .string := by cases dd <;> first | exact hdk.elim | exact hu
    cases hx with
    | v _ _ => exact ⟨_, by intro w' Rd' _; simp [Builtin.len_, run_underlying hu', goInt], _, rfl, h.put hd (RC.v _ rfl)⟩
  · rename_i e hk
    cases hx with
    | v _ _ => exact ⟨_, by intro w' Rd' _; simp [Builtin.len_, run_underlying (hs e hk), goInt], _, rfl, h.put hd (RC.v _ rfl)⟩
  · rename_i k b ks hk
    obtain ⟨g, es, clk, rfl, q1, q2, q3, q4, q5⟩ := hx
    simp only [Option.map_eq_some_iff] at hk
    obtain ⟨ti, h1, h2⟩ := hk
    obtain ⟨dd, hu, hdk⟩ := (ht t ti h1).und
    rw [h2] at hdk
    obtain ⟨ke, hu'⟩ : ∃ ke, P.underlying t = some (.map k ke) := by cases dd <;> first | exact hdk.elim | (simp only [descOK] at hdk; subst hdk; exact ⟨_, hu⟩)
    have hl : es.size = ks.length := by
      have := congrArg List.length q5
      simpa using this
    refine ⟨.int .i64 ks.length, fun w' Rd' hfr => ?_, _, rfl, h.put hd (RC.v _ rfl)⟩
    have hb := (hfr.block g q3 fun hr => q2 (.inr (.inr hr))).trans q4
    simp [Builtin.len_, run_underlying hu', goInt, MapKept.run_getObj_map hb, Result.andThen, hl]
  · rename_i e t' es hk
    cases hx with
    | sl _ _ k aa p n cap hn _ _ _ _ _ _ _ _ => subst hn; exact ⟨_, by intro w' Rd' _; simp [Builtin.len_, run_underlying (hs e hk), goInt], _, rfl, h.put hd (RC.v _ rfl)⟩
  · rename_i e b n t0 hk
    split at hp
    · rename_i bx hbx
      simp only [Res.mk1] at hp ⊢
      rcases hx.2.at rfl hbx hp with ⟨_, rfl, aa, rfl⟩ | ⟨g, c, hg, rfl, _⟩
      · exact ⟨_, by intro w' Rd' _; simp [Builtin.len_, run_underlying (hs e hk), goInt], _, rfl, h.put hd (RC.v _ rfl)⟩
      · exact ⟨_, by intro w' Rd' _; simp [Builtin.len_, run_underlying (hs e hk), goInt], _, rfl, h.put hd (RC.v _ rfl)⟩
    · exact hp.elim
  · rename_i e b n lo hi hk
    split at hp
    · rename_i bx hbx
      simp only [Res.mk1] at hp ⊢
      obtain ⟨_, _, aa, c, rfl, _⟩ := hx.2.at rfl hbx hp
      exact ⟨_, by intro w' Rd' _; simp [Builtin.len_, run_underlying (hs e hk), goInt], _, rfl, h.put hd (RC.v _ rfl)⟩
    · exact hp.elim
  · exact hp.elim

theorem min_ok (mx : Bool) (h : Good X s a w β cp Rd) {d : Option Nat} (hd : dstOK s.nt d) {ty : Nat} {ts : Array Nat} {l : List Operand} (hp : (minS mx (l.map s.ev) s d).1) :
    ∃ u, (∀ w, (match mx with | false => Builtin.min_ ts ty (l.map a.eval).toArray | true => Builtin.max_ ts ty (l.map a.eval).toArray).run P w = .ok u w) ∧ ∃ s', (minS mx (l.map s.ev) s d).2 s' ∧ Good X s' (a.put d u) w β cp Rd := by
  have key : ∀ o k n, s.ev o = .c (.v (.int k n)) → a.eval o = .int k n := by
    intro o k n he
    have := h.ev o
    rw [he] at this
    generalize a.eval o = v at this
    cases this; rfl
  unfold minS at hp ⊢
  split at hp
  · rename_i k m k' n he
    cases l with
    | nil => simp at he
    | cons o1 l => cases l with
    | nil => simp at he
    | cons o2 l => cases l with
    | cons o3 l => simp at he
    | nil =>
      simp only [List.map_cons, List.map_nil, List.cons.injEq, and_true] at he
      refine ⟨.int k (min m n), ?_, _, rfl, h.put hd (RC.v _ rfl)⟩
      intro w
      simp only [List.map_cons, List.map_nil, key _ _ _ he.1, key _ _ _ he.2, run_min_int2]
      congr 2
      omega
  · rename_i k m k' n he
    cases l with
    | nil => simp at he
    | cons o1 l => cases l with
    | nil => simp at he
    | cons o2 l => cases l with
    | cons o3 l => simp at he
    | nil =>
      simp only [List.map_cons, List.map_nil, List.cons.injEq, and_true] at he
      refine ⟨.int k (max m n), ?_, _, rfl, h.put hd (RC.v _ rfl)⟩
      intro w
      simp only [List.map_cons, List.map_nil, key _ _ _ he.1, key _ _ _ he.2, run_max_int2]
      congr 2
      omega
  · rename_i k m k' n k'' q he
    cases l with
    | nil => simp at he
    | cons o1 l => cases l with
    | nil => simp at he
    | cons o2 l => cases l with
    | nil => simp at he
    | cons o3 l => cases l with
    | cons o4 l => simp at he
    | nil =>
      simp only [List.map_cons, List.map_nil, List.cons.injEq, and_true] at he
      refine ⟨.int k (max (max m n) q), ?_, _, rfl, h.put hd (RC.v _ rfl)⟩
      intro w
      simp only [List.map_cons, List.map_nil, key _ _ _ he.1, key _ _ _ he.2.1, key _ _ _ he.2.2]
      simp [Builtin.max_, Builtin.max2]
      omega
  · exact hp.elim
end
end Go.VE
