/- A part of the engine: what operations do to described states, proved sound against the model. No conditions. -/
import Derived.Test.YtofelomoieamoaaW6
set_option linter.unusedSimpArgs false
set_option linter.unusedVariables false
namespace Go.VE
open Go

section
variable {P : Program} {tt : Nat → Option TI} {X : Cx} {s : St} {a : Act} {w : World} {β : Nat → Option Nat} {cp : Nat → Nat} {Rd : Nat → Prop}

theorem div_mod_row {q sz m : Nat} (hsz : 0 < sz) (hq : q < m * sz) : q / sz < m ∧ q % sz < sz ∧ q / sz * sz + q % sz = q :=
  ⟨Nat.div_lt_of_lt_mul (by rwa [Nat.mul_comm] at hq), Nat.mod_lt _ hsz, by rw [Nat.mul_comm]; exact Nat.div_add_mod q sz⟩

theorem row_lt {i j sz m : Nat} (hi : i < m) (hj : j < sz) : i * sz + j < m * sz := by
  have : (i + 1) * sz ≤ m * sz := Nat.mul_le_mul_right _ hi
  rw [Nat.succ_mul] at this
  omega

theorem row_div {i j sz : Nat} (hj : j < sz) : (i * sz + j) / sz = i ∧ (i * sz + j) % sz = j := by
  have hsz : 0 < sz := by omega
  refine ⟨?_, ?_⟩
  · rw [Nat.mul_comm, Nat.mul_add_div hsz, Nat.div_eq_of_lt hj, Nat.add_zero]
  · rw [Nat.mul_comm, Nat.mul_add_mod, Nat.mod_eq_of_lt hj]

/-- What is appended, in memory. -/
theorem src_ok (h : Good X s a w β cp Rd) {b : Nat} {v : Value} {y : AV} (hy : MA w (X.mt s β Rd) Rd (hOf s β cp) v y) {p : Prop} {ys : List (List C)} (hs : srcOf s b y = some (p, ys)) (hp : copyS.srcLen s y)
    {sz : Nat} (hsz : 0 < sz) (hys : ∀ e ∈ ys, e.length = sz) :
    pureEs ys ∧ ((∃ x c, v = .slice x 0 c ∧ ys = []) ∨ ∃ (ad : Addr) (c : Nat) (news : List Value), v = .slice (some ad) ys.length c ∧ news.length = ys.length * sz ∧ (∀ j u, news[j]? = some u → w.cell? (ad.add j) = some u) ∧
      (∀ u ∈ news, u.oneCell' = true) ∧ ∀ i j e c, ys[i]? = some e → e[j]? = some c → MC w (X.mt s β Rd) Rd (hOf s β cp) (news.getD (i * sz + j) undef) c) := by
  have mk : ∀ (ad : Addr) (c : Nat) (f : Nat → Value), (∀ i j e c, ys[i]? = some e → e[j]? = some c → w.cell? (ad.add (i * sz + j)) = some (f (i * sz + j)) ∧ RC w (X.mt s β Rd) (f (i * sz + j)) c) →
      ∃ (ad' : Addr) (c' : Nat) (news : List Value), Value.slice (some ad) ys.length c = .slice (some ad') ys.length c' ∧ news.length = ys.length * sz ∧ (∀ j u, news[j]? = some u → w.cell? (ad'.add j) = some u) ∧
      (∀ u ∈ news, u.oneCell' = true) ∧ ∀ i j e c, ys[i]? = some e → e[j]? = some c → MC w (X.mt s β Rd) Rd (hOf s β cp) (news.getD (i * sz + j) undef) c := by
    intro ad c f hf
    have get : ∀ q, q < ys.length * sz → ∃ i j e c, i * sz + j = q ∧ ys[i]? = some e ∧ e[j]? = some c := by
      intro q hq
      obtain ⟨h1, h2, h3⟩ := div_mod_row hsz hq
      have hel := hys ys[q / sz] (List.getElem_mem h1)
      exact ⟨q / sz, q % sz, ys[q / sz], ys[q / sz][q % sz]'(by omega), h3, List.getElem?_eq_getElem h1, List.getElem?_eq_getElem (by omega)⟩
    refine ⟨ad, c, (List.range (ys.length * sz)).map f, rfl, by simp, fun j u hj => ?_, fun u hu => ?_, fun i j e c he hc => ?_⟩
    · simp only [List.getElem?_map, Option.map_eq_some_iff] at hj
      obtain ⟨q, hq, rfl⟩ := hj
      have hql : j < ys.length * sz := by
        have := (List.getElem?_eq_some_iff.1 hq).1; simpa using this
      have hqj : q = j := by rw [List.getElem?_range hql] at hq; simpa using hq.symm
      subst hqj
      obtain ⟨i, j, e, c, rfl, he, hc⟩ := get _ hql
      exact (hf i j e c he hc).1
    · simp only [List.mem_map, List.mem_range] at hu
      obtain ⟨q, hq, rfl⟩ := hu
      obtain ⟨i, j, e, c, rfl, he, hc⟩ := get _ hq
      exact (hf i j e c he hc).2.one
    · have hil := (List.getElem?_eq_some_iff.1 he).1
      have hjl := (List.getElem?_eq_some_iff.1 hc).1
      rw [hys e (List.mem_of_getElem? he)] at hjl
      have hlt := row_lt (m := ys.length) hil hjl
      have : ((List.range (ys.length * sz)).map f).getD (i * sz + j) undef = f (i * sz + j) := by simp [hlt]
      rw [this]
      exact (hf i j e c he hc).2.mc
  -- a row of one's own, from a place on
  have own : ∀ (b' : Nat) (bx : Box) (lo : Nat), s.box b' = some bx → bx.row = true → (∀ i e, ys[i]? = some e → bx.es[lo + i]? = some e) → ∀ ad c, v = .slice (some ad) ys.length c → (ys ≠ [] → ∃ g, β b' = some g ∧ ad = ⟨g, lo * bx.k, none⟩) →
      pureEs ys ∧ ∃ (ad : Addr) (c : Nat) (news : List Value), v = .slice (some ad) ys.length c ∧ news.length = ys.length * sz ∧ (∀ j u, news[j]? = some u → w.cell? (ad.add j) = some u) ∧
      (∀ u ∈ news, u.oneCell' = true) ∧ ∀ i j e c, ys[i]? = some e → e[j]? = some c → MC w (X.mt s β Rd) Rd (hOf s β cp) (news.getD (i * sz + j) undef) c := by
    intro b' bx lo hbx hrow hget ad c hv had
    have hp : pureEs ys := fun e he cc hc => by
      obtain ⟨i, hi, rfl⟩ := List.getElem_of_mem he
      exact (h.boxes b' bx hbx).pure hrow _ (List.mem_of_getElem? (hget i _ (List.getElem?_eq_getElem hi))) cc hc
    refine ⟨hp, ?_⟩
    rcases (h.boxes b' bx hbx).two (.inl hrow) with ⟨q1, q2, q3⟩ | ⟨g, cur, h1, h2, h4, h5, h6, h7, h9, h8⟩
    · have : ys = [] := by
        cases ys with
        | nil => rfl
        | cons e r => have := hget 0 e rfl; rw [q2] at this; simp at this
      subst this
      rw [hv]
      exact ⟨ad, c, [], rfl, by simp, by simp, by simp, by simp⟩
    · rw [hv]
      refine mk ad c (fun q => cur.getD (lo * sz + q) undef) fun i j e cc he hcc => ?_
      have hne : ys ≠ [] := by rintro rfl; simp at he
      obtain ⟨g', hg', rfl⟩ := had hne
      rw [h1] at hg'; cases hg'
      have he' := hget i e he
      have hil := (List.getElem?_eq_some_iff.1 he').1
      have hjl := (List.getElem?_eq_some_iff.1 hcc).1
      have hk' : bx.k = sz := by rw [← h7 e (List.mem_of_getElem? he')]; exact hys e (List.mem_of_getElem? he)
      rw [hys e (List.mem_of_getElem? he)] at hjl
      have e1 : lo * sz + (i * sz + j) = (lo + i) * sz + j := by rw [Nat.add_mul]; omega
      refine ⟨?_, ?_⟩
      · rw [addr_add, cell_of_row w g _ cur bx.ty (0, 0) h2, hk', e1]
        have hlt := row_lt (m := bx.es.length) hil hjl
        have : bx.es.length * sz ≤ cp b' * sz := Nat.mul_le_mul_right _ h5
        have hlt2 : (lo + i) * sz + j < cur.size := by rw [h4, hk']; omega
        simp [hlt2]
      · have := h8 (lo + i) j e cc he' hcc
        rw [hk'] at this
        rw [e1]
        exact this.rc (hp e (List.mem_of_getElem? he) cc (List.mem_of_getElem? hcc))
  unfold srcOf at hs
  split at hs
  · simp only [Option.some.injEq, Prod.mk.injEq] at hs
    obtain ⟨_, rfl⟩ := hs
    cases hy with
    | v _ _ => exact ⟨fun e he => by simp at he, .inl ⟨none, 0, rfl, rfl⟩⟩
  · rename_i t0 ys
    simp only [Option.some.injEq, Prod.mk.injEq] at hs
    obtain ⟨_, rfl⟩ := hs
    cases hy with
    | sl t es k aa pp n cap hn ht hle hmax hk ha u hc hr =>
      have hpure : pureEs ys := fun e he cc hcc => by
        obtain ⟨i, hi, rfl⟩ := List.getElem_of_mem he
        obtain ⟨j, hj, rfl⟩ := List.getElem_of_mem hcc
        exact (hr i j _ _ (List.getElem?_eq_getElem hi) (List.getElem?_eq_getElem hj)).okR
      refine ⟨hpure, ?_⟩
      subst hn
      cases aa with
      | none =>
        have : ys = [] := by
          cases ys with
          | nil => rfl
          | cons e r => have := (ha (by simp)).1; cases this
        subst this
        exact .inl ⟨none, cap, rfl, rfl⟩
      | some ad =>
        refine .inr (mk ad cap (fun q => u (q / sz) (q % sz)) fun i j e c he hcc => ?_)
        have hne : ys ≠ [] := by rintro rfl; simp at he
        obtain ⟨e1, e2, _, _⟩ := ha hne
        cases e1
        have hjl := (List.getElem?_eq_some_iff.1 hcc).1
        rw [hys e (List.mem_of_getElem? he)] at hjl
        have hk' : k = sz := by rw [← hk e (List.mem_of_getElem? he)]; exact hys e (List.mem_of_getElem? he)
        subst hk'
        obtain ⟨d1, d2⟩ := row_div (i := i) hjl
        simp only [d1, d2]
        rw [addr_add' e2]
        exact ⟨hc i j e c he hcc, hr i j e c he hcc⟩
  · rename_i b' m t0
    split at hs
    · rename_i bx hbx
      split at hs
      · rename_i hrow
        simp only [Option.some.injEq, Prod.mk.injEq] at hs
        obtain ⟨hs1, rfl⟩ := hs
        simp only [copyS.srcLen, hbx] at hp
        rcases hy.2.at rfl hbx hp with ⟨hβ, hm0, aa, rfl⟩ | ⟨g, c, hg, rfl, _⟩
        · have he : bx.es = [] := List.eq_nil_of_length_eq_zero (by omega)
          exact ⟨by rw [he]; intro e h; simp at h, .inl ⟨aa, 0, rfl, he⟩⟩
        · obtain ⟨q1, q2⟩ := own b' bx 0 hbx hrow (fun i e he => by simpa using he) ⟨g, 0, none⟩ c (by rw [hp]) (fun _ => ⟨g, hg, by simp⟩)
          exact ⟨q1, .inr q2⟩
      · cases hs
    · cases hs
  · rename_i b' m lo hi
    split at hs
    · rename_i bx hbx
      split at hs
      · rename_i hrow
        simp only [Option.some.injEq, Prod.mk.injEq] at hs
        obtain ⟨hs1, rfl⟩ := hs
        simp only [copyS.srcLen, hbx] at hp
        obtain ⟨v1, v2, aa, c, rfl, v3, v4, v5⟩ := hy.2.at rfl hbx hp
        have hl : ((bx.es.take hi).drop lo).length = hi - lo := by simp; omega
        have hget : ∀ i e, ((bx.es.take hi).drop lo)[i]? = some e → bx.es[lo + i]? = some e := fun i e he => by
          rw [List.getElem?_drop, List.getElem?_take] at he
          split at he
          · exact he
          · cases he
        have hpure : pureEs ((bx.es.take hi).drop lo) := fun e he cc hc => (h.boxes b' bx hbx).pure hrow e (List.mem_of_mem_take (List.mem_of_mem_drop he)) cc hc
        by_cases hlt : lo < hi
        · obtain ⟨g, hg, rfl⟩ := v5 hlt
          obtain ⟨q1, q2⟩ := own b' bx lo hbx hrow hget ⟨g, lo * bx.k, none⟩ c (by rw [hl]) (fun _ => ⟨g, hg, rfl⟩)
          exact ⟨q1, .inr q2⟩
        · have e0 : hi - lo = 0 := by omega
          exact ⟨hpure, .inl ⟨aa, c, by rw [e0], List.eq_nil_of_length_eq_zero (by omega)⟩⟩
      · cases hs
    · cases hs
  · cases hs

theorem append_zero {t ty e : Nat} {i : TypeInfo} (ht : P.underlying t = some (.slice e)) (hi : P.info? e = some i) (b : Option Addr) (n cap : Nat) (hle : n ≤ cap) (x : Option Addr) (c : Nat) :
    (Builtin.append_ #[t, t] ty #[.slice b n cap, .slice x 0 c]).run P w = .ok (.slice b n cap) w := by
  cases x <;> cases b <;> simp [Builtin.append_, run_underlying ht, sizeOf, typeInfo, hi, Builtin.lenOf, Builtin.firstCells, hle, storeCells, loadCells, loadCellsFrom]

/-- An append that makes a new block. -/
theorem append_grow {t ty e : Nat} {te : TI} (hte : TIok P e te) (ht : P.underlying t = some (.slice e)) {n m cap : Nat} {A : Option Addr} {olds : List Value}
    (hA : (A = none ∧ n = 0 ∧ cap = 0) ∨ ∃ ad, A = some ad ∧ ∀ j u, olds[j]? = some u → w.cell? (ad.add j) = some u) (ho : olds.length = n * te.sz) (hn : n ≤ cap) (hcap : cap < n + m)
    {ad : Addr} {c : Nat} {news : List Value} (hl : news.length = m * te.sz) (hnews : ∀ j u, news[j]? = some u → w.cell? (ad.add j) = some u) (hm : 0 < m)
    (hb : (n + m) * te.bytes ≤ 140737488355328) (h63 : n + m ≤ 4611686018427387904) :
    ∃ w' cap' cur', (Builtin.append_ #[t, t] ty #[.slice A n cap, .slice (some ad) m c]).run P w = .ok (.slice (some ⟨w.heap.size, 0, none⟩) (n + m) cap') w' ∧
      Keeps (fun _ => False) w w' ∧ w'.heap[w.heap.size]? = some (.cells cur' e (0, 0)) ∧ cur'.size = cap' * te.sz ∧ n + m ≤ cap' ∧ cap' ≤ maxLen ∧
      (∀ q, q < n * te.sz → cur'.getD q undef = olds.getD q undef) ∧ ∀ q, q < m * te.sz → cur'.getD (n * te.sz + q) undef = news.getD q undef := by
  obtain ⟨i, z, hi, hs, hby, hz, hzl⟩ := hte.info
  have hzs : z.cells.size = te.sz := by rw [← hte.zlen, ← hzl]; simp
  have hmax : n + m ≤ maxLen := by simp only [maxLen]; omega
  have grown : ∀ (old : Nat) (w1 : World), w1 = w.drew.alloc (.cells (olds.toArray ++ news.toArray ++ Builtin.zeroCells z.cells (grownCap w (n + m) old e - (n + m))) e) →
      Keeps (fun _ => False) w w1 ∧ w1.heap[w.heap.size]? = some (.cells (olds.toArray ++ news.toArray ++ Builtin.zeroCells z.cells (grownCap w (n + m) old e - (n + m))) e (0, 0)) ∧
      (olds.toArray ++ news.toArray ++ Builtin.zeroCells z.cells (grownCap w (n + m) old e - (n + m))).size = grownCap w (n + m) old e * te.sz ∧ n + m ≤ grownCap w (n + m) old e ∧ grownCap w (n + m) old e ≤ maxLen ∧
      (∀ q, q < n * te.sz → (olds.toArray ++ news.toArray ++ Builtin.zeroCells z.cells (grownCap w (n + m) old e - (n + m))).getD q undef = olds.getD q undef) ∧
      ∀ q, q < m * te.sz → (olds.toArray ++ news.toArray ++ Builtin.zeroCells z.cells (grownCap w (n + m) old e - (n + m))).getD (n * te.sz + q) undef = news.getD q undef := by
    rintro old w1 rfl
    have hge := grownCap_ge w (n + m) old e
    have hcm : grownCap w (n + m) old e ≤ maxLen := grownCap_le_maxLen w (n + m) old e hmax
    refine ⟨⟨rfl, rfl, rfl, by simp, fun x hx _ => heap_alloc_old w.drew _ hx⟩, heap_alloc_new w.drew _, ?_, hge, hcm, fun q hq => ?_, fun q hq => ?_⟩
    · simp only [Array.size_append, List.size_toArray, size_zeroCells, hzs, ho, hl, ← Nat.add_mul]
      congr 1
      omega
    · have h2 : q < olds.length := by omega
      simp only [Array.getD_eq_getD_getElem?, List.getD_eq_getElem?_getD, Array.getElem?_append, Array.size_append, List.size_toArray]
      rw [if_pos (by omega), if_pos h2]
      simp
    · have h2 : q < news.length := by omega
      simp only [Array.getD_eq_getD_getElem?, List.getD_eq_getElem?_getD, Array.getElem?_append, Array.size_append, List.size_toArray]
      rw [if_pos (by omega), if_neg (by omega), ho, Nat.add_sub_cancel_left]
      simp
  rcases hA with ⟨rfl, rfl, rfl⟩ | ⟨ad', rfl, holds⟩
  · have hol : olds = [] := List.eq_nil_of_length_eq_zero (by omega)
    subst hol
    have hr := run_append_nil (P := P) w t ty e i z ht hi hz ad m c news (by rw [hs]; exact hl) hnews hm (by omega) (by rw [hby]; simp only [Nat.zero_add] at hb; omega)
    obtain ⟨g1, g2, g3, g4, g5, g6, g7⟩ := grown 0 _ rfl
    have e1 : ([] : List Value).toArray ++ news.toArray = news.toArray := by simp
    rw [e1] at g1 g2 g3 g6 g7
    refine ⟨_, _, _, ?_, g1, g2, g3, g4, g5, g6, g7⟩
    simp only [Nat.zero_add]
    exact hr
  · have hr := run_append_grow (P := P) w t ty e i z ht hi hz ad' n cap olds (by rw [hs]; exact ho) holds ad m c news (by rw [hs]; exact hl) hnews (by omega) (by omega) (growslice_fits (by omega) (by rw [hby]; exact hb))
    obtain ⟨g1, g2, g3, g4, g5, g6, g7⟩ := grown cap _ rfl
    exact ⟨_, _, _, hr, g1, g2, g3, g4, g5, g6, g7⟩

/-- Behind an append onto a row of one's own. -/
theorem append_core {t ty e : Nat} {te : TI} (hte : TIok P e te) (ht : P.underlying t = some (.slice e)) {n m c0 cp0 : Nat} {A : Option Addr} {g : Option Nat} {cur : Array Value}
    (hbase : (g = none ∧ n = 0 ∧ c0 = 0) ∨ ∃ g', g = some g' ∧ A = some ⟨g', 0, none⟩ ∧ w.heap[g']? = some (.cells cur e (0, 0)) ∧ cur.size = cp0 * te.sz) (hn : n ≤ c0) (hc0 : c0 ≤ cp0) (hcp : cp0 ≤ maxLen)
    {ad : Addr} {c : Nat} {news : List Value} (hl : news.length = m * te.sz) (hnews : ∀ j u, news[j]? = some u → w.cell? (ad.add j) = some u) (h1 : ∀ u ∈ news, u.oneCell' = true) (hm : 0 < m)
    (hb : (n + m) * te.bytes ≤ 140737488355328) (h63 : n + m ≤ 4611686018427387904) :
    ∃ w' g' c' cp' cur', (Builtin.append_ #[t, t] ty #[.slice A n c0, .slice (some ad) m c]).run P w = .ok (.slice (some ⟨g', 0, none⟩) (n + m) c') w' ∧
      Keeps (fun x => g = some x) w w' ∧ (w.heap.size ≤ g' ∨ g = some g') ∧ w'.heap[g']? = some (.cells cur' e (0, 0)) ∧ cur'.size = cp' * te.sz ∧ n + m ≤ c' ∧ c' ≤ cp' ∧ cp' ≤ maxLen ∧
      (∀ q, q < n * te.sz → cur'.getD q undef = cur.getD q undef) ∧ ∀ q, q < m * te.sz → cur'.getD (n * te.sz + q) undef = news.getD q undef := by
  obtain ⟨i, z, hi, hs, hby, hz, hzl⟩ := hte.info
  rcases hbase with ⟨rfl, rfl, rfl⟩ | ⟨g', rfl, rfl, hg, hcs⟩
  · have hA : (A = none ∧ 0 = 0 ∧ 0 = 0) ∨ ∃ ad, A = some ad ∧ ∀ j u, ([] : List Value)[j]? = some u → w.cell? (ad.add j) = some u := by
      cases A with
      | none => exact .inl ⟨rfl, rfl, rfl⟩
      | some x => exact .inr ⟨x, rfl, by simp⟩
    obtain ⟨w', cap', cur', r1, r2, r3, r4, r5, r6, r7, r8⟩ := append_grow (ty := ty) hte ht hA (by simp) (Nat.le_refl _) (by omega) hl hnews hm hb h63
    exact ⟨w', _, cap', cap', cur', r1, r2.mono (fun _ _ h => h.elim), .inl (Nat.le_refl _), r3, r4, r5, Nat.le_refl _, r6, fun q hq => by omega, r8⟩
  · have hlen : cur.toList.length = cp0 * te.sz := by simpa using hcs
    have hnc : n * te.sz ≤ cp0 * te.sz := Nat.mul_le_mul_right _ (by omega)
    by_cases hroom : n + m ≤ c0
    · have hfit : n * i.size + news.length ≤ cur.size := by rw [hs, hl, hcs, ← Nat.add_mul]; exact Nat.mul_le_mul_right _ (by omega)
      have hr := run_append_room (P := P) w t ty e i ht hi g' n c0 cur hg ad m c news (by rw [hs]; exact hl) hnews h1 hroom hfit
      rw [hs] at hr hfit
      refine ⟨_, g', c0, cp0, _, hr, ⟨rfl, rfl, rfl, by simp, fun x _ hx => setRow_other w g' x _ (fun e => hx (by rw [e]))⟩, .inr rfl, setRow_heap w g' cur _ e _ hg, ?_, hroom, hc0, hcp, fun q hq => ?_, fun q hq => ?_⟩
      · simp only [List.size_toArray, List.length_append, List.length_take, List.length_drop, hlen]
        omega
      · simp only [Array.getD_eq_getD_getElem?, List.getElem?_toArray, List.getElem?_append, List.length_append, List.length_take, hlen]
        rw [if_pos (by omega), if_pos (by omega), List.getElem?_take, if_pos hq]
        simp
      · simp only [Array.getD_eq_getD_getElem?, List.getD_eq_getElem?_getD, List.getElem?_toArray, List.getElem?_append, List.length_append, List.length_take, hlen]
        rw [if_pos (by omega), if_neg (by omega)]
        congr 2
        omega
    · have holds : ∀ j u, (cur.toList.take (n * te.sz))[j]? = some u → w.cell? ((⟨g', 0, none⟩ : Addr).add j) = some u := by
        intro j u hj
        rw [List.getElem?_take] at hj
        split at hj
        · rw [addr_add, cell_of_row w g' _ cur e (0, 0) hg]
          simpa using hj
        · cases hj
      have hol : (cur.toList.take (n * te.sz)).length = n * te.sz := by rw [List.length_take, hlen]; omega
      obtain ⟨w', cap', cur', r1, r2, r3, r4, r5, r6, r7, r8⟩ := append_grow (ty := ty) hte ht (.inr ⟨_, rfl, holds⟩) hol hn (by omega) hl hnews hm hb h63
      refine ⟨w', _, cap', cap', cur', r1, r2.mono (fun _ _ h => h.elim), .inl (Nat.le_refl _), r3, r4, r5, Nat.le_refl _, r6, fun q hq => ?_, r8⟩
      rw [r7 q hq]
      simp only [Array.getD_eq_getD_getElem?, List.getD_eq_getElem?_getD, List.getElem?_take, if_pos hq]; simp

theorem srcLen_of {b : Nat} {y : AV} {p : Prop} {ys : List (List C)} (hs : srcOf s b y = some (p, ys)) (hp : p) : copyS.srcLen s y := by
  unfold srcOf at hs
  split at hs
  · trivial
  · trivial
  · rename_i b' m t0
    split at hs
    · rename_i bx hbx
      split at hs
      · simp only [Option.some.injEq, Prod.mk.injEq] at hs
        rw [← hs.1] at hp
        simp only [copyS.srcLen, hbx]; exact hp.1
      · cases hs
    · cases hs
  · rename_i b' m lo hi
    split at hs
    · rename_i bx hbx
      split at hs
      · simp only [Option.some.injEq, Prod.mk.injEq] at hs
        rw [← hs.1] at hp
        simp only [copyS.srcLen, hbx]; exact hp.1
      · cases hs
    · cases hs
  · cases hs

theorem append_zero' {t ty e : Nat} {i : TypeInfo} (ht : P.underlying t = some (.slice e)) (hi : P.info? e = some i) (b : Option Addr) (n cap : Nat) (hle : n ≤ cap) {v' : Value} {x : Option Addr} {c : Nat} (hv : v' = .slice x 0 c) :
    (Builtin.append_ #[t, t] ty #[.slice b n cap, v']).run P w = .ok (.slice b n cap) w := by rw [hv]; exact append_zero ht hi b n cap hle x c

theorem append_ok (ht : TTok P tt) (h : Good X s a w β cp Rd) {d : Option Nat} (hd : dstOK s.nt d) {nid : Nat} (hf : ¬ s.keyed nid) (hnx : nid < s.nx) {t t' ty : Nat} {v v' : Value} {x y : AV} (hx : MA w (X.mt s β Rd) Rd (hOf s β cp) v x)
    (hy : MA w (X.mt s β Rd) Rd (hOf s β cp) v' y) (hp : (appendS tt nid t t' x y s d).1) :
    ∃ u w', (Builtin.append_ #[t, t'] ty #[v, v']).run P w = .ok u w' ∧ ∃ s', (appendS tt nid t t' x y s d).2 s' ∧ Rel X s' (a.put d u) w' := by
  -- a new row that begins with 'es'
  have fresh : ∀ (te : TI) (e : Nat) (es ys : List (List C)) (n : Nat), TIok P e te → n = es.length → pureEs es → pureEs ys → (∀ e ∈ es, e.length = te.sz) → (∀ e ∈ ys, e.length = te.sz) → ∀ (olds news : List Value) (w' : World) (cap' : Nat) (cur' : Array Value),
      Keeps (fun _ => False) w w' → w'.heap[w.heap.size]? = some (.cells cur' e (0, 0)) → cur'.size = cap' * te.sz → n + ys.length ≤ cap' → cap' ≤ maxLen →
      (∀ q, q < n * te.sz → cur'.getD q undef = olds.getD q undef) → (∀ q, q < ys.length * te.sz → cur'.getD (n * te.sz + q) undef = news.getD q undef) →
      (∀ i j e c, es[i]? = some e → e[j]? = some c → MC w (X.mt s β Rd) Rd (hOf s β cp) (olds.getD (i * te.sz + j) undef) c) →
      (∀ i j e c, ys[i]? = some e → e[j]? = some c → MC w (X.mt s β Rd) Rd (hOf s β cp) (news.getD (i * te.sz + j) undef) c) →
      Rel X ((s.setBox nid (some { es := es ++ ys, k := te.sz, ty := e, row := true, fz := false })).put d (.c (.own nid (n + ys.length) false))) (a.put d (.slice (some ⟨w.heap.size, 0, none⟩) (n + ys.length) cap')) w' := by
    rintro te e es ys n hT rfl hpe hpy hes hys olds news w' cap' cur' r2 r3 r4 r5 r6 r7 r8 ho hm
    refine ⟨_, _, _, (h.upd (w' := w') nid ⟨es ++ ys, te.sz, e, true, false⟩ (some w.heap.size) cap' hnx (.inl hf) (r2.mono fun _ _ h => h.elim) (fun x hx => by cases hx; exact .inl (Nat.le_refl _))
      (.inr ⟨_, cur', rfl, r3, r4, by simp; omega, r6, ?_, fun _ => ?_, ?_⟩)).put (by simpa [St.setBox] using hd) ⟨rfl, hOf.mk rfl (St.box_set_same _ _ _) (by simp) fun _ => .inr ⟨_, cap', upd_same _ _ _, rfl, r5, by rw [upd_same]; exact Nat.le_refl _, fun h => by cases h⟩⟩⟩
    · intro el hel
      rcases List.mem_append.1 hel with h1 | h1
      · exact hes el h1
      · exact hys el h1
    · intro el hel
      rcases List.mem_append.1 hel with h1 | h1
      · exact hpe el h1
      · exact hpy el h1
    · intro i j el cc he hc
      simp only [List.getElem?_append] at he
      split at he
      · rename_i hlt
        have hjl := (List.getElem?_eq_some_iff.1 hc).1
        rw [hes el (List.mem_of_getElem? he)] at hjl
        rw [r7 _ (row_lt hlt hjl)]
        exact ho i j el cc he hc
      · rename_i hlt
        have hil := (List.getElem?_eq_some_iff.1 he).1
        have hjl := (List.getElem?_eq_some_iff.1 hc).1
        rw [hys el (List.mem_of_getElem? he)] at hjl
        have hq := row_lt hil hjl
        have e1 : i * te.sz + j = es.length * te.sz + ((i - es.length) * te.sz + j) := by
          rw [← Nat.add_assoc, ← Nat.add_mul]; congr 2; omega
        rw [e1, r8 _ hq]
        exact hm _ j el cc he hc
  -- a new row without an array
  have empty : ∀ (te : TI) (e : Nat) (A : Option Addr), Rel X ((s.setBox nid (some { es := [], k := te.sz, ty := e, row := true, fz := false })).put d (.c (.own nid 0 false))) (a.put d (.slice A 0 0)) w := fun te e A =>
    ⟨_, _, _, (h.upd (w' := w) nid ⟨[], te.sz, e, true, false⟩ none 0 hnx (.inl hf) (Keeps.refl _ w) (fun g hg => by cases hg) (.inl ⟨rfl, rfl, rfl⟩)).put
      (by simpa [St.setBox] using hd) ⟨rfl, hOf.mk rfl (St.box_set_same _ _ _) (Nat.le_refl _) fun _ => .inl ⟨upd_same _ _ _, rfl, _, rfl⟩⟩⟩
  unfold appendS at hp ⊢
  split at hp
  · rename_i ti b n t0 hti
    split at hp
    · rename_i e bx p ys hk hbx hsrc
      split at hp
      · rename_i te hte
        simp only [Res.mk1] at hp ⊢
        obtain ⟨rfl, hpp, hn, hrow, hfz, hbk, hbt, hsz, hys, hbytes, h63⟩ := hp
        have hu := (ht t' ti hti).slice hk
        have hT := ht e te hte
        obtain ⟨i, z, hi, _⟩ := hT.info
        have hbl : b < s.nx := h.fresh b (hx.2.keyed rfl)
        have old' := h.boxes b bx hbx
        have old := old'.two (.inl hrow)
        have hV := hx.2.at rfl hbx hn
        have hple : ∃ A c0, v = .slice A n c0 ∧ n ≤ c0 := by
          rcases hV with ⟨_, rfl, aa, rfl⟩ | ⟨g, c, _, rfl, q, _⟩
          · exact ⟨aa, 0, rfl, Nat.le_refl _⟩
          · exact ⟨_, c, rfl, q⟩
        have same : ys = [] → ∀ x c, v' = .slice x 0 c → ∃ u w', (Builtin.append_ #[t', t'] ty #[v, v']).run P w = .ok u w' ∧ ∃ s', s' = (s.setBox b (some { bx with es := bx.es ++ ys })).put d (.c (.own b (n + ys.length) false)) ∧ Rel X s' (a.put d u) w' := by
          rintro rfl x c hvv
          obtain ⟨A, c0, rfl, hle⟩ := hple
          have hG := h.updM (w' := w) b { bx with es := bx.es ++ [] } (β b) (cp b) hbl (.inr ⟨bx, hbx, fun _ => hfz, .inl ⟨by simp, rfl, rfl, rfl⟩⟩) (Keeps.refl _ w) (fun g hg => .inr ⟨bx, hbx, hg⟩) (by simpa using old')
          refine ⟨_, w, append_zero' hu hi _ _ _ hle hvv, _, rfl, _, _, _, hG.put (x := .c (.own b (n + ([] : List (List C)).length) false)) (by simpa [St.setBox] using hd) ⟨rfl, hOf.mk rfl (St.box_set_same _ _ _) (by simp [hn]) fun _ => ?_⟩⟩
          rw [upd_same, upd_same]
          rcases hV with ⟨q1, q2, aa, q3⟩ | ⟨g, c, q1, q2, q3, q4, _⟩
          · exact .inl ⟨q1, by simp [q2], aa, q2 ▸ q3⟩
          · exact .inr ⟨g, c, q1, by simpa using q2, by simpa using q3, q4, fun h => by cases h⟩
        obtain ⟨hpy, hsrc2⟩ := src_ok h hy hsrc (srcLen_of hsrc hpp) hsz hys
        rcases hsrc2 with ⟨x, c, rfl, hnil⟩ | ⟨ad, c, news, rfl, hl, hnews, hone, hmc⟩
        · exact same hnil x c rfl
        by_cases hm : ys.length = 0
        · exact same (List.eq_nil_of_length_eq_zero hm) _ c (by rw [hm])
        have hrest : ∀ (A : Option Addr) (c0 : Nat) (cur : Array Value), v = .slice A n c0 → ((β b = none ∧ n = 0 ∧ c0 = 0) ∨ ∃ g', β b = some g' ∧ A = some ⟨g', 0, none⟩ ∧ w.heap[g']? = some (.cells cur e (0, 0)) ∧ cur.size = cp b * te.sz ∧ c0 ≤ cp b ∧ cp b ≤ maxLen) → n ≤ c0 →
            (∀ e ∈ bx.es, e.length = te.sz) → (∀ i j e c, bx.es[i]? = some e → e[j]? = some c → MC w (X.mt s β Rd) Rd (hOf s β cp) (cur.getD (i * te.sz + j) undef) c) →
            ∃ u w', (Builtin.append_ #[t', t'] ty #[v, .slice (some ad) ys.length c]).run P w = .ok u w' ∧ ∃ s', s' = (s.setBox b (some { bx with es := bx.es ++ ys })).put d (.c (.own b (n + ys.length) false)) ∧ Rel X s' (a.put d u) w' := by
          intro A c0 cur hvv hbase hnc hes hcells
          have hb2 : ∃ cp0, ((β b = none ∧ n = 0 ∧ c0 = 0) ∨ ∃ g', β b = some g' ∧ A = some ⟨g', 0, none⟩ ∧ w.heap[g']? = some (.cells cur e (0, 0)) ∧ cur.size = cp0 * te.sz) ∧ c0 ≤ cp0 ∧ cp0 ≤ maxLen := by
            rcases hbase with ⟨q1, q2, q3⟩ | ⟨g', q1, q2, q3, q4, q5, q6⟩
            · exact ⟨c0, .inl ⟨q1, q2, q3⟩, Nat.le_refl _, by rw [q3]; simp [maxLen]⟩
            · exact ⟨cp b, .inr ⟨g', q1, q2, q3, q4⟩, q5, q6⟩
          obtain ⟨cp0, hb3, hc0, hcpm⟩ := hb2
          obtain ⟨w', g', c', cp', cur', r1, r2, r3, r4, r5, r6, r7, r10, r8, r9⟩ := append_core (ty := ty) hT hu hb3 hnc hc0 hcpm hl hnews hone (Nat.pos_of_ne_zero hm) hbytes h63
          refine ⟨_, w', by rw [hvv]; exact r1, _, rfl, _, _, _, (h.upd (w' := w') b _ (some g') cp' hbl (.inr ⟨bx, hbx, fun _ => hfz, .inr (by simp; omega)⟩)
            (r2.mono fun x _ hx => ⟨bx, hbx, hfz, hx⟩) (fun x hx => ?_) (.inr ⟨g', cur', rfl, by rw [hbt]; exact r4, by rw [hbk]; exact r5, ?_, r10, ?_, ?_, ?_⟩)).put (by simpa [St.setBox] using hd)
              ⟨rfl, hOf.mk rfl (St.box_set_same _ _ _) (by simp [hn]) fun _ => .inr ⟨g', c', upd_same _ _ _, rfl, r6, by rw [upd_same]; exact r7, fun h => by cases h⟩⟩⟩
          · cases hx
            rcases r3 with h1 | h1
            · exact .inl h1
            · exact .inr ⟨bx, hbx, h1⟩
          · simp; omega
          · intro el hel
            rcases List.mem_append.1 hel with h1 | h1
            · rw [hes el h1]; exact hbk.symm
            · rw [hys el h1]; exact hbk.symm
          · intro _ el hel
            rcases List.mem_append.1 hel with h1 | h1
            · exact old'.pure hrow el h1
            · exact hpy el h1
          · intro i j el cc he hc
            simp only [List.getElem?_append] at he
            simp only [hbk]
            split at he
            · rename_i hlt
              have hjl := (List.getElem?_eq_some_iff.1 hc).1
              rw [hes el (List.mem_of_getElem? he)] at hjl
              rw [r8 _ (by rw [hn]; exact row_lt hlt hjl)]
              exact hcells i j el cc he hc
            · rename_i hlt
              have hil := (List.getElem?_eq_some_iff.1 he).1
              have hjl := (List.getElem?_eq_some_iff.1 hc).1
              rw [hys el (List.mem_of_getElem? he)] at hjl
              have hq := row_lt hil hjl
              have e1 : i * te.sz + j = n * te.sz + ((i - bx.es.length) * te.sz + j) := by
                rw [← Nat.add_assoc, ← Nat.add_mul]; congr 2; omega
              rw [e1, r9 _ hq]
              exact hmc _ j el cc he hc
        rcases old with ⟨h1, h2, h3⟩ | ⟨g, cur, h1, h2, h4, h5, h6, h7, h9, h8⟩
        · rcases hV with ⟨_, q2, aa, q3⟩ | ⟨g, c, q1, _⟩
          · exact hrest aa 0 #[] (q2 ▸ q3) (.inl ⟨h1, q2, rfl⟩) (by omega) (by simp [h2]) (by simp [h2])
          · rw [h1] at q1; cases q1
        · rcases hV with ⟨q1, _⟩ | ⟨g', c, q1, q2, q3, q4, _⟩
          · rw [q1] at h1; cases h1
          · rw [h1] at q1; cases q1
            exact hrest _ c cur q2 (.inr ⟨g, h1, rfl, by rw [← hbt]; exact h2, by rw [← hbk]; exact h4, q4, h6⟩) q3 (by rw [← hbk]; exact h7) (by rw [← hbk]; exact h8)
      · exact hp.elim
    · exact hp.elim
  · rename_i ti hti
    split at hp
    · rename_i e p ys hk hsrc
      split at hp
      · rename_i te hte
        simp only [Res.mk1] at hp ⊢
        obtain ⟨rfl, hpp, hsz, hys, hbytes, h63⟩ := hp
        have hu := (ht t' ti hti).slice hk
        have hT := ht e te hte
        obtain ⟨i, z, hi, _⟩ := hT.info
        cases hx with
        | v _ _ =>
        obtain ⟨hpy, hsrc2⟩ := src_ok h hy hsrc (srcLen_of hsrc hpp) hsz hys
        rcases hsrc2 with ⟨x, c, rfl, hnil⟩ | ⟨ad, c, news, rfl, hl, hnews, hone, hmc⟩
        · subst hnil
          exact ⟨_, w, append_zero hu hi _ _ _ (Nat.le_refl _) _ _, _, rfl, empty te e none⟩
        by_cases hm : ys.length = 0
        · have := List.eq_nil_of_length_eq_zero hm
          subst this
          exact ⟨_, w, append_zero hu hi _ _ _ (Nat.le_refl _) _ _, _, rfl, empty te e none⟩
        obtain ⟨w', cap', cur', r1, r2, r3, r4, r5, r6, r7, r8⟩ := append_grow (ty := ty) (A := none) (n := 0) (cap := 0) (olds := []) hT hu (.inl ⟨rfl, rfl, rfl⟩) (by simp) (Nat.le_refl _) (by omega) hl hnews (Nat.pos_of_ne_zero hm) (by simpa using hbytes) (by simpa using h63)
        refine ⟨_, w', r1, _, rfl, ?_⟩
        have := fresh te e [] ys 0 hT rfl (fun _ h => by simp at h) hpy (by simp) hys [] news w' cap' cur' r2 r3 r4 r5 r6 r7 r8 (by simp) hmc
        simpa using this
      · exact hp.elim
    · exact hp.elim
  · rename_i ti es hti
    split at hp
    · rename_i e p ys hk hsrc
      split at hp
      · rename_i te hte
        simp only [Res.mk1] at hp ⊢
        obtain ⟨rfl, hpp, hsz, hes, hys, hcase, hbytes, h63⟩ := hp
        have hu := (ht t' ti hti).slice hk
        have hT := ht e te hte
        obtain ⟨i, z, hi, _⟩ := hT.info
        obtain ⟨hpy, hsrc2⟩ := src_ok h hy hsrc (srcLen_of hsrc hpp) hsz hys
        have hxs : srcOf s nid (.c (.sl true es)) = some (True, es) := rfl
        obtain ⟨hpe, hold⟩ := src_ok h hx hxs trivial hsz hes
        have hcap : ∃ A, v = .slice A es.length es.length := by
          cases hx with
          | sl _ _ k aa p n cap hn ht' hle hmax hk ha u hc hr => subst hn; rw [ht' rfl]; exact ⟨aa, rfl⟩
        obtain ⟨A, rfl⟩ := hcap
        have zero : ys = [] → ∀ x c, v' = .slice x 0 c → ∃ u w', (Builtin.append_ #[t', t'] ty #[.slice A es.length es.length, v']).run P w = .ok u w' ∧ ∃ s', s' = (s.setBox nid (some { es := es ++ ys, k := te.sz, ty := e, row := true, fz := false })).put d (.c (.own nid (es.length + ys.length) false)) ∧ Rel X s' (a.put d u) w' := by
          rintro rfl x c rfl
          have he : es = [] := hcase.resolve_right (fun h => h rfl)
          subst he
          exact ⟨_, w, append_zero hu hi _ _ _ (Nat.le_refl _) _ _, _, rfl, empty te e A⟩
        rcases hsrc2 with ⟨x, c, rfl, hnil⟩ | ⟨ad, c, news, rfl, hl, hnews, hone, hmc⟩
        · exact zero hnil x c rfl
        by_cases hm : ys.length = 0
        · exact zero (List.eq_nil_of_length_eq_zero hm) _ c (by rw [hm])
        have hold2 : ∃ olds : List Value, ((A = none ∧ es.length = 0 ∧ es.length = 0) ∨ ∃ ad, A = some ad ∧ ∀ j u, olds[j]? = some u → w.cell? (ad.add j) = some u) ∧ olds.length = es.length * te.sz ∧
            ∀ i j e c, es[i]? = some e → e[j]? = some c → MC w (X.mt s β Rd) Rd (hOf s β cp) (olds.getD (i * te.sz + j) undef) c := by
          rcases hold with ⟨x, c', q1, q2⟩ | ⟨ad', c', olds, q1, q2, q3, q4, q5⟩
          · subst q2
            cases A with
            | none => exact ⟨[], .inl ⟨rfl, rfl, rfl⟩, by simp, by simp⟩
            | some x => exact ⟨[], .inr ⟨x, rfl, by simp⟩, by simp, by simp⟩
          · cases q1
            exact ⟨olds, .inr ⟨ad', rfl, q3⟩, q2, q5⟩
        obtain ⟨olds, hA, hol, hom⟩ := hold2
        obtain ⟨w', cap', cur', r1, r2, r3, r4, r5, r6, r7, r8⟩ := append_grow (ty := ty) hT hu hA hol (Nat.le_refl _) (by omega) hl hnews (Nat.pos_of_ne_zero hm) hbytes h63
        exact ⟨_, w', r1, _, rfl, fresh te e es ys _ hT rfl hpe hpy hes hys olds news w' cap' cur' r2 r3 r4 r5 r6 r7 r8 hom hmc⟩
      · exact hp.elim
    · exact hp.elim
  · exact hp.elim
end
end Go.VE
