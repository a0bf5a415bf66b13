/- Contracts of functions of the program vectorraster, each proved for all states that fit its description. No conditions. -/
import Derived.Test.YthphndhiacikaaaDoorT2M0
import Derived.Shelf.Strconv.AtoiAll
set_option linter.unusedSimpArgs false
set_option linter.unusedVariables false
section
set_option maxRecDepth 100000
set_option linter.unusedSimpArgs false
set_option linter.unusedVariables false
namespace Go.Proofs.YthphndhiacikaaaDoor
open Go Go.VE
/-- A row of strings that is read only. -/
theorem row_strings {w : World} {M Rd : Nat → Prop} {H : C → Value → Prop} {v : Value} {l : List ByteArray} (h : MA w M Rd H v (.c (.sl false (l.map sC)))) :
    ∃ a cap, v = .slice a l.length cap ∧ l.length ≤ cap ∧ (l ≠ [] → ∃ bk o, a = some ⟨bk, o, none⟩ ∧ bk < w.heap.size ∧ ∀ (j : Nat) x, l[j]? = some x → w.cell? ⟨bk, o + j, none⟩ = some (.string x)) := by
  cases h with
  | sl _ _ k a p n cap hn ht hle hmax hk ha u hc hr =>
    have hn' : n = l.length := by simpa using hn
    subst hn'
    refine ⟨a, cap, rfl, hle, fun hne => ?_⟩
    obtain ⟨e1, e2, _, e4⟩ := ha (by simpa using hne)
    obtain ⟨bk, off, sp⟩ := p
    simp only at e2 e4
    subst e2
    refine ⟨bk, off, e1, e4, fun j x hj => ?_⟩
    have hk1 : k = 1 := by
      have := hk (sC x) (by simp only [List.mem_map]; exact ⟨x, List.mem_of_getElem? hj, rfl⟩)
      simpa [sC] using this.symm
    subst hk1
    have hg : (l.map sC)[j]? = some (sC x) := by simp [hj]
    have h1 := hc j 0 _ (.v (.string x)) hg rfl
    have h2 := hr j 0 _ (.v (.string x)) hg rfl
    generalize u j 0 = z at h1 h2
    cases h2
    simpa using h1
theorem alloc_cell (w : World) (l : List ByteArray) (t : TypeId) (j : Nat) (x : ByteArray) (h : l[j]? = some x) : (w.alloc (.cells (l.map Value.string).toArray t)).cell? ⟨w.heap.size, j, none⟩ = some (.string x) := by
  unfold World.cell?
  rw [heap_alloc_new]
  simp [h]
theorem keeps_same (w : World) : Keeps (fun _ => False) w w := Keeps.refl _ _
theorem keeps_drewN (w : World) (n : Nat) : Keeps (fun _ => False) w (w.drewN n) := ⟨rfl, rfl, ⟨rfl, trivial⟩, Nat.le_refl _, fun _ _ _ => rfl⟩
theorem keeps_grow (w : World) (k : Nat) (os : Array Obj) : Keeps (fun _ => False) w (Sort.grow (w.drewN k) os) := by
  refine ⟨rfl, rfl, ⟨rfl, trivial⟩, by simp [Sort.grow, World.drewN], fun g hg _ => ?_⟩
  show (w.heap ++ os)[g]? = _
  rw [Array.getElem?_append_left hg]
theorem keeps_alloc (w : World) (ob : Obj) : Keeps (fun _ => False) w (w.alloc ob) := by
  refine ⟨rfl, rfl, ⟨rfl, trivial⟩, by simp, fun g hg _ => ?_⟩
  show (w.heap.push ob)[g]? = _
  simp [Array.getElem?_push, Nat.ne_of_lt hg]
def spItoa_A : Int → List AV
  | n => [I n]
def spItoa_pre : Int → Prop
  | n => -9223372036854775808 ≤ n ∧ n ≤ 9223372036854775807
def spItoa_post : Int → AV → List Box → Prop
  | n, r, bs => r = .c (.v (.string (mkB (Lib.itoa n)))) ∧ bs = []
def spItoa : VE.Spec := famSpec spItoa_A d_i spItoa_pre spItoa_post 0 true
theorem spItoa_q : spItoa.flat = true ∧ spItoa.mt = [] ∧ spItoa.shut = false ∧ spItoa.cost = 0 ∧ (∀ a i, spItoa.pre a i = (i = [] ∧ famPre d_i spItoa_A spItoa_pre a)) ∧ ∀ a i r b, spItoa.post a i r b = (famPost d_i spItoa_post a r b) := ⟨rfl, rfl, rfl, rfl, fun _ _ => rfl, fun _ _ _ _ => rfl⟩
theorem sat_strconv_Itoa_0 : Sat Tryd.prog rt0 22 spItoa := by
  refine sat_calm (fun a i h => h.1) fun w Av Rd pk args vs β0 cp0 T hpre => ?_
  obtain ⟨n, rfl, hp, hdec⟩ := famPre_ex hpre.2
  have hG := T.glob.1
  have hq : ∀ r, spItoa_post n r [] → (spItoa).post (spItoa_A n) [] r [] := fun r h => by
    show famPost d_i spItoa_post (spItoa_A n) r []
    unfold famPost
    rw [hdec]
    exact h
  have e := args1 T.size (arg_v (T.args 0 _ rfl))
  subst e
  refine (Tryd.strconv_Itoa n hp.1 hp.2 w hG.2.2.2).mono ?_
  rintro e w' ⟨rfl, k, os, rfl⟩
  exact ⟨_, _, rfl, hq _ ⟨rfl, rfl⟩, keeps_grow w k os, fun M Rd H _ => RC.v _ rfl⟩
theorem sat_strconv_Itoa : Sat Tryd.prog rt0 22 (wkIn spItoa) := sat_in sat_strconv_Itoa_0
def spJoinS_A : (List ByteArray) × ByteArray → List AV
  | (l, z) => [.c (.sl false (l.map sC)), .c (.v (.string z))]
def spJoinS_pre : (List ByteArray) × ByteArray → Prop
  | (l, z) => l.length ≤ 1000000 ∧ z = ⟨#[32]⟩ ∧ (Lib.join (l.map tx) [32]).length ≤ 1000000000
def spJoinS_post : (List ByteArray) × ByteArray → AV → List Box → Prop
  | (l, z), r, bs => r = .c (.v (.string (mkB (Lib.join (l.map tx) [32])))) ∧ bs = []
def spJoinS : VE.Spec := famSpec spJoinS_A d_ls_s spJoinS_pre spJoinS_post 0 true
theorem spJoinS_q : spJoinS.flat = true ∧ spJoinS.mt = [] ∧ spJoinS.shut = false ∧ spJoinS.cost = 0 ∧ (∀ a i, spJoinS.pre a i = (i = [] ∧ famPre d_ls_s spJoinS_A spJoinS_pre a)) ∧ ∀ a i r b, spJoinS.post a i r b = (famPost d_ls_s spJoinS_post a r b) := ⟨rfl, rfl, rfl, rfl, fun _ _ => rfl, fun _ _ _ _ => rfl⟩
theorem sat_strings_Join_0 : Sat Tryd.prog rt0 23 spJoinS := by
  refine sat_calm (fun a i h => h.1) fun w Av Rd pk args vs β0 cp0 T hpre => ?_
  obtain ⟨⟨l, z⟩, rfl, hp, hdec⟩ := famPre_ex hpre.2
  have hG := T.glob.1
  have hq : ∀ r, spJoinS_post (l, z) r [] → (spJoinS).post (spJoinS_A (l, z)) [] r [] := fun r h => by
    show famPost d_ls_s spJoinS_post (spJoinS_A (l, z)) r []
    unfold famPost
    rw [hdec]
    exact h
  obtain ⟨h1, rfl, h2⟩ := hp
  obtain ⟨a, cap, hv, hcap, hrow⟩ := row_strings (T.args 0 _ rfl)
  have e := args2 T.size hv (arg_v (T.args 1 _ rfl))
  subst e
  cases l with
  | nil =>
    refine (Tryd.strings_Join_none a cap ⟨#[32]⟩ w).mono ?_
    rintro e w' ⟨rfl, rfl⟩
    exact ⟨_, _, rfl, hq _ ⟨rfl, rfl⟩, keeps_same _, fun M Rd H _ => RC.v _ rfl⟩
  | cons x r =>
    obtain ⟨bk, o, rfl, hlt, hc⟩ := hrow (by simp)
    refine (Tryd.strings_Join bk o cap (x :: r) ⟨#[32]⟩ w hc hlt (by omega) hcap (by
      have : (Lib.join ((x :: r).map tx) [32]).length ≤ 1000000000 := h2
      exact Nat.le_trans this (by decide))).mono ?_
    rintro e w' ⟨rfl, hb⟩
    exact ⟨_, _, rfl, hq _ ⟨rfl, rfl⟩, keeps_below hb, fun M Rd H _ => RC.v _ rfl⟩
theorem sat_strings_Join : Sat Tryd.prog rt0 23 (wkIn spJoinS) := sat_in sat_strings_Join_0
def spSplitW_A : ByteArray × ByteArray → List AV
  | (x, z) => [.c (.v (.string x)), .c (.v (.string z))]
def spSplitW_pre : ByteArray × ByteArray → Prop
  | (x, z) => x.size < 4294967281 ∧ z = ⟨#[32]⟩
def spSplitW_post : ByteArray × ByteArray → AV → List Box → Prop
  | (x, z), r, bs => ∃ L : List ByteArray, L.map tx = spl 32 (tx x) ∧ r = .c (.sl false (L.map sC)) ∧ bs = []
def spSplitW : VE.Spec := famSpecS spSplitW_A d_s_s spSplitW_pre spSplitW_post 0 true
theorem spSplitW_q : spSplitW.flat = true ∧ spSplitW.mt = [] ∧ spSplitW.shut = true ∧ spSplitW.cost = 0 ∧ (∀ a i, spSplitW.pre a i = (i = [] ∧ famPre d_s_s spSplitW_A spSplitW_pre a)) ∧ ∀ a i r b, spSplitW.post a i r b = (famPost d_s_s spSplitW_post a r b) := ⟨rfl, rfl, rfl, rfl, fun _ _ => rfl, fun _ _ _ _ => rfl⟩
theorem sat_strings_Split_0 : Sat Tryd.prog rt0 29 spSplitW := by
  refine sat_calm (fun a i h => h.1) fun w Av Rd pk args vs β0 cp0 T hpre => ?_
  obtain ⟨⟨x, z⟩, rfl, hp, hdec⟩ := famPre_ex hpre.2
  have hG := T.glob.1
  have hq : ∀ r, spSplitW_post (x, z) r [] → (spSplitW).post (spSplitW_A (x, z)) [] r [] := fun r h => by
    show famPost d_s_s spSplitW_post (spSplitW_A (x, z)) r []
    unfold famPost
    rw [hdec]
    exact h
  obtain ⟨h1, rfl⟩ := hp
  have e := args2 T.size (arg_v (T.args 0 _ rfl)) (arg_v (T.args 1 _ rfl))
  subst e
  obtain ⟨m, hm⟩ := hG.1
  refine (Tryd.strings_Split x ⟨#[32]⟩ m w h1 hm (Nat.le_refl _)).mono ?_
  rintro e w' ⟨rfl, rfl⟩
  have hl : (Lib.splitB ⟨#[32]⟩ 0 (Lib.countB x ⟨#[32]⟩) x).length = Lib.countB x ⟨#[32]⟩ + 1 := Lib.splitB_all _ (Nat.le_refl _) 0 _ x rfl
  rw [splitB_words] at hl
  have hc : Lib.countB x ⟨#[32]⟩ ≤ x.size := Lib.countB_le _ (Nat.le_refl _) _ x (Nat.le_refl _)
  refine ⟨_, .c (.sl false (((spl 32 (tx x)).map mkB).map sC)), rfl, hq _ ⟨(spl 32 (tx x)).map mkB, (by rw [List.map_map]; exact List.map_id' _), rfl, rfl⟩, keeps_alloc _ _, fun M Rd H hM => ?_⟩
  rw [splitB_words]
  generalize (spl 32 (tx x)).map mkB = L at hl ⊢
  rw [← hl]
  refine RC.sl false (L.map sC) 1 _ ⟨w.heap.size, 0, none⟩ _ _ (by simp) (fun h => by cases h) (Nat.le_refl _) (by unfold maxLen; omega) (fun e he => ?_) (fun _ => ⟨rfl, rfl, fun h => absurd (hM _ h) (Nat.lt_irrefl _), by simp⟩) (fun i j => .string (L.getD i default)) (fun i j e c he hc => ?_) (fun i j e c he hc => ?_)
  · simp only [List.mem_map] at he
    obtain ⟨y, _, rfl⟩ := he
    rfl
  · simp only [List.getElem?_map, Option.map_eq_some_iff] at he
    obtain ⟨y, hy, rfl⟩ := he
    have hj : j = 0 := by have := (List.getElem?_eq_some_iff.1 hc).1; simpa [sC] using this
    subst hj
    simp only [Nat.mul_one, Nat.add_zero, Nat.zero_add]
    rw [List.getD_eq_getElem?_getD, hy]
    exact alloc_cell w L _ i y hy
  · simp only [List.getElem?_map, Option.map_eq_some_iff] at he
    obtain ⟨y, hy, rfl⟩ := he
    have hj : j = 0 := by have := (List.getElem?_eq_some_iff.1 hc).1; simpa [sC] using this
    subst hj
    simp only [sC, List.getElem?_cons_zero, Option.some.injEq] at hc
    subst hc
    simp only [List.getD_eq_getElem?_getD, hy, Option.getD_some]
    exact RC.v _ rfl
theorem sat_strings_Split : Sat Tryd.prog rt0 29 (wkIn spSplitW) := sat_in sat_strings_Split_0
def spIndexS_A : ByteArray × ByteArray → List AV
  | (x, z) => [.c (.v (.string x)), .c (.v (.string z))]
def spIndexS_pre : ByteArray × ByteArray → Prop
  | (x, z) => x.size < 4294967281
def spIndexS_post : ByteArray × ByteArray → AV → List Box → Prop
  | (x, z), r, bs => r = I (Lib.index (tx x) (tx z)) ∧ bs = []
def spIndexS : VE.Spec := famSpec spIndexS_A d_s_s spIndexS_pre spIndexS_post 0 true
theorem spIndexS_q : spIndexS.flat = true ∧ spIndexS.mt = [] ∧ spIndexS.shut = false ∧ spIndexS.cost = 0 ∧ (∀ a i, spIndexS.pre a i = (i = [] ∧ famPre d_s_s spIndexS_A spIndexS_pre a)) ∧ ∀ a i r b, spIndexS.post a i r b = (famPost d_s_s spIndexS_post a r b) := ⟨rfl, rfl, rfl, rfl, fun _ _ => rfl, fun _ _ _ _ => rfl⟩
theorem sat_strings_Index_0 : Sat Tryd.prog rt0 30 spIndexS := by
  refine sat_calm (fun a i h => h.1) fun w Av Rd pk args vs β0 cp0 T hpre => ?_
  obtain ⟨⟨x, z⟩, rfl, hp, hdec⟩ := famPre_ex hpre.2
  have hG := T.glob.1
  have hq : ∀ r, spIndexS_post (x, z) r [] → (spIndexS).post (spIndexS_A (x, z)) [] r [] := fun r h => by
    show famPost d_s_s spIndexS_post (spIndexS_A (x, z)) r []
    unfold famPost
    rw [hdec]
    exact h
  have e := args2 T.size (arg_v (T.args 0 _ rfl)) (arg_v (T.args 1 _ rfl))
  subst e
  obtain ⟨m, hm⟩ := hG.1
  refine (Tryd.strings_Index x z m w hp hm).mono ?_
  rintro e w' ⟨rfl, rfl⟩
  exact ⟨_, _, rfl, hq _ ⟨rfl, rfl⟩, keeps_same _, fun M Rd H _ => RC.v _ rfl⟩
theorem sat_strings_Index : Sat Tryd.prog rt0 30 (wkIn spIndexS) := sat_in sat_strings_Index_0
def spCutS_A : ByteArray × ByteArray → List AV
  | (x, z) => [.c (.v (.string x)), .c (.v (.string z))]
def spCutS_pre : ByteArray × ByteArray → Prop
  | (x, z) => x.size < 4294967281
def spCutS_post : ByteArray × ByteArray → AV → List Box → Prop
  | (x, z), r, bs => r = .tup [.c (.v (.string (mkB (Lib.cut (tx x) (tx z)).1))), .c (.v (.string (mkB (Lib.cut (tx x) (tx z)).2.1))), B ((Lib.cut (tx x) (tx z)).2.2)] ∧ bs = []
def spCutS : VE.Spec := famSpec spCutS_A d_s_s spCutS_pre spCutS_post 0 true
theorem spCutS_q : spCutS.flat = true ∧ spCutS.mt = [] ∧ spCutS.shut = false ∧ spCutS.cost = 0 ∧ (∀ a i, spCutS.pre a i = (i = [] ∧ famPre d_s_s spCutS_A spCutS_pre a)) ∧ ∀ a i r b, spCutS.post a i r b = (famPost d_s_s spCutS_post a r b) := ⟨rfl, rfl, rfl, rfl, fun _ _ => rfl, fun _ _ _ _ => rfl⟩
theorem sat_strings_Cut_0 : Sat Tryd.prog rt0 31 spCutS := by
  refine sat_calm (fun a i h => h.1) fun w Av Rd pk args vs β0 cp0 T hpre => ?_
  obtain ⟨⟨x, z⟩, rfl, hp, hdec⟩ := famPre_ex hpre.2
  have hG := T.glob.1
  have hq : ∀ r, spCutS_post (x, z) r [] → (spCutS).post (spCutS_A (x, z)) [] r [] := fun r h => by
    show famPost d_s_s spCutS_post (spCutS_A (x, z)) r []
    unfold famPost
    rw [hdec]
    exact h
  have e := args2 T.size (arg_v (T.args 0 _ rfl)) (arg_v (T.args 1 _ rfl))
  subst e
  obtain ⟨m, hm⟩ := hG.1
  refine (Tryd.strings_Cut x z m w hp hm).mono ?_
  rintro e w' ⟨rfl, n, rfl⟩
  refine ⟨_, _, rfl, hq _ ⟨rfl, rfl⟩, keeps_drewN w n, fun M Rd H _ => ⟨_, rfl, rfl, fun j x hj => ?_⟩⟩
  match j, hj with
  | 0, hj => cases hj; exact RC.v _ rfl
  | 1, hj => cases hj; exact RC.v _ rfl
  | 2, hj => cases hj; exact RC.v _ rfl
  | j + 3, hj => simp at hj
theorem sat_strings_Cut : Sat Tryd.prog rt0 31 (wkIn spCutS) := sat_in sat_strings_Cut_0
def spAtoi_A : ByteArray → List AV
  | x => [.c (.v (.string x))]
def spAtoi_pre : ByteArray → Prop
  | x => x.size ≤ 281474976710656
def spAtoi_post : ByteArray → AV → List Box → Prop
  | x, r, bs => (∃ n, Lib.atoiAll (tx x) = .ok n ∧ r = .tup [I n, .c (.v .nilIface)] ∧ bs = []) ∨ ((∀ n, Lib.atoiAll (tx x) ≠ .ok n) ∧ ∃ n t p, r = .tup [I n, .c (.v (.iface t p))] ∧ bs = [])
def spAtoi : VE.Spec := famSpec spAtoi_A d_s spAtoi_pre spAtoi_post 0 true
theorem spAtoi_q : spAtoi.flat = true ∧ spAtoi.mt = [] ∧ spAtoi.shut = false ∧ spAtoi.cost = 0 ∧ (∀ a i, spAtoi.pre a i = (i = [] ∧ famPre d_s spAtoi_A spAtoi_pre a)) ∧ ∀ a i r b, spAtoi.post a i r b = (famPost d_s spAtoi_post a r b) := ⟨rfl, rfl, rfl, rfl, fun _ _ => rfl, fun _ _ _ _ => rfl⟩
theorem sat_strconv_Atoi_0 : Sat Tryd.prog rt0 32 spAtoi := by
  refine sat_calm (fun a i h => h.1) fun w Av Rd pk args vs β0 cp0 T hpre => ?_
  obtain ⟨x, rfl, hp, hdec⟩ := famPre_ex hpre.2
  have hG := T.glob.1
  have hq : ∀ r, spAtoi_post x r [] → (spAtoi).post (spAtoi_A x) [] r [] := fun r h => by
    show famPost d_s spAtoi_post (spAtoi_A x) r []
    unfold famPost
    rw [hdec]
    exact h
  have e := args1 T.size (arg_v (T.args 0 _ rfl))
  subst e
  have hp' : x.size ≤ 281474976710656 := hp
  have two : ∀ (w' : World) (n : Int) (e : Value), e.oneCell' = true → ∀ (M Rd : Nat → Prop) (H : C → Value → Prop), MA w' M Rd H (.tuple #[.int .i64 n, e]) (.tup [I n, .c (.v e)]) := by
    intro w' n e he M Rd H
    refine ⟨_, rfl, rfl, fun j x hj => ?_⟩
    match j, hj with
    | 0, hj => cases hj; exact RC.v _ rfl
    | 1, hj => cases hj; exact RC.v _ he
    | j + 2, hj => simp at hj
  rcases ha : Lib.atoiAll (tx x) with n | _ | _
  · refine (show Calls Tryd.prog 32 #[.string x] w _ from Any.strconv_Atoi_ok Tryd.laysC172 x (by omega) n ha w).mono ?_
    rintro e w' ⟨rfl, hw⟩
    refine ⟨_, .tup [I n, .c (.v .nilIface)], rfl, hq _ (.inl ⟨n, ha, rfl, rfl⟩), ?_, fun M Rd H _ => two _ _ _ rfl M Rd H⟩
    rcases hw with rfl | ⟨t, rfl⟩
    · exact keeps_same _
    · refine ⟨rfl, rfl, ⟨rfl, trivial⟩, ?_, fun g hg _ => ?_⟩
      · simp [Lib.bytesWorld, World.freeze]
      · simp only [Lib.bytesWorld, World.freeze, Nat.one_ne_zero, if_false]
        rw [Array.getElem?_modify, if_neg (by show ¬ w.heap.size = g; omega)]
        show (w.heap.push _)[g]? = _
        simp [Array.getElem?_push, Nat.ne_of_lt hg]
  · obtain ⟨ev, hv, hev⟩ := hG.2.1
    refine (show Calls Tryd.prog 32 #[.string x] w _ from Any.strconv_Atoi_syntax Tryd.laysC172 x hp' ha ev w hv hev).mono ?_
    rintro e w' ⟨N, rfl, _, _, hb⟩
    exact ⟨_, .tup [I _, .c (.v (.iface _ _))], rfl, hq _ (.inr ⟨fun n h => (by rw [ha] at h; cases h), _, _, _, rfl, rfl⟩), keeps_below hb, fun M Rd H _ => two _ _ _ rfl M Rd H⟩
  · obtain ⟨ev, hv, hev⟩ := hG.2.2.1
    refine (show Calls Tryd.prog 32 #[.string x] w _ from Any.strconv_Atoi_range Tryd.laysC172 x hp' ha ev w hv hev).mono ?_
    rintro e w' ⟨N, rfl, _, _, hb⟩
    exact ⟨_, .tup [I _, .c (.v (.iface _ _))], rfl, hq _ (.inr ⟨fun n h => (by rw [ha] at h; cases h), _, _, _, rfl, rfl⟩), keeps_below hb, fun M Rd H _ => two _ _ _ rfl M Rd H⟩
theorem sat_strconv_Atoi : Sat Tryd.prog rt0 32 (wkIn spAtoi) := sat_in sat_strconv_Atoi_0
end Go.Proofs.YthphndhiacikaaaDoor
end
