/- A part of the engine: what operations do to described states, proved sound against the model. No conditions. -/
import Derived.Test.YtofelomoieamoaaW4
import Derived.WalkSpells
set_option linter.unusedSimpArgs false
set_option linter.unusedVariables false
namespace Go.VE
open Go

theorem wrap_in {k : IntKind} {n : Int} (h : InR k n) : k.wrap n = n := by
  cases k <;> first | exact h.elim | exact IntWalk.i64_in n h | exact IntWalk.i32_in n h | exact IntWalk.u8_in n h | exact IntWalk.u64_in n h

theorem toList_beq (b c : ByteArray) : (b.toList == c.toList) = decide (b = c) := by
  rw [ByteArray.toList_eq, ByteArray.toList_eq]
  by_cases h : b = c
  · subst h; simp
  · have : ¬ b.data.toList = c.data.toList := fun e => h (by cases b; cases c; simp only [ByteArray.mk.injEq]; exact Array.ext' e)
    rw [decide_eq_false h]
    exact beq_eq_false_iff_ne.2 this

theorem ints_map : ∀ cs : List C, ints cs → ∃ as : List Int, cs = as.map fun a => .v (.int .i64 a)
  | [], _ => ⟨[], rfl⟩
  | .v (.int .i64 a) :: r, h => by
    obtain ⟨as, rfl⟩ := ints_map r h
    exact ⟨a :: as, rfl⟩

theorem ieq_map : ∀ as bs : List Int, as.length = bs.length → ieq (as.map fun a => .v (.int .i64 a)) (bs.map fun a => .v (.int .i64 a)) = decide (as = bs)
  | [], [], _ => rfl
  | a :: as, b :: bs, h => by
    simp only [List.map_cons, ieq, ieq_map as bs (by simpa using h), List.cons.injEq, Bool.decide_and]
  | [], _ :: _, h => by simp at h
  | _ :: _, [], h => by simp at h

section
variable {P : Program} {tt : Nat → Option TI} {X : Cx} {s : St} {a : Act} {w : World} {β : Nat → Option Nat} {cp : Nat → Nat} {Rd : Nat → Prop}

theorem MCs.ints {Mt Rd : Nat → Prop} {H : C → Value → Prop} {arr : Array Value} {as : List Int}
    (h : MCs w Mt Rd H arr (as.map fun a => .v (.int .i64 a))) : arr = (as.map (Value.int .i64)).toArray := by
  apply Array.ext
  · simpa using h.1
  · intro i h1 h2
    have hi : i < as.length := by simpa using h2
    have := h.2 i (.v (.int .i64 as[i])) (by simp [hi])
    have e : arr.getD i undef = arr[i] := by simp [h1]
    rw [e] at this
    cases hx : arr[i] <;> rw [hx] at this <;> cases this
    simp

theorem xor_ok (w : World) (a b : Int) (ha : 0 ≤ a) (hb : 0 ≤ b) (ha2 : a ≤ 9223372036854775807) (hb2 : b ≤ 9223372036854775807) : (Op.intBits .xor .i64 a b).run P w = .ok (.int .i64 ((a.toNat ^^^ b.toNat : Nat) : Int)) w := by
  obtain ⟨m, rfl⟩ := Int.eq_ofNat_of_zero_le ha
  obtain ⟨n, rfl⟩ := Int.eq_ofNat_of_zero_le hb
  have hm : m < 2 ^ 63 := by omega
  have hn : n < 2 ^ 63 := by omega
  have hx : m ^^^ n < 2 ^ 63 := Nat.xor_lt_two_pow hm hn
  have e : (BitVec.ofInt 64 (m : Int) ^^^ BitVec.ofInt 64 (n : Int)).toNat = m ^^^ n := by
    rw [BitVec.toNat_xor]
    have h1 : (BitVec.ofInt 64 (m : Int)).toNat = m := by
      rw [BitVec.toNat_ofInt]; omega
    have h2 : (BitVec.ofInt 64 (n : Int)).toNat = n := by
      rw [BitVec.toNat_ofInt]; omega
    rw [h1, h2]
  unfold Op.intBits
  simp only [Int.toNat_natCast]
  show Sem.run P (pure (Value.int .i64 (IntKind.i64.wrap ((BitVec.ofInt 64 (m : Int) ^^^ BitVec.ofInt 64 (n : Int)).toNat : Int)))) w = _
  rw [e, wrap_in (k := .i64) ⟨by omega, by omega⟩]
  rfl

theorem and_ok (w : World) (k : IntKind) (hk : k = .u64 ∨ k = .i64) (a b : Int) (ha : 0 ≤ a) (hb : 0 ≤ b) (ha2 : a ≤ 9223372036854775807) (hb2 : b ≤ 9223372036854775807) : (Op.intBits .and k a b).run P w = .ok (.int k ((a.toNat &&& b.toNat : Nat) : Int)) w := by
  obtain ⟨m, rfl⟩ := Int.eq_ofNat_of_zero_le ha
  obtain ⟨n, rfl⟩ := Int.eq_ofNat_of_zero_le hb
  have hm : m < 2 ^ 63 := by omega
  have hn : n < 2 ^ 63 := by omega
  have hx : m &&& n < 2 ^ 63 := Nat.lt_of_le_of_lt Nat.and_le_left hm
  have e : (BitVec.ofInt 64 (m : Int) &&& BitVec.ofInt 64 (n : Int)).toNat = m &&& n := by
    rw [BitVec.toNat_and]
    have h1 : (BitVec.ofInt 64 (m : Int)).toNat = m := by
      rw [BitVec.toNat_ofInt]; omega
    have h2 : (BitVec.ofInt 64 (n : Int)).toNat = n := by
      rw [BitVec.toNat_ofInt]; omega
    rw [h1, h2]
  rcases hk with rfl | rfl
  · unfold Op.intBits
    simp only [Int.toNat_natCast]
    show Sem.run P (pure (Value.int .u64 (IntKind.u64.wrap ((BitVec.ofInt 64 (m : Int) &&& BitVec.ofInt 64 (n : Int)).toNat : Int)))) w = _
    rw [e, wrap_in (k := .u64) ⟨by omega, by omega⟩]
    rfl
  · unfold Op.intBits
    simp only [Int.toNat_natCast]
    show Sem.run P (pure (Value.int .i64 (IntKind.i64.wrap ((BitVec.ofInt 64 (m : Int) &&& BitVec.ofInt 64 (n : Int)).toNat : Int)))) w = _
    rw [e, wrap_in (k := .i64) ⟨by omega, by omega⟩]
    rfl
theorem shr_ok (w : World) (k : IntKind) (hk : k = .u64 ∨ k = .i64) (a b : Int) (hb : 0 ≤ b) (hb2 : b ≤ 63) : (Op.shift .shr k a k b).run P w = .ok (.int k (a / ((2 ^ b.toNat : Nat) : Int))) w := by
  have h1 : min b.toNat k.bits = b.toNat := by
    have : k.bits = 64 := by rcases hk with rfl | rfl <;> rfl
    omega
  unfold Op.shift
  rw [if_neg (by omega), h1]
  show Sem.run P (pure (Value.int k (a.fdiv (2 ^ b.toNat)))) w = _
  have h2 : a.fdiv (2 ^ b.toNat) = a / ((2 ^ b.toNat : Nat) : Int) := by
    rw [Int.fdiv_eq_ediv_of_nonneg _ (Int.pow_nonneg (by omega))]
    simp
  rw [h2]
  rfl

theorem arith_ok (w : World) (op : BinOp) (t : Nat) (x y : Operand) (k : IntKind) (m n : Int) (hp : (arith op k m n).1) :
    (do eqGuard op t x y (.int k m) (.int k n); binOp op t (.int k m) (.int k n) : Sem Value).run P w = .ok (arith op k m n).2 w := by
  rw [eqGuard_at_int]
  cases op <;> simp only [arith] at hp ⊢ <;> simp only [binOp, Sem.run_bind, Sem.run_pure, Result.andThen_ok]
  case add => simp [Op.intArith, wrap_in hp]
  case sub => simp [Op.intArith, wrap_in hp]
  case mul => simp [Op.intArith, wrap_in hp]
  case quo => simp [Op.intDiv, hp.1, wrap_in hp.2]
  case rem => simp [Op.intDiv, hp]
  case eql => simp [Op.intCmp]; rfl
  case neq => simp [Op.intCmp]; rfl
  case lss => simp [Op.intCmp]
  case leq => simp [Op.intCmp]
  case gtr => simp [Op.intCmp]
  case geq => simp [Op.intCmp]
  case xor =>
    obtain ⟨rfl, h1, h2, h3, h4⟩ := hp
    exact xor_ok w m n h1 h2 h3 h4
  case and =>
    obtain ⟨h0, h1, h2, h3, h4⟩ := hp
    rw [if_neg (by simp)]
    exact and_ok w k h0 m n h1 h2 h3 h4
  case shr =>
    obtain ⟨h0, h1, h2⟩ := hp
    exact shr_ok w k h0 m n h1 h2
  all_goals exact hp.elim

theorem isNil_ok (ht : TTok P tt) (h : Good X s a w β cp Rd) {d : Option Nat} (hd : dstOK s.nt d) {op : BinOp} {t : Nat} {ox oy : Operand} {aa : Option Addr} {n c : Nat} {p : Prop} (hpa : p → aa ≠ none) (hp : (isNilS tt op t p s d).1) :
    ∃ u, (∀ w, (do eqGuard op t ox oy (.slice aa n c) (.slice none 0 0); binOp op t (.slice aa n c) (.slice none 0 0) : Sem Value).run P w = .ok u w) ∧ ∃ s', (isNilS tt op t p s d).2 s' ∧ Good X s' (a.put d u) w β cp Rd := by
  unfold isNilS at hp ⊢
  have key : p → aa.isNone = false := fun hh => by
    cases aa with
    | none => exact absurd rfl (hpa hh)
    | some x => rfl
  split at hp
  · rename_i e hk
    simp only [Option.map_eq_some_iff] at hk
    obtain ⟨ti, hti, hk⟩ := hk
    refine ⟨_, fun w => ?_, _, ⟨aa.isNone, key, rfl⟩, h.put hd (RC.v _ rfl)⟩
    rw [eqGuard_at_slice]
    exact Lib.run_eql_slice_nil w t e aa n c 0 0 ((ht t ti hti).slice hk)
  · rename_i e hk
    simp only [Option.map_eq_some_iff] at hk
    obtain ⟨ti, hti, hk⟩ := hk
    refine ⟨_, fun w => ?_, _, ⟨aa.isNone, key, rfl⟩, h.put hd (RC.v _ rfl)⟩
    rw [eqGuard_at_slice]
    exact run_neq_slice_nil_any w t e aa n c 0 0 ((ht t ti hti).slice hk)
  · exact hp.elim

theorem bin_ok (ht : TTok P tt) (h : Good X s a w β cp Rd) {d : Option Nat} (hd : dstOK s.nt d) {op : BinOp} {t : Nat} {ox oy : Operand} {v v' : Value} {x y : AV} (hx : MA w (X.mt s β Rd) Rd (hOf s β cp) v x)
    (hy : MA w (X.mt s β Rd) Rd (hOf s β cp) v' y) (hp : (binS tt op t x y s d).1) :
    ∃ u, (∀ w, (do eqGuard op t ox oy v v'; binOp op t v v' : Sem Value).run P w = .ok u w) ∧ ∃ s', (binS tt op t x y s d).2 s' ∧ Good X s' (a.put d u) w β cp Rd := by
  unfold binS at hp ⊢
  split at hp
  · simp only [Res.mk1] at hp ⊢
    obtain ⟨rfl, hp⟩ := hp
    cases hx with
    | v _ _ => cases hy with
      | v _ _ =>
        refine ⟨_, fun w => arith_ok w op t ox oy _ _ _ hp, _, rfl, h.put hd (RC.v _ ?_)⟩
        cases op <;> rfl
  · rename_i b c
    have hb : ∀ ti, tt t = some ti → ti.kind = .bool → P.underlying t = some .bool := by
      intro ti hti hk
      obtain ⟨dd, hu, hdk⟩ := (ht t ti hti).und
      rw [hk] at hdk
      cases dd <;> first | exact hdk.elim | exact hu
    cases hx with
    | v _ _ => cases hy with
      | v _ _ =>
        cases op <;> simp only at hp ⊢ <;> (try exact hp.elim)
        · simp only [Res.mk1, Option.map_eq_some_iff] at hp ⊢
          obtain ⟨ti, h1, h2⟩ := hp
          exact ⟨_, by intro w; rw [eqGuard_at_bool]; simp [run_eql_bool w t b c (hb ti h1 h2)], _, rfl, h.put hd (RC.v _ rfl)⟩
        · simp only [Res.mk1, Option.map_eq_some_iff] at hp ⊢
          obtain ⟨ti, h1, h2⟩ := hp
          exact ⟨_, by intro w; rw [eqGuard_at_bool]; simp [run_neq_bool w t b c (hb ti h1 h2)], _, rfl, h.put hd (RC.v _ rfl)⟩
  · rename_i b c
    cases hx with
    | v _ _ => cases hy with
      | v _ _ =>
        cases op <;> simp only at hp ⊢ <;> (try exact hp.elim)
        · simp only [Res.mk1] at hp ⊢
          exact ⟨_, by intro w; rw [eqGuard_at_string]; simp only [binOp, Sem.run_bind, Sem.run_pure, Result.andThen_ok]; exact run_string_add_sum w b c (by omega), _, rfl, h.put hd (RC.v _ rfl)⟩
        · simp only [Res.mk1] at hp ⊢
          refine ⟨.bool (decide (b = c)), ?_, _, rfl, h.put hd (RC.v _ rfl)⟩
          intro w
          rw [eqGuard_at_string]
          simp only [binOp, Sem.run_bind, Sem.run_pure, Result.andThen_ok]
          simp [Op.stringOp, toList_beq]
        · simp only [Res.mk1] at hp ⊢
          refine ⟨.bool (!decide (b = c)), ?_, _, rfl, h.put hd (RC.v _ rfl)⟩
          intro w
          rw [eqGuard_at_string]
          simp only [binOp, Sem.run_bind, Sem.run_pure, Result.andThen_ok]
          simp [Op.stringOp, toList_beq]
  · rename_i cs ds
    have key : (tt t).map (fun i => (i.eq, i.sz)) = some (true, cs.length) ∧ ds.length = cs.length ∧ ints cs ∧ ints ds →
        (∀ w, (eqGuard op t ox oy v v').run P w = .ok () w ∧ (Op.equalIn 10000 t v v').run P w = .ok (ieq cs ds) w) ∧ ∃ xs ys, v = .agg xs ∧ v' = .agg ys := by
      rintro ⟨h1, h2, h3, h4⟩
      simp only [Option.map_eq_some_iff, Prod.mk.injEq] at h1
      obtain ⟨ti, hti, he, hs⟩ := h1
      obtain ⟨as, rfl⟩ := ints_map cs h3
      obtain ⟨bs, rfl⟩ := ints_map ds h4
      obtain ⟨xs, rfl, hxs⟩ := hx
      obtain ⟨ys, rfl, hys⟩ := hy
      obtain ⟨g1, g2⟩ := (ht t ti hti).eqv he
      simp only [List.length_map] at h2 hs
      rw [hxs.ints, hys.ints, ieq_map as bs h2.symm]
      exact ⟨fun w => ⟨run_eqGuard_agg w op t ox oy _ _ g1, (g2 w as bs hs.symm (h2.trans hs.symm)).1⟩, _, _, rfl, rfl⟩
    cases op <;> simp only at hp ⊢ <;> (try exact hp.elim)
    · simp only [Res.mk1] at hp ⊢
      obtain ⟨k12, xs, ys, rfl, rfl⟩ := key hp
      exact ⟨_, by intro w; obtain ⟨k1, k2⟩ := k12 w; rw [Sem.run_bind, k1, Result.andThen_ok, run_eql_struct w t xs ys, k2]; rfl, _, rfl, h.put hd (RC.v _ rfl)⟩
    · simp only [Res.mk1] at hp ⊢
      obtain ⟨k12, xs, ys, rfl, rfl⟩ := key hp
      exact ⟨_, by intro w; obtain ⟨k1, k2⟩ := k12 w; rw [Sem.run_bind, k1, Result.andThen_ok, run_neq_struct w t xs ys, k2]; rfl, _, rfl, h.put hd (RC.v _ rfl)⟩
  · cases hy with
    | v _ _ => cases hx with
      | sl _ _ k _ p _ _ hn ht' hle hmax hk ha u hc hr =>
        exact isNil_ok ht h hd (fun hne => by rw [(ha hne).1]; simp) hp
  · exact hp.elim

theorem un_ok (h : Good X s a w β cp Rd) {d : Option Nat} (hd : dstOK s.nt d) {op : UnOp} {v : Value} {x : AV} (hx : MA w (X.mt s β Rd) Rd (hOf s β cp) v x)
    (hp : (unS op x s d).1) : ∃ u, (∀ w, (Op.unary op v).run P w = .ok u w) ∧ ∃ s', (unS op x s d).2 s' ∧ Good X s' (a.put d u) w β cp Rd := by
  unfold unS at hp ⊢
  split at hp
  · cases hx with
    | v _ _ => exact ⟨_, by intro w; simp [Op.unary], _, rfl, h.put hd (RC.v _ rfl)⟩
  · cases hx with
    | v _ _ => exact ⟨_, by intro w; simp only [Res.mk1] at hp; simp only [Op.unary, Op.intArith]; rw [wrap_in hp]; rfl, _, rfl, h.put hd (RC.v _ rfl)⟩
  · exact hp.elim

theorem convert_ok (ht : TTok P tt) (h : Good X s a w β cp Rd) {d : Option Nat} (hd : dstOK s.nt d) {src dst : Nat} {v : Value} {x : AV} (hx : MA w (X.mt s β Rd) Rd (hOf s β cp) v x)
    (hp : (convertS tt src dst x s d).1) : ∃ u, (∀ w, (convert src dst v).run P w = .ok u w) ∧ ∃ s', (convertS tt src dst x s d).2 s' ∧ Good X s' (a.put d u) w β cp Rd := by
  unfold convertS at hp ⊢
  split at hp
  · rename_i ts td k n h1 h2
    split at hp
    · rename_i k' hk
      simp only [Res.mk1] at hp ⊢
      obtain ⟨ds, hus, _⟩ := (ht src ts h1).und
      obtain ⟨dd, hud, hdk⟩ := (ht dst td h2).und
      rw [hk] at hdk
      have hu' : P.underlying dst = some (.int k') := by cases dd <;> first | exact hdk.elim | (simp only [descOK] at hdk; subst hdk; exact hud)
      cases hx with
      | v _ _ =>
        refine ⟨.int k' n, ?_, _, rfl, h.put hd (RC.v _ rfl)⟩
        intro w
        unfold convert
        rw [Sem.run_bind, run_underlying hus w, Result.andThen_ok, Sem.run_bind, run_underlying hu' w, Result.andThen_ok]
        simp [Conv.intToInt, wrap_in hp]
    · exact hp.elim
  · exact hp.elim

theorem nil_ok (h : Good X s a w β cp Rd) {d : Option Nat} (hd : dstOK s.nt d) {o : Oper} {x : Operand} (ho : o.op = .nilCheck x) (hp : (nilS (s.ev x) s d).1) :
    ∃ u, (∀ w, (execOp a.eval o).run P w = .ok (.value u) w) ∧ ∃ s', (nilS (s.ev x) s d).2 s' ∧ Good X s' (a.put d u) w β cp Rd := by
  have hx := h.ev x
  generalize hv : a.eval x = v at hx
  unfold nilS at hp ⊢
  unfold execOp
  simp only [ho, hv]
  split at hp
  · rename_i b n i off he
    rw [he] at hx
    split at hp
    · rename_i bx hbx
      simp only [Res.mk1] at hp ⊢
      obtain ⟨g, hg, rfl⟩ := hx.2.at rfl hbx hp
      exact ⟨_, fun _ => rfl, _, rfl, h.put hd hx⟩
    · exact hp.elim
  · rename_i cs he
    rw [he] at hx
    cases hx with
    | rp cs p hs hm hlt u hc hr => exact ⟨_, fun _ => rfl, _, rfl, h.put hd (RC.rp cs p hs hm hlt u hc hr)⟩
  · rename_i he
    rw [he] at hx
    obtain ⟨g, hg, rfl⟩ := hx
    exact ⟨_, fun _ => rfl, _, rfl, h.put hd ⟨g, hg, rfl⟩⟩
  · rename_i f caps he
    rw [he] at hx
    obtain ⟨arr, rfl, hx⟩ := hx
    exact ⟨_, fun _ => rfl, _, rfl, h.put hd ⟨arr, rfl, hx⟩⟩
  · exact hp.elim

theorem pick_ok (h : Good X s a w β cp Rd) {d : Option Nat} (hd : dstOK s.nt d) {c x y : Operand} (hp : (pickS (s.ev c) (s.ev x) (s.ev y) s d).1) :
    ∃ u, (∀ w, (do pure (Next.value (if ← asBool (a.eval c) then a.eval x else a.eval y)) : Sem Next).run P w = .ok (.value u) w) ∧ ∃ s', (pickS (s.ev c) (s.ev x) (s.ev y) s d).2 s' ∧ Good X s' (a.put d u) w β cp Rd := by
  have hc := h.ev c
  generalize hv : a.eval c = v at hc
  unfold pickS at hp ⊢
  split at hp
  · rename_i he
    rw [he] at hc
    cases hc with
    | v _ _ => exact ⟨_, by intro w; simp [asBool], _, rfl, h.put hd (h.ev x)⟩
  · rename_i he
    rw [he] at hc
    cases hc with
    | v _ _ => exact ⟨_, by intro w; simp [asBool], _, rfl, h.put hd (h.ev y)⟩
  · exact hp.elim
end
end Go.VE
