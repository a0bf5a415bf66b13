/- Contracts of functions of the program vectorraster, each proved for all states that fit its description. No conditions. -/
import Derived.Test.YthphndhiacikaaaDoorT2KU
import Derived.Test.YthphndhiacikaaaDoorPR
import Derived.Test.YthphndhiacikaaaDoorW40
import Derived.Lib.SplitLaws
import Derived.Lib.AtoiAll
import Derived.Lib.ItoaLen
import Derived.Test.YthphndhiacikaaaDoorPC
set_option maxRecDepth 100000
set_option linter.unusedSimpArgs false
set_option linter.unusedVariables false
namespace Go.Proofs.YthphndhiacikaaaDoor
open Go Go.VE
/-! Texts, without any program. -/
def mkB (l : List UInt8) : ByteArray := ⟨l.toArray⟩
def tx (b : ByteArray) : List UInt8 := b.data.toList
theorem tx_mk (l : List UInt8) : tx (mkB l) = l := rfl
theorem mk_tx (b : ByteArray) : mkB (tx b) = b := rfl
theorem mkB_inj {a b : List UInt8} : mkB a = mkB b ↔ a = b := ⟨fun h => by have := congrArg tx h; simpa [tx_mk] using this, fun h => by rw [h]⟩
theorem tx_inj {a b : ByteArray} (h : tx a = tx b) : a = b := by rw [← mk_tx a, h, mk_tx]
theorem tx_len (b : ByteArray) : (tx b).length = b.size := by
  show b.data.toList.length = b.data.size
  simp
theorem mkB_size (l : List UInt8) : (mkB l).size = l.length := by
  show l.toArray.size = l.length
  simp
theorem tx_app (a b : ByteArray) : tx (a ++ b) = tx a ++ tx b := by simp [tx]
theorem mkB_app (a b : List UInt8) : mkB a ++ mkB b = mkB (a ++ b) := tx_inj (by rw [tx_app, tx_mk, tx_mk, tx_mk])
theorem tx_ext (s : ByteArray) (a b : Nat) : tx (s.extract a b) = ((tx s).take b).drop a := by
  simp only [tx, ByteArray.data_extract, Array.toList_extract, List.extract_eq_take_drop]
  rw [← List.drop_take]
/-- Cut at every 'c'. -/
def spl (c : UInt8) : List UInt8 → List (List UInt8)
  | [] => [[]]
  | b :: r => if b = c then [] :: spl c r else match spl c r with
    | h :: t => (b :: h) :: t
    | [] => [[b]]
theorem spl_ne (c : UInt8) (l : List UInt8) : spl c l ≠ [] := by
  cases l with
  | nil => simp [spl]
  | cons b r =>
    simp only [spl]
    split
    · simp
    · split <;> simp
theorem index_one_cons (c b : UInt8) (l : List UInt8) (h : b ≠ c) : Lib.index (b :: l) [c] = if Lib.index l [c] == -1 then -1 else Lib.index l [c] + 1 := by
  rw [Lib.index]
  have hp : ([c] : List UInt8).isPrefixOf (b :: l) = false := by simp [List.isPrefixOf, Ne.symm h]
  rw [hp]; simp
theorem split_eq (c : UInt8) : ∀ l : List UInt8, Lib.splitK [c] 0 (Lib.count l [c]) l = spl c l
  | [] => by rw [Lib.count_miss (by simp [Lib.index])]; rfl
  | b :: r => by
    have ih := split_eq c r
    by_cases h : b = c
    · subst h
      rw [Lib.count_cons_eq, Nat.add_comm, Lib.splitK]
      have hix : Lib.index (b :: r) [b] = 0 := by rw [Lib.index]; simp [List.isPrefixOf]
      rw [hix]
      simp only [spl, if_true, Int.toNat_zero]
      simpa using ih
    · rw [Lib.count_cons_ne b c r h]
      simp only [spl, if_neg h]
      rw [← ih]
      have hix := index_one_cons c b r h
      by_cases hm : Lib.index r [c] = -1
      · rw [Lib.count_miss hm]; rfl
      · have hge := Lib.index_ge r [c]
        obtain ⟨j, hj⟩ : ∃ j : Nat, Lib.index r [c] = j := ⟨(Lib.index r [c]).toNat, by omega⟩
        rw [Lib.count_hit (by simp) hj, Nat.add_comm, Lib.splitK, Lib.splitK]
        rw [hix, if_neg (fun e => hm (beq_iff_eq.1 e)), if_neg (fun e => hm (beq_iff_eq.1 e))]
        have e1 : ¬ ((Lib.index r [c] + 1 == -1) = true) := fun e => by have := beq_iff_eq.1 e; omega
        rw [if_neg e1, hj]
        simp only [Nat.add_zero, List.length_singleton]
        have e2 : ((j : Int) + 1).toNat = j + 1 := by omega
        rw [e2]
        simp
theorem splitB_words (c : UInt8) (s : ByteArray) : Lib.splitB ⟨#[c]⟩ 0 (Lib.countB s ⟨#[c]⟩) s = (spl c (tx s)).map mkB := by
  have h := Lib.splitB_data ⟨#[c]⟩ 0 (Lib.countB s ⟨#[c]⟩) s
  have e : Lib.countB s ⟨#[c]⟩ = Lib.count s.data.toList [c] := rfl
  rw [show (ByteArray.mk #[c]).data.toList = [c] from rfl, e, split_eq] at h
  rw [show spl c (tx s) = spl c s.data.toList from rfl, ← h, List.map_map]
  exact (List.map_id' _).symm
theorem spl_self (c : UInt8) : ∀ {w : List UInt8}, c ∉ w → spl c w = [w]
  | [], _ => rfl
  | b :: r, h => by
    have hb : b ≠ c := fun e => h (by simp [e])
    simp only [spl, if_neg hb, spl_self c (w := r) (fun e => h (by simp [e]))]
theorem spl_app (c : UInt8) : ∀ {w : List UInt8} (r : List UInt8), c ∉ w → spl c (w ++ c :: r) = w :: spl c r
  | [], r, _ => by simp [spl]
  | b :: w, r, h => by
    have hb : b ≠ c := fun e => h (by simp [e])
    have ih := spl_app c (w := w) r (fun e => h (by simp [e]))
    rw [List.cons_append, spl, if_neg hb, ih]
theorem spl_join (c : UInt8) : ∀ {ws : List (List UInt8)}, ws ≠ [] → (∀ w ∈ ws, c ∉ w) → spl c (Lib.join ws [c]) = ws
  | [], h, _ => absurd rfl h
  | [w], _, h => by rw [Lib.join_one, spl_self c (h w (by simp))]
  | w :: x :: r, _, h => by
    have ih := spl_join c (ws := x :: r) (by simp) (fun y hy => h y (by simp [hy]))
    rw [Lib.join_cons] at ih ⊢
    have e : Lib.joinTail [c] (x :: r) = c :: (x ++ Lib.joinTail [c] r) := by simp [Lib.joinTail]
    rw [e, spl_app c _ (h w (by simp)), ih]
theorem spl_snoc (c b : UInt8) : ∀ {l : List UInt8} {A : List (List UInt8)} {x : List UInt8}, spl c l = A ++ [x] → spl c (l ++ [b]) = if b = c then A ++ [x, []] else A ++ [x ++ [b]]
  | [], A, x, h => by
    have : A = [] ∧ x = [] := by
      cases A with
      | nil => simp [spl] at h; exact ⟨rfl, h⟩
      | cons a A => simp [spl] at h
    obtain ⟨rfl, rfl⟩ := this
    simp only [List.nil_append, spl]
  | a :: l, A, x, h => by
    obtain ⟨A', x', h'⟩ : ∃ A' x', spl c l = A' ++ [x'] := ⟨_, _, (List.dropLast_concat_getLast (spl_ne c l)).symm⟩
    have ih := spl_snoc c b h'
    rw [List.cons_append, spl]
    rw [spl] at h
    by_cases ha : a = c
    · rw [if_pos ha] at h ⊢
      rw [h'] at h
      have : A = [] :: A' ∧ x = x' := by
        have := List.append_inj' (show ([] :: A') ++ [x'] = A ++ [x] from h) rfl
        exact ⟨this.1.symm, by simpa using this.2.symm⟩
      obtain ⟨rfl, rfl⟩ := this
      rw [ih]; split <;> rfl
    · rw [if_neg ha] at h ⊢
      rw [h'] at h
      rw [ih]
      cases A' with
      | nil =>
        have : A = [] ∧ x = a :: x' := by
          have := List.append_inj' (show ([] : List (List UInt8)) ++ [a :: x'] = A ++ [x] from h) rfl
          exact ⟨this.1.symm, by simpa using this.2.symm⟩
        obtain ⟨rfl, rfl⟩ := this
        by_cases hb : b = c
        · simp only [if_pos hb]; rfl
        · simp only [if_neg hb]; rfl
      | cons y A' =>
        have : A = (a :: y) :: A' ∧ x = x' := by
          have := List.append_inj' (show ((a :: y) :: A') ++ [x'] = A ++ [x] from h) rfl
          exact ⟨this.1.symm, by simpa using this.2.symm⟩
        obtain ⟨rfl, rfl⟩ := this
        by_cases hb : b = c
        · simp only [if_pos hb]; rfl
        · simp only [if_neg hb]; rfl

/-! Numbers. -/
def dig (d : Nat) : UInt8 := UInt8.ofNat (48 + d)
theorem dig_toNat {d : Nat} (h : d < 10) : (dig d).toNat = 48 + d := by
  simp only [dig, UInt8.toNat_ofNat']
  omega
theorem dec_small {u : Nat} (h : u < 10) : Lib.decDigits u = [dig u] := by rw [Lib.decDigits, dif_pos h]; rfl
theorem dec_big {u : Nat} (h : ¬ u < 10) : Lib.decDigits u = Lib.decDigits (u / 10) ++ [dig (u % 10)] := by rw [Lib.decDigits, dif_neg h]; rfl
/-- What digits spell, behind a number. -/
def val (a : Nat) (l : List UInt8) : Nat := l.foldl (fun a c => 10 * a + (c.toNat - 48)) a
theorem val_app (a : Nat) (l m : List UInt8) : val a (l ++ m) = val (val a l) m := by simp [val, List.foldl_append]
theorem val_dec : ∀ (u : Nat), val 0 (Lib.decDigits u) = u ∧ (∀ c ∈ Lib.decDigits u, 48 ≤ c.toNat ∧ c.toNat ≤ 57) ∧ Lib.decDigits u ≠ [] := by
  intro u
  induction u using Nat.strongRecOn with
  | _ u ih =>
    by_cases h : u < 10
    · rw [dec_small h]
      have := dig_toNat h
      refine ⟨by simp [val, this], fun c hc => ?_, by simp⟩
      simp only [List.mem_singleton] at hc
      subst hc; omega
    · obtain ⟨i1, i2, i3⟩ := ih (u / 10) (by omega)
      have hd := dig_toNat (d := u % 10) (by omega)
      rw [dec_big h]
      refine ⟨?_, fun c hc => ?_, by simp⟩
      · rw [val_app, i1]
        simp only [val, List.foldl_cons, List.foldl_nil, hd]
        omega
      · rcases List.mem_append.1 hc with hc | hc
        · exact i2 c hc
        · simp only [List.mem_singleton] at hc
          subst hc; omega
theorem dec_len {u k : Nat} (h : u < 10 ^ (k + 1)) : (Lib.decDigits u).length ≤ k + 1 := by
  induction k generalizing u with
  | zero => rw [dec_small (by simpa using h)]; simp
  | succ k ih =>
    by_cases h9 : u < 10
    · rw [dec_small h9]; simp
    · rw [dec_big h9, List.length_append, List.length_singleton]
      have := ih (u := u / 10) (by rw [Nat.pow_succ] at h; omega)
      omega
theorem itoa_pos {n : Int} (h : 0 ≤ n) : Lib.itoa n = Lib.decDigits n.toNat := by unfold Lib.itoa; rw [if_neg (by omega)]
theorem itoa_neg' {n : Int} (h : n < 0) : Lib.itoa n = 45 :: Lib.decDigits (-n).toNat := by
  unfold Lib.itoa; rw [if_pos h]; congr 2; omega
theorem pu_dec : ∀ (l : List UInt8) (a : Nat), (∀ c ∈ l, 48 ≤ c.toNat ∧ c.toNat ≤ 57) → val a l < 1000000000000 → Lib.parseUint10 a l = .ok (val a l)
  | [], a, _, _ => rfl
  | c :: r, a, h, hv => by
    have hc := h c (by simp)
    have mono : ∀ (l : List UInt8) (a : Nat), a ≤ val a l := by
      intro l
      induction l with
      | nil => intro a; exact Nat.le_refl _
      | cons c r ih => intro a; have := ih (10 * a + (c.toNat - 48)); simp only [val, List.foldl_cons] at this ⊢; omega
    have e : val a (c :: r) = val (10 * a + (c.toNat - 48)) r := rfl
    rw [e] at hv ⊢
    have m := mono r (10 * a + (c.toNat - 48))
    have e2 : a * 10 + (c.toNat - 48) = 10 * a + (c.toNat - 48) := by omega
    rw [Lib.parseUint10, if_pos hc, if_neg (by omega), if_neg (by omega), e2]
    exact pu_dec r _ (fun x hx => h x (by simp [hx])) hv
theorem atoi_itoa {n : Int} (h0 : -9999999 ≤ n) (h1 : n ≤ 9999999) : Lib.atoiAll (Lib.itoa n) = .ok n := by
  by_cases hn : 0 ≤ n
  · rw [itoa_pos hn]
    obtain ⟨v1, v2, v3⟩ := val_dec n.toNat
    have hp := pu_dec (Lib.decDigits n.toNat) 0 v2 (by rw [v1]; omega)
    rw [v1] at hp
    cases hd : Lib.decDigits n.toNat with
    | nil => exact absurd hd v3
    | cons c r =>
      rw [hd] at hp v2
      have hc := v2 c (by simp)
      simp only [Lib.atoiAll]
      rw [if_neg (by omega), Lib.parseMag, if_neg (by simp), hp]
      simp only
      rw [if_neg (by omega), if_neg (by omega), if_neg (by omega)]
      congr 1; omega
  · rw [itoa_neg' (by omega)]
    obtain ⟨v1, v2, v3⟩ := val_dec (-n).toNat
    have hp := pu_dec (Lib.decDigits (-n).toNat) 0 v2 (by rw [v1]; omega)
    rw [v1] at hp
    simp only [Lib.atoiAll]
    rw [if_pos (by decide), Lib.parseMag, if_neg v3, hp]
    simp only
    rw [if_neg (by simp), if_neg (by omega), if_pos (by decide)]
    congr 1; omega
theorem itoa_inj {m n : Int} (h0 : -9999999 ≤ n) (h1 : n ≤ 9999999) (k0 : -9999999 ≤ m) (k1 : m ≤ 9999999) (h : Lib.itoa m = Lib.itoa n) : m = n := by
  have a := atoi_itoa h0 h1
  have b := atoi_itoa k0 k1
  rw [h, a] at b
  injection b with b
  exact b.symm
theorem itoa_chars (n : Int) : ∀ c ∈ Lib.itoa n, c = 45 ∨ 48 ≤ c.toNat ∧ c.toNat ≤ 57 := by
  intro c hc
  by_cases h : 0 ≤ n
  · rw [itoa_pos h] at hc
    exact .inr ((val_dec _).2.1 c hc)
  · rw [itoa_neg' (by omega)] at hc
    rcases List.mem_cons.1 hc with rfl | hc
    · exact .inl rfl
    · exact .inr ((val_dec _).2.1 c hc)
theorem itoa_ne (n : Int) : Lib.itoa n ≠ [] := by
  by_cases h : 0 ≤ n
  · rw [itoa_pos h]; exact (val_dec _).2.2
  · rw [itoa_neg' (by omega)]; simp
theorem itoa_len {n : Int} (h0 : -9999 ≤ n) (h1 : n ≤ 9999) : (Lib.itoa n).length ≤ 5 := by
  by_cases h : 0 ≤ n
  · rw [itoa_pos h]; have := dec_len (u := n.toNat) (k := 3) (by simp; omega); omega
  · rw [itoa_neg' (by omega)]; have := dec_len (u := (-n).toNat) (k := 3) (by simp; omega); simp; omega
end Go.Proofs.YthphndhiacikaaaDoor
