/- A part of the engine: what operations do to described states, proved sound against the model. No conditions. -/
import Derived.Test.YthphndhiacikaaaDoorEB
import Derived.ProofKit
import Derived.Below
set_option linter.unusedSimpArgs false
set_option linter.unusedVariables false
section
namespace Go.VE
open Go Go.RowKit

/-- A slice of bytes that came in. -/
def IsBytes (w : World) (a : Option Addr) (len cap : Nat) : Prop :=
  (a = none ∧ len = 0 ∧ cap = 0) ∨
  ∃ (x : Addr) (zs : List Int), a = some x ∧ len ≤ cap ∧ cap ≤ maxLen ∧ zs.length = cap ∧ (∀ i, i < zs.length → w.cell? (x.add i) = some (.int .u8 (zs.getD i 0))) ∧ ∀ n ∈ zs, (Lit.int .u8 n).wf = true

theorem u8_of_wf {x : Int} (h : (Lit.int .u8 x).wf = true) : ((UInt8.ofNat x.toNat).toNat : Int) = x := by
  have h1 : IntKind.u8.min = 0 := rfl
  have h2 : IntKind.u8.max = 255 := rfl
  simp only [Lit.wf, Bool.and_eq_true, decide_eq_true_eq] at h
  simp only [UInt8.toNat_ofNat']
  omega

theorem bytes_rc {w : World} {a : Option Addr} {len cap : Nat} (h : IsBytes w a len cap) : ∃ bs : List UInt8, bs.length = len ∧ RC w (fun _ => False) (.slice a len cap) (.sl false (byC bs)) := by
  rcases h with ⟨rfl, rfl, rfl⟩ | ⟨x, zs, rfl, h1, h2, h3, h4, h5⟩
  · exact ⟨[], rfl, .sl false _ 1 none ⟨0, 0, none⟩ 0 0 rfl (fun h => by cases h) (Nat.le_refl _) (Nat.zero_le _) (fun e h => by simp [byC] at h) (fun h => absurd rfl h) (fun _ _ => undef) (fun i j e c h => by simp [byC] at h) (fun i j e c h => by simp [byC] at h)⟩
  · refine ⟨(zs.take len).map fun z => UInt8.ofNat z.toNat, by simp; omega, ?_⟩
    have hlen : (byC ((zs.take len).map fun z => UInt8.ofNat z.toNat)).length = len := by simp [byC]; omega
    refine .sl false _ 1 _ x len cap hlen.symm (fun h => by cases h) h1 h2 (fun e h => ?_) (fun hne => ?_) (fun i _ => .int .u8 (zs.getD i 0)) (fun i j e c hi hj => ?_) (fun i j e c hi hj => ?_)
    · simp only [byC, List.mem_map] at h
      obtain ⟨b, _, rfl⟩ := h
      rfl
    · have hpos : 0 < zs.length := by
        rcases Nat.eq_zero_or_pos len with h0 | h0
        · exact absurd (List.eq_nil_of_length_eq_zero (hlen.trans h0)) hne
        · omega
      have hc := h4 0 hpos
      refine ⟨rfl, ?_, fun h => h, ?_⟩
      · simpa [Addr.add] using World.cell?_spot hc
      · have := World.block_lt_of_cell? _ _ hc
        simpa [Addr.add] using this
    all_goals
      have hil : i < len := by rw [← hlen]; exact (List.getElem?_eq_some_iff.1 hi).1
      simp only [byC, List.getElem?_map, Option.map_eq_some_iff] at hi
      obtain ⟨b, ⟨z, hz, rfl⟩, rfl⟩ := hi
      rw [List.getElem?_take, if_pos hil] at hz
      have hj0 : j = 0 := by
        have := (List.getElem?_eq_some_iff.1 hj).1
        simpa using this
      subst hj0
      simp only [List.getElem?_cons_zero, Option.some.injEq] at hj
      subst hj
    · have hc := h4 i (by omega)
      have hs : x.spot = none := by simpa [Addr.add] using World.cell?_spot (h4 0 (by omega))
      rw [addr_add' hs] at hc
      simpa using hc
    · rw [u8_of_wf (h5 z (List.mem_of_getElem? hz))]
      have : zs.getD i 0 = z := by simp [List.getD, hz]
      rw [this]
      exact .v _ rfl

/-- A law of one slice of bytes. -/
theorem law_bytes {P : Program} {rt : RT} {f : Nat} {sp : Spec} (hS : Sat P rt f sp) (hpre : ∀ bs : List UInt8, bs.length ≤ maxLen → sp.pre [.c (.sl false (byC bs))] []) (hpost : ∀ (bs : List UInt8) r out, sp.post [.c (.sl false (byC bs))] [] r out → r = .c (.v (.bool true))) (hcost : sp.cost ≤ pickLimit)
    (a : Option Addr) (len cap : Nat) (w : World) (hg : rt.ok w ∧ ∀ g ∈ rt.F, g < w.heap.size) (h : IsBytes w a len cap) : Calls P f #[.slice a len cap] w fun e w' => e = .returned (.bool true) ∧ Below w.heap.size w w' := by
  obtain ⟨bs, hl, hr⟩ := bytes_rc h
  have hlen : bs.length ≤ maxLen := by
    rcases h with ⟨_, h, _⟩ | ⟨_, _, _, h1, h2, _⟩ <;> omega
  have T : Takes rt w (fun _ => False) (fun _ => False) 0 [.c (.sl false (byC bs))] #[.slice a len cap] [] (fun _ => none) (fun _ => 0) := {
    glob := ⟨hg.1, fun g h => ⟨hg.2 g h, fun h => h, fun ⟨b, bx, h1, _⟩ => by rw [exp_box] at h1; simp at h1⟩⟩
    rdav := fun _ h => h
    avlt := fun _ h => h.elim
    pasav := fun _ _ h => h
    rdok := fun _ h => h.elim
    size := rfl
    args := fun j x hj => by
      cases j with
      | zero =>
        simp only [List.getElem?_cons_zero, Option.some.injEq] at hj
        subst hj
        refine RC.mono (Mt' := avIn (fun _ => False) [] (fun _ => none)) hr (fun _ _ _ => rfl) (Nat.le_refl _) fun g _ hg => ?_
        rcases hg with hg | ⟨b, bx, h1, _⟩
        · exact hg
        · rw [exp_box] at h1; simp at h1
      | succ j => simp at hj
    boxes := fun b bx h => by simp at h
    inj := fun b b' bx bx' g h => by simp at h }
  refine (hS w _ _ 0 _ _ _ _ _ T (hpre bs hlen) (by omega)).mono fun e w' ⟨v, r, bs', β, cp, Rd', he, hp, G⟩ => ?_
  subst he
  have := hpost _ _ _ hp
  subst this
  have hv : v = .bool true := by
    have h1 : RC w' (avoid (fun _ => False) bs' β Rd' sp.flat w.heap.size) v (.v (.bool true)) := G.value
    cases h1; rfl
  subst hv
  refine ⟨rfl, G.keeps.os, G.keeps.tape, G.keeps.output.1, G.keeps.size, fun k hk => G.keeps.block k hk fun h => ?_⟩
  rcases h with h | ⟨b, bx, h1, _⟩
  · exact h
  · rw [exp_box] at h1; simp at h1
end Go.VE
end
section
namespace Go.VE
open Go

/-! What is asked less. -/
section mono
variable {tt : Nat → Option TI} {tab : Nat → Option Spec}
theorem opW_mono {o : Oper} {s : St} {K K' : St → Prop} (h : ∀ s, K s → K' s) (hp : opW tt tab o s K) : opW tt tab o s K' := ⟨hp.1, hp.2.1, fun s' hs => h _ (hp.2.2 s' hs)⟩
theorem opsW_mono {ops : Array Oper} : ∀ (l : List Oper) (s : St) {K K' : St → Prop}, (∀ s, K s → K' s) → opsW tt tab ops l s K → opsW tt tab ops l s K'
  | [], _, _, _, h, hp => h _ hp
  | _ :: r, _, _, _, h, hp => guardW_mono (fun _ hs => opW_mono (fun s' hs' => opsW_mono r s' h hs') hs) (fun _ hs => ⟨hs.1, opsW_mono r _ h hs.2⟩) hp
theorem stepW_mono {ops : Array Oper} {i : Nat} {s : St} {K K' : St → Prop} (h : ∀ s, K s → K' s) (hp : stepW tt tab ops i s K) : stepW tt tab ops i s K' := by
  unfold stepW at *
  cases hi : nthL ops.toList i with
  | none => rw [hi] at hp; exact hp
  | some o => rw [hi] at hp; exact guardW_mono (fun _ hs => opW_mono h hs) (fun _ hs => ⟨hs.1, h _ hs.2⟩) hp
theorem stepT_mono {Es : List Nat} {ops : Array Oper} {i : Nat} {s : St} {K K' : St → Prop} (h : ∀ s, K s → K' s) (hp : stepT tt tab Es ops i s K) : stepT tt tab Es ops i s K' := by
  unfold stepT at *
  cases hi : nthL ops.toList i with
  | none => rw [hi] at hp; exact hp
  | some o => rw [hi] at hp; exact guardW_mono (fun _ hs => ⟨hs.1, opW_mono h hs.2⟩) (fun _ hs => ⟨hs.1, h _ hs.2⟩) hp
theorem planW_mono {ops : Array Oper} {K K' : St → Prop} (h : ∀ s, K s → K' s) : ∀ (p : Plan) (m : Bool) (s : St), planW tt tab ops K p m s → planW tt tab ops K' p m s
  | .nil, false, s, hp => h s hp
  | .nil, true, _, _ => trivial
  | .first _ p, m, s, hp => by cases m <;> exact stepW_mono (fun s' hs => planW_mono h p false s' hs) hp
  | .firstT _ _ p, m, s, hp => by cases m <;> exact stepT_mono (fun s' hs => planW_mono h p false s' hs) hp
  | .alt _ p r, m, s, hp => by cases m <;> exact ⟨stepW_mono (fun s' hs => planW_mono h p false s' hs) hp.1, planW_mono h r true s hp.2⟩
theorem dwS_mono {sq : Nat → Bool} {id : Nat} {ops : Array Oper} {s : St} {K K' : St → Prop} (h : ∀ s, K s → K' s) (hp : dwS tt tab sq id ops s K) : dwS tt tab sq id ops s K' := by
  unfold dwS at *
  cases hs : sq id with
  | true => rw [hs] at hp; exact opsW_mono _ _ h hp
  | false =>
    rw [hs] at hp
    obtain ⟨p, h1, h2⟩ := hp
    exact ⟨p, h1, planW_mono h p false s h2⟩
theorem runW_mono {Ent : St → St → Prop} {sq : Nat → Bool} : ∀ (c : Code) (s : St) {Q Q' : Ex → St → Prop}, (∀ e s, Q e s → Q' e s) → runW tt tab Ent (dwS tt tab sq) c s Q → runW tt tab Ent (dwS tt tab sq) c s Q' := by
  intro c
  induction c with
  | skip => exact fun s _ _ h hp => h _ _ hp
  | region id ops d =>
    intro s Q Q' h hp
    cases d with
    | false => exact opsW_mono _ _ (fun s hs => h _ s hs) hp
    | true => exact dwS_mono (fun s hs => h _ s hs) hp
  | seq a b iha ihb =>
    intro s Q Q' h hp
    refine iha s (fun e s' hs => ?_) hp
    cases e with
    | normal => exact ihb s' h hs
    | exit i => exact h _ _ hs
    | ret => exact h _ _ hs
  | cond x a b iha ihb =>
    intro s Q Q' h hp
    simp only [runW] at *
    unfold condW at *
    split at hp
    · exact ⟨fun ht => iha s h (hp.1 ht), fun ht => ihb s h (hp.2 ht)⟩
    · exact hp.elim
  | block id c ih =>
    intro s Q Q' h hp
    refine ih s (fun e s' hs => ?_) hp
    cases e with
    | normal => exact h _ _ hs
    | exit i =>
      simp only [blockK] at *
      cases hd : decide (i = id) with
      | true => rw [hd] at hs; exact h _ _ hs
      | false => rw [hd] at hs; exact h _ _ hs
    | ret => exact h _ _ hs
  | loop c ih =>
    intro s Q Q' h hp
    obtain ⟨α, F, Inv, m, x0, h1, h2, h3⟩ := hp
    refine ⟨α, F, Inv, m, x0, h1, h2, fun x hx => ih _ (fun e s' hs => ?_) (h3 x hx)⟩
    cases e with
    | normal => exact hs
    | exit i => exact h _ _ hs
    | ret => exact h _ _ hs
  | exit id => exact fun s _ _ h hp => h _ _ hp
  | ret => exact fun s _ _ h hp => h _ _ hp
  | _ => exact fun s _ _ _ hp => by first | exact hp.elim | (simp only [runW] at hp)
end mono

/-! Weaker descriptions: how tight a row is, is forgotten. -/
mutual
def wkC : C → C
  | .sl _ es => .sl false (wkEs es)
  | .rp cs => .rp (wkCs cs)
  | .own b n _ => .own b n false
  | .ex x c => .ex x (wkC c)
  | c => c
def wkCs : List C → List C
  | [] => []
  | c :: r => wkC c :: wkCs r
def wkEs : List (List C) → List (List C)
  | [] => []
  | e :: r => wkCs e :: wkEs r
end
theorem wkCs_map : ∀ l : List C, wkCs l = l.map wkC
  | [] => rfl
  | c :: r => by simp [wkCs, wkCs_map r]
theorem wkEs_map : ∀ l : List (List C), wkEs l = l.map wkCs
  | [] => rfl
  | c :: r => by simp [wkEs, wkEs_map r]
theorem wkEs_of {α : Type} (l : List α) (g : α → List C) : wkEs (l.map g) = l.map fun a => wkCs (g a) := by simp [wkEs_map]
theorem wkEs_app (a b : List (List C)) : wkEs (a ++ b) = wkEs a ++ wkEs b := by simp [wkEs_map]
def wkA1 : AV → AV
  | .c x => .c (wkC x)
  | .agg cs => .agg (wkCs cs)
  | x => x
def wkA : AV → AV
  | .tup vs => .tup (vs.map wkA1)
  | x => wkA1 x
def wkB (b : Box) : Box := { b with es := wkEs b.es }
theorem wkC_hkey : ∀ c : C, hkey (wkC c) = hkey c
  | .v _ => rfl
  | .sl _ _ => rfl
  | .own _ _ _ => rfl
  | .vw _ _ _ _ => rfl
  | .ptr _ _ _ _ => rfl
  | .rp _ => rfl
  | .ex _ _ => rfl
  | .rdr => rfl
  | .fn _ _ => rfl
  | .und => rfl
  | .bot => rfl
theorem wkC_okR : ∀ c : C, okR (wkC c) = okR c
  | .v _ => rfl
  | .sl _ _ => rfl
  | .own _ _ _ => rfl
  | .vw _ _ _ _ => rfl
  | .ptr _ _ _ _ => rfl
  | .rp _ => rfl
  | .ex _ _ => rfl
  | .rdr => rfl
  | .fn _ _ => rfl
  | .und => rfl
  | .bot => rfl
theorem wkCs_get (l : List C) (j : Nat) : (wkCs l)[j]? = l[j]?.map wkC := by rw [wkCs_map, List.getElem?_map]
theorem wkEs_get (l : List (List C)) (j : Nat) : (wkEs l)[j]? = l[j]?.map wkCs := by rw [wkEs_map, List.getElem?_map]
theorem wkCs_len (l : List C) : (wkCs l).length = l.length := by rw [wkCs_map, List.length_map]
theorem wkEs_len (l : List (List C)) : (wkEs l).length = l.length := by rw [wkEs_map, List.length_map]

section wk
variable {w : World} {Mt Rd : Nat → Prop} {H H' : C → Value → Prop}
theorem RC.wk {v : Value} {c : C} (h : RC w Mt v c) : RC w Mt v (wkC c) := by
  induction h with
  | v x hx => exact .v x hx
  | sl t es k a p n cap hn ht hle hmax hk ha u hc _ ih =>
    refine .sl false (wkEs es) k a p n cap (by rw [wkEs_len]; exact hn) (fun h => by cases h) hle hmax (fun e he => ?_) (fun hne => ha (by rintro rfl; exact hne rfl)) u (fun i j e c h1 h2 => ?_) (fun i j e c h1 h2 => ?_)
    · rw [wkEs_map, List.mem_map] at he
      obtain ⟨e0, h0, rfl⟩ := he
      rw [wkCs_len]; exact hk e0 h0
    · rw [wkEs_get, Option.map_eq_some_iff] at h1
      obtain ⟨e0, h1, rfl⟩ := h1
      rw [wkCs_get, Option.map_eq_some_iff] at h2
      obtain ⟨c0, h2, rfl⟩ := h2
      exact hc i j e0 c0 h1 h2
    · rw [wkEs_get, Option.map_eq_some_iff] at h1
      obtain ⟨e0, h1, rfl⟩ := h1
      rw [wkCs_get, Option.map_eq_some_iff] at h2
      obtain ⟨c0, h2, rfl⟩ := h2
      exact ih i j e0 c0 h1 h2
  | rp cs p hs hm hlt u hc _ ih =>
    refine .rp (wkCs cs) p hs hm hlt u (fun j c h2 => ?_) (fun j c h2 => ?_)
    · rw [wkCs_get, Option.map_eq_some_iff] at h2
      obtain ⟨c0, h2, rfl⟩ := h2
      exact hc j c0 h2
    · rw [wkCs_get, Option.map_eq_some_iff] at h2
      obtain ⟨c0, h2, rfl⟩ := h2
      exact ih j c0 h2
/-- Handles may be known less tightly. -/
def WkH (H H' : C → Value → Prop) : Prop := ∀ c v, H c v → H' (wkC c) v
theorem MC0.wk (hH : WkH H H') {v : Value} {c : C} (h : MC0 w Mt Rd H v c) : MC0 w Mt Rd H' v (wkC c) := by
  cases c with
  | own b n t => exact ⟨h.1, hH _ _ h.2⟩
  | vw b n lo hi => exact ⟨h.1, hH _ _ h.2⟩
  | ptr b n i off => exact ⟨h.1, hH _ _ h.2⟩
  | und => exact h
  | bot => trivial
  | fn _ _ => exact h
  | rdr => exact h
  | ex x c => exact ⟨h.1, RC.wk h.2⟩
  | v x => exact RC.wk (c := .v x) h
  | sl t es => exact RC.wk (c := .sl t es) h
  | rp cs => exact RC.wk (c := .rp cs) h
def wkIdx (H H' : C → Value → Prop) : Prop := ∀ c v, H c v → H' c v
theorem MC0.hh (hH : wkIdx H H') {v : Value} {c : C} (h : MC0 w Mt Rd H v c) : MC0 w Mt Rd H' v c := by
  cases c with
  | own b n t => exact ⟨h.1, hH _ _ h.2⟩
  | vw b n lo hi => exact ⟨h.1, hH _ _ h.2⟩
  | ptr b n i off => exact ⟨h.1, hH _ _ h.2⟩
  | _ => exact h
theorem MC.wk (hH : WkH H H') (hI : wkIdx H H') {v : Value} {c : C} (h : MC w Mt Rd H v c) : MC w Mt Rd H' v (wkC c) := by
  cases c with
  | fn f caps =>
    obtain ⟨arr, e, hs, hr⟩ := h
    exact ⟨arr, e, hs, fun j c hj => (hr j c hj).hh hI⟩
  | _ => simp only [MC] at h; have := MC0.wk hH h; exact this
theorem MCs.wk (hH : WkH H H') (hI : wkIdx H H') {arr : Array Value} {cs : List C} (h : MCs w Mt Rd H arr cs) : MCs w Mt Rd H' arr (wkCs cs) := by
  refine ⟨by rw [wkCs_len]; exact h.1, fun j c hj => ?_⟩
  rw [wkCs_get, Option.map_eq_some_iff] at hj
  obtain ⟨c0, hj, rfl⟩ := hj
  exact (h.2 j c0 hj).wk hH hI
theorem MA1.wk (hH : WkH H H') (hI : wkIdx H H') {v : Value} {x : AV} (h : MA1 w Mt Rd H v x) : MA1 w Mt Rd H' v (wkA1 x) := by
  cases x with
  | c x => exact MC.wk hH hI h
  | agg cs => obtain ⟨arr, e, h⟩ := h; exact ⟨arr, e, h.wk hH hI⟩
  | tup vs => exact h
  | mp b ks => exact h
theorem MA.wk (hH : WkH H H') (hI : wkIdx H H') {v : Value} {x : AV} (h : MA w Mt Rd H v x) : MA w Mt Rd H' v (wkA x) := by
  cases x with
  | c x => exact MA1.wk (x := .c x) hH hI h
  | agg cs => exact MA1.wk (x := .agg cs) hH hI h
  | tup vs =>
    obtain ⟨arr, e, hs, h⟩ := h
    refine ⟨arr, e, by rw [List.length_map]; exact hs, fun j x hx => ?_⟩
    rw [List.getElem?_map, Option.map_eq_some_iff] at hx
    obtain ⟨x0, hx, rfl⟩ := hx
    exact (h j x0 hx).wk hH hI
  | mp b ks =>
    obtain ⟨g, es, clk, e, h1, h2⟩ := h
    exact ⟨g, es, clk, e, hI _ _ h1, h2⟩
theorem hV_wk {β : Option Nat} {cp k : Nat} {c : C} {v : Value} (h : hV β cp k c v) : hV β cp k (wkC c) v := by
  cases c with
  | own b n t =>
    rcases h with h | ⟨g, c, h1, h2, h3, h4, _⟩
    · exact .inl h
    · exact .inr ⟨g, c, h1, h2, h3, h4, fun h => by cases h⟩
  | vw b n lo hi => exact h
  | ptr b n i off => exact h
  | _ => exact h.elim
theorem hOf_wk (s : St) (β : Nat → Option Nat) (cp : Nat → Nat) : WkH (hOf s β cp) (hOf s β cp) := by
  rintro c v ⟨b, n, h1, h2, h3⟩
  exact ⟨b, n, by rw [wkC_hkey]; exact h1, h2, fun bx hb => ⟨(h3 bx hb).1, fun hn => hV_wk ((h3 bx hb).2 hn)⟩⟩
theorem wkIdx_rfl (H : C → Value → Prop) : wkIdx H H := fun _ _ h => h
end wk

/-! The head of a loop. -/
def dropE (dead : List Nat) : List (Nat × AV) → List (Nat × AV)
  | [] => []
  | (k, x) :: r => (bif memN k dead then [] else [(k, x)]) ++ dropE (k :: dead) r
def dropB (dead : List Nat) : List (Nat × Option Box) → List (Nat × Option Box)
  | [] => []
  | (k, x) :: r => (bif memN k dead then [] else [(k, x)]) ++ dropB (k :: dead) r
def famS (s : St) (up : List (Nat × AV)) (dead : List Nat) (ub : List (Nat × Option Box)) (bd : List Nat) (pk : Nat) : St :=
  ⟨s.nt, s.np, up ++ dropE dead s.env, ub ++ dropB bd s.hp, s.nx, pk⟩
def EntC (ρ : List (Nat × Nat)) (s s' : St) : Prop :=
  leEnv s ρ s'.hp s'.env ∧ leHp s ρ s'.hp s'.nx s'.hp ∧ injR ρ s'.hp = true ∧ preR ρ s'.hp s.np = true ∧ s.pk ≤ s'.pk ∧ s.nt = s'.nt ∧ s.np = s'.np
theorem EntC.ent {ρ : List (Nat × Nat)} {s s' : St} (h : EntC ρ s s') : Ent s s' := by
  obtain ⟨nt, np, env, hp, nx, pk⟩ := s'
  obtain ⟨h1, h2, h3, h4, h5, h6, h7⟩ := h
  simp only at h1 h2 h3 h4 h5 h6 h7
  subst h6 h7
  exact ent_of ρ h1 h2 h3 h4 h5
def wkSt (s : St) : St := { s with env := s.env.map (fun p => (p.1, wkA p.2)), hp := s.hp.map fun p => (p.1, p.2.map wkB) }

theorem lkE_wk : ∀ (l : List (Nat × AV)) (t : Nat), lkE (l.map fun p => (p.1, wkA p.2)) t = wkA (lkE l t)
  | [], _ => rfl
  | (k, x) :: r, t => by
    simp only [List.map_cons, lkE]
    cases k == t with
    | true => rfl
    | false => exact lkE_wk r t
theorem lkB_wk : ∀ (l : List (Nat × Option Box)) (b : Nat), lkB (l.map fun p => (p.1, p.2.map wkB)) b = (lkB l b).map fun x => x.map wkB
  | [], _ => rfl
  | (k, x) :: r, b => by
    simp only [List.map_cons, lkB]
    cases k == b with
    | true => rfl
    | false => exact lkB_wk r b
section wkst
variable {X : Cx} {s : St} {a : Act} {w : World} {β : Nat → Option Nat} {cp : Nat → Nat} {Rd : Nat → Prop}
theorem wkSt_get (t : Nat) : (wkSt s).get t = wkA (s.get t) := lkE_wk s.env t
theorem wkSt_box (b : Nat) : (wkSt s).box b = (s.box b).map wkB := by
  simp only [St.box, wkSt, lkB_wk]
  cases lkB s.hp b with
  | none => rfl
  | some x => rfl
theorem wkSt_keyed (b : Nat) : (wkSt s).keyed b ↔ s.keyed b := by simp [St.keyed, wkSt, lkB_wk]
theorem wkSt_some {b : Nat} {bx : Box} (h : (wkSt s).box b = some bx) : ∃ bx0, s.box b = some bx0 ∧ bx = wkB bx0 := by
  rw [wkSt_box, Option.map_eq_some_iff] at h
  obtain ⟨bx0, h, rfl⟩ := h
  exact ⟨bx0, h, rfl⟩
theorem wkB_len (b : Box) : (wkB b).es.length = b.es.length := wkEs_len _
theorem hOf_wkSt : wkIdx (hOf s β cp) (hOf (wkSt s) β cp) := by
  rintro c v ⟨b, n, h1, h2, h3⟩
  refine ⟨b, n, h1, (wkSt_keyed b).2 h2, fun bx hb => ?_⟩
  obtain ⟨bx0, h4, rfl⟩ := wkSt_some hb
  rw [wkB_len]
  exact h3 bx0 h4
theorem hOf_wkSt' : WkH (hOf s β cp) (hOf (wkSt s) β cp) := fun c v h => hOf_wkSt _ _ (hOf_wk s β cp c v h)
theorem owns_wkSt (g : Nat) : owns (wkSt s) β g ↔ owns s β g := by
  constructor
  · rintro ⟨b, bx, h1, h2, h3⟩
    obtain ⟨bx0, h4, rfl⟩ := wkSt_some h1
    exact ⟨b, bx0, h4, h2, h3⟩
  · rintro ⟨b, bx, h1, h2, h3⟩
    exact ⟨b, wkB bx, by rw [wkSt_box, h1]; rfl, h2, h3⟩
theorem has_wkSt {g : Nat} (h : has (wkSt s) β g) : has s β g := by
  obtain ⟨b, bx, h1, h2⟩ := h
  obtain ⟨bx0, h4, rfl⟩ := wkSt_some h1
  exact ⟨b, bx0, h4, h2⟩
theorem mt_wkSt : X.mt (wkSt s) β Rd = X.mt s β Rd := by
  funext g
  simp only [Cx.mt, owns_wkSt]
theorem wkSt_good (h : Good X s a w β cp Rd) : Good X (wkSt s) a w β cp Rd where
  defers := h.defers
  size := h.size
  keeps := h.keeps
  fresh := fun b hb => h.fresh b ((wkSt_keyed b).1 hb)
  org := fun b bx g h1 h2 => by
    obtain ⟨bx0, h4, rfl⟩ := wkSt_some h1
    exact h.org b bx0 g h4 h2
  own_rd := fun g hg => h.own_rd g (has_wkSt hg)
  own_av := fun g hg => h.own_av g (has_wkSt hg)
  rdsame := h.rdsame
  inj := fun b b' bx bx' g h1 h2 h3 h4 => by
    obtain ⟨_, h5, rfl⟩ := wkSt_some h1
    obtain ⟨_, h6, rfl⟩ := wkSt_some h2
    exact h.inj b b' _ _ g h5 h6 h3 h4
  rd0 := h.rd0
  rdge := h.rdge
  avlt := h.avlt
  npin := h.npin
  pin := fun i q hq => by
    obtain ⟨h1, h2⟩ := h.pin i q hq
    refine ⟨(wkSt_keyed i).2 h1, fun bx hb => ?_⟩
    obtain ⟨bx0, h4, rfl⟩ := wkSt_some hb
    rw [wkB_len]
    exact h2 bx0 h4
  rdok := by rw [mt_wkSt]; exact h.rdok
  glob := h.glob
  kept := fun g hg => by
    obtain ⟨k1, k2, k3, k4, k5⟩ := h.kept g hg
    refine ⟨k1, k2, fun ho => k3 ((owns_wkSt g).1 ho), k4, fun ⟨b, bx, es, clk, m1, m2, m3⟩ => ?_⟩
    obtain ⟨bx0, h4, rfl⟩ := wkSt_some m1
    exact k5 ⟨b, bx0, es, clk, h4, m2, m3⟩
  env := fun t => by
    rw [wkSt_get, mt_wkSt]
    exact (h.env t).wk hOf_wkSt' hOf_wkSt
  boxes := fun b bx hb => by
    obtain ⟨bx0, h4, rfl⟩ := wkSt_some hb
    rw [mt_wkSt]
    rcases h.boxes b bx0 h4 with k | ⟨k1, k2, k3⟩
    · refine .inl ?_
      rcases k with ⟨k1, k2, k3⟩ | ⟨g, cur, k1, k2, k3, k4, k5, k6, k7, k8⟩
      · exact .inl ⟨k1, by simp [wkB, k2, wkEs], k3⟩
      · refine .inr ⟨g, cur, k1, k2, k3, by rw [wkB_len]; exact k4, k5, fun e he => ?_, fun hr e he c hc => ?_, fun i j e c h1 h2 => ?_⟩
        · simp only [wkB, wkEs_map, List.mem_map] at he
          obtain ⟨e0, he, rfl⟩ := he
          rw [wkCs_len]; exact k6 e0 he
        · simp only [wkB, wkEs_map, List.mem_map] at he
          obtain ⟨e0, he, rfl⟩ := he
          rw [wkCs_map, List.mem_map] at hc
          obtain ⟨c0, hc, rfl⟩ := hc
          rw [wkC_okR]; exact k7 hr e0 he c0 hc
        · simp only [wkB, wkEs_get, Option.map_eq_some_iff] at h1
          obtain ⟨e0, h1, rfl⟩ := h1
          rw [wkCs_get, Option.map_eq_some_iff] at h2
          obtain ⟨c0, h2, rfl⟩ := h2
          exact (k8 i j e0 c0 h1 h2).wk hOf_wkSt' hOf_wkSt
    · exact .inr ⟨by simp [wkB, k1, wkEs], k2, k3⟩
theorem ent_wkSt (s : St) : Ent s (wkSt s) := fun X a w ⟨β, cp, Rd, h⟩ => ⟨β, cp, Rd, wkSt_good h⟩
end wkst
/-- A contract for arguments that are described more tightly. -/
def wkIn (sp : Spec) : Spec := { sp with
  pre := fun args ins => sp.pre (args.map wkA) ins
  post := fun args ins r bs => sp.post (args.map wkA) ins r bs }
/-- A result that may be tighter. -/
def wkOut (sp : Spec) : Spec := { sp with post := fun args ins r bs => sp.post args ins (wkA r) (bs.map wkB) }
theorem sat_in {P : Program} {rt : RT} {f : Nat} {sp : Spec} (h : Sat P rt f sp) : Sat P rt f (wkIn sp) := by
  intro w Av Rd pk args vs ins β0 cp0 T hpre hpk
  have T' : Takes rt w Av Rd pk (args.map wkA) vs ins β0 cp0 := { T with
    size := by rw [List.length_map]; exact T.size
    args := fun j x hx => by
      rw [List.getElem?_map, Option.map_eq_some_iff] at hx
      obtain ⟨x0, hx, rfl⟩ := hx
      exact (T.args j x0 hx).wk (hOf_wk _ _ _) (wkIdx_rfl _) }
  refine (h w Av Rd pk _ vs ins β0 cp0 T' hpre hpk).mono fun e w' ⟨v, r, bs, β, cp, Rd', h1, h2, h3⟩ => ?_
  exact ⟨v, r, bs, β, cp, Rd', h1, h2, { h3 with }⟩
theorem expSt_wk (bs : List Box) (b : Nat) : (expSt (bs.map wkB)).box b = ((expSt bs).box b).map wkB := by rw [exp_box, exp_box, List.getElem?_map]
theorem expSt_keyed (bs : List Box) (b : Nat) : (expSt (bs.map wkB)).keyed b ↔ (expSt bs).keyed b := by rw [exp_keyed, exp_keyed, List.length_map]
theorem hOf_exp {bs : List Box} {β : Nat → Option Nat} {cp : Nat → Nat} : wkIdx (hOf (expSt bs) β cp) (hOf (expSt (bs.map wkB)) β cp) := by
  rintro c v ⟨b, n, h1, h2, h3⟩
  refine ⟨b, n, h1, (expSt_keyed bs b).2 h2, fun bx hb => ?_⟩
  rw [expSt_wk, Option.map_eq_some_iff] at hb
  obtain ⟨bx0, h4, rfl⟩ := hb
  rw [wkB_len]
  exact h3 bx0 h4
theorem hOf_exp' {bs : List Box} {β : Nat → Option Nat} {cp : Nat → Nat} : WkH (hOf (expSt bs) β cp) (hOf (expSt (bs.map wkB)) β cp) := fun c v h => hOf_exp _ _ (hOf_wk _ β cp c v h)
theorem has_exp {bs : List Box} {β : Nat → Option Nat} (g : Nat) : has (expSt (bs.map wkB)) β g ↔ has (expSt bs) β g := by
  constructor
  · rintro ⟨b, bx, h1, h2⟩
    rw [expSt_wk, Option.map_eq_some_iff] at h1
    obtain ⟨bx0, h4, rfl⟩ := h1
    exact ⟨b, bx0, h4, h2⟩
  · rintro ⟨b, bx, h1, h2⟩
    exact ⟨b, wkB bx, by rw [expSt_wk, h1]; rfl, h2⟩
theorem avoid_exp {bs : List Box} {β : Nat → Option Nat} (Av Rd' : Nat → Prop) (flat : Bool) (sz : Nat) : avoid Av (bs.map wkB) β Rd' flat sz = avoid Av bs β Rd' flat sz := by
  funext g
  simp only [avoid, has_exp]
theorem BoxOK.wk {w : World} {Mt Rd : Nat → Prop} {H H' : C → Value → Prop} (h1 : WkH H H') (h2 : wkIdx H H') {β : Option Nat} {cp : Nat} {bx : Box} (h : BoxOK w (MC w Mt Rd H) β cp bx) : BoxOK w (MC w Mt Rd H') β cp (wkB bx) := by
  rcases h with k | ⟨k1, k2, k3⟩
  · refine .inl ?_
    rcases k with ⟨k1, k2, k3⟩ | ⟨g, cur, k1, k2, k3, k4, k5, k6, k7, k8⟩
    · exact .inl ⟨k1, by simp [wkB, k2, wkEs], k3⟩
    · refine .inr ⟨g, cur, k1, k2, k3, by rw [wkB_len]; exact k4, k5, fun e he => ?_, fun hr e he c hc => ?_, fun i j e c e1 e2 => ?_⟩
      · simp only [wkB, wkEs_map, List.mem_map] at he
        obtain ⟨e0, he, rfl⟩ := he
        rw [wkCs_len]; exact k6 e0 he
      · simp only [wkB, wkEs_map, List.mem_map] at he
        obtain ⟨e0, he, rfl⟩ := he
        rw [wkCs_map, List.mem_map] at hc
        obtain ⟨c0, hc, rfl⟩ := hc
        rw [wkC_okR]; exact k7 hr e0 he c0 hc
      · simp only [wkB, wkEs_get, Option.map_eq_some_iff] at e1
        obtain ⟨e0, e1, rfl⟩ := e1
        rw [wkCs_get, Option.map_eq_some_iff] at e2
        obtain ⟨c0, e2, rfl⟩ := e2
        exact (k8 i j e0 c0 e1 e2).wk h1 h2
  · exact .inr ⟨by simp [wkB, k1, wkEs], k2, k3⟩
theorem sat_out {P : Program} {rt : RT} {f : Nat} {sp : Spec} (h : Sat P rt f (wkOut sp)) : Sat P rt f sp := by
  intro w Av Rd pk args vs ins β0 cp0 T hpre hpk
  refine (h w Av Rd pk _ vs ins β0 cp0 T hpre hpk).mono fun e w' ⟨v, r, bs, β, cp, Rd', h1, h2, h3⟩ => ?_
  have hb : ∀ {b : Nat} {bx : Box}, (bs.map wkB)[b]? = some bx → ∃ bx0, bs[b]? = some bx0 ∧ bx = wkB bx0 := fun h => by
    rw [List.getElem?_map, Option.map_eq_some_iff] at h
    obtain ⟨x, h, rfl⟩ := h
    exact ⟨x, h, rfl⟩
  refine ⟨v, wkA r, bs.map wkB, β, cp, Rd', h1, h2, ?_⟩
  exact {
    keeps := h3.keeps
    few := by rw [List.length_map]; exact h3.few
    long := by rw [List.length_map]; exact h3.long
    rd := h3.rd
    rdge := h3.rdge
    same := h3.same
    rdok := by rw [avoid_exp]; exact h3.rdok
    rdnew := by rw [avoid_exp]; exact h3.rdnew
    value := by rw [avoid_exp]; exact h3.value.wk hOf_exp' hOf_exp
    boxes := fun b bx e1 => by
      obtain ⟨bx0, e2, rfl⟩ := hb e1
      obtain ⟨k1, k2⟩ := h3.boxes b bx0 e2
      refine ⟨k1, ?_⟩
      rw [avoid_exp]
      exact k2.wk hOf_exp' hOf_exp
    org := fun b bx g e1 e2 => by
      obtain ⟨bx0, e3, rfl⟩ := hb e1
      exact h3.org b bx0 g e3 e2
    inj := fun b b' bx bx' g e1 e2 e3 e4 => by
      obtain ⟨_, e5, rfl⟩ := hb e1
      obtain ⟨_, e6, rfl⟩ := hb e2
      exact h3.inj b b' _ _ g e5 e6 e3 e4
    pins := fun i bx0 bx e1 e2 => by
      obtain ⟨bx1, e3, rfl⟩ := hb e2
      rw [wkB_len]
      exact h3.pins i bx0 bx1 e1 e3 }
/-- Under a loop's head: what the state must be, 'wk': rows may become less tight. -/
def EntL (wk : Bool) (ρ : St → List (Nat × Nat)) (s s' : St) : Prop :=
  match wk with
  | true => EntC (ρ s) (wkSt s) s'
  | false => EntC (ρ s) s s'
theorem EntL.ent {wk : Bool} {ρ : St → List (Nat × Nat)} {s s' : St} (h : EntL wk ρ s s') : Ent s s' := by
  cases wk with
  | true => exact fun X a w hr => EntC.ent h X a w (ent_wkSt s X a w hr)
  | false => exact EntC.ent h
/-- A LOOP: 'up', 'ub': what the slots and boxes hold that it changes, as a function of x; 'D': x, read off a state. -/
theorem loopS {tt : Nat → Option TI} {tab : Nat → Option Spec} {sq : Nat → Bool} {c : Code} {s : St} {Q : Ex → St → Prop} {α : Type} (wk : Bool) (dead : List Nat) (bd : St → List Nat) (up : St → α → List (Nat × AV)) (ub : St → α → List (Nat × Option Box)) (ck : α → Nat) (D : St → α) (R : St → St → List (Nat × Nat)) (Inv : α → Prop) (m : α → Nat)
    (h : (Inv (D s) ∧ EntL wk (R s) s (famS s (up s (D s)) dead (ub s (D s)) (bd s) (s.pk + ck (D s)))) ∧
      ∀ x, Inv x → runW tt tab Ent (dwS tt tab sq) c (famS s (up s x) dead (ub s x) (bd s) (s.pk + ck x)) (seqK Q fun s' => Inv (D s') ∧ m (D s') < m x ∧ EntL wk (R s) s' (famS s (up s (D s')) dead (ub s (D s')) (bd s) (s.pk + ck (D s'))))) :
    runW tt tab Ent (dwS tt tab sq) (.loop c) s Q := by
  refine ⟨α, fun x => famS s (up s x) dead (ub s x) (bd s) (s.pk + ck x), Inv, m, D s, h.1.1, h.1.2.ent, fun x hx => runW_mono c _ (fun e s' hs => ?_) (h.2 x hx)⟩
  cases e with
  | normal => exact ⟨D s', hs.1, hs.2.1, hs.2.2.ent⟩
  | exit i => exact hs
  | ret => exact hs

def decAll {α : Type} (f : List C → Option α) : List (List C) → Option (List α)
  | [] => some []
  | e :: r => match f e, decAll f r with
    | some x, some l => some (x :: l)
    | _, _ => none
theorem decAll_map {α : Type} {f : List C → Option α} {g : α → List C} (h : ∀ x, f (g x) = some x) : ∀ l : List α, decAll f (l.map g) = some l
  | [] => rfl
  | x :: l => by simp [decAll, h, decAll_map h l]
theorem decAll_app {α : Type} (f : List C → Option α) : ∀ a b : List (List C), decAll f (a ++ b) = match decAll f a, decAll f b with
    | some x, some y => some (x ++ y)
    | _, _ => none
  | [], b => by simp [decAll]; cases decAll f b <;> rfl
  | e :: r, b => by
    simp only [List.cons_append, decAll, decAll_app f r b]
    cases f e <;> cases decAll f r <;> cases decAll f b <;> rfl
/-! What is read off a state. -/
def gI : AV → Int
  | .c (.v (.int _ n)) => n
  | _ => 0
def gBo : AV → Bool
  | .c (.v (.bool b)) => b
  | _ => false
def gSt : AV → ByteArray
  | .c (.v (.string b)) => b
  | _ => ByteArray.empty
def gId : AV → Nat
  | .c (.own b _ _) => b
  | .c (.ptr b _ _ _) => b
  | .c (.vw b _ _ _) => b
  | _ => 0
def gEs (s : St) : C → List (List C)
  | .own b _ _ => match s.box b with
    | some bx => bx.es
    | none => []
  | .vw b _ lo hi => match s.box b with
    | some bx => (bx.es.take hi).drop lo
    | none => []
  | .sl _ es => es
  | _ => []
def gC : AV → C
  | .c x => x
  | _ => .bot
def gL {α : Type} (dec : List C → Option α) (s : St) (x : AV) : List α := (decAll dec (gEs s (gC x))).getD []
def gA {α : Type} (dec : List C → Option α) (z : α) (x : AV) : α := (dec (cellsOf x)).getD z
/-- A cell of a variable's box. -/
def gV (s : St) (b j : Nat) : AV := match s.box b with
  | some bx => .c ((bx.es.headD [])[j]?.getD .bot)
  | none => .c .bot
end Go.VE
end
section
namespace Go.VE
open Go
/-! Words for all seats. -/
abbrev I (n : Int) : AV := .c (.v (.int .i64 n))
abbrev B (b : Bool) : AV := .c (.v (.bool b))
theorem Hold_snd {α β : Type} (b : β) (φ : α → β → Prop) (K : α × β → Prop) : Hold (fun x => x.2 = b ∧ φ x.1 x.2) K = Hold (fun r => φ r b) (fun r => K (r, b)) := by
  simp [Hold]
theorem Hold_eqand {α : Type} (a : α) (p : Prop) (K : α → Prop) : Hold (fun x => x = a ∧ p) K = (p → K a) := by
  simp [Hold]
theorem Hold_true {α : Type} (K : α → Prop) : Hold (fun _ => True) K = ∀ e, K e := by simp [Hold]
theorem all_len {α : Type} {g : α → List C} {n : Nat} (h : ∀ x, (g x).length = n) (l : List α) : (∀ e ∈ l.map g, e.length = n) = True := by simp [h]
theorem pureV_map {α : Type} {g : α → List C} (h : ∀ x, ∀ c ∈ g x, okV c = true) (l : List α) : pureV (l.map g) = True := by
  simp only [eq_iff_iff, iff_true]
  intro e he c hc
  obtain ⟨x, _, rfl⟩ := List.mem_map.1 he
  exact h x c hc
theorem pureV_nil : pureV [] = True := by simp [pureV]
theorem pureV_cons (e : List C) (r : List (List C)) : pureV (e :: r) = ((∀ c ∈ e, okV c = true) ∧ pureV r) := by simp [pureV]
theorem pureV_app (a b : List (List C)) : pureV (a ++ b) = (pureV a ∧ pureV b) := by simp [pureV, or_imp, forall_and]
theorem all_len1 (c : List C) (n : Nat) : (∀ e ∈ [c], e.length = n) = (c.length = n) := by simp
theorem all_len0 (n : Nat) : (∀ e ∈ ([] : List (List C)), e.length = n) = True := by simp
theorem all_lenA (a b : List (List C)) (n : Nat) : (∀ e ∈ a ++ b, e.length = n) = ((∀ e ∈ a, e.length = n) ∧ ∀ e ∈ b, e.length = n) := by simp [or_imp, forall_and]
theorem all_lenC (a : List C) (b : List (List C)) (n : Nat) : (∀ e ∈ a :: b, e.length = n) = (a.length = n ∧ ∀ e ∈ b, e.length = n) := by simp [or_imp, forall_and]
theorem map_takeS {α : Type} (g : α → List C) (l : List α) (i : Nat) : (l.map g).take i = (l.take i).map g := (List.map_take ..).symm
theorem map_dropS {α : Type} (g : α → List C) (l : List α) (i : Nat) : (l.map g).drop i = (l.drop i).map g := (List.map_drop ..).symm
def decBad {α : Type} (f : List C → Option α) (es : List (List C)) (i : Nat) (e : List C) : Option (List α) := decAll f (es.set i e)
theorem decAll_set {α : Type} (f : List C → Option α) (es : List (List C)) (i : Nat) (e : List C) : decAll f (es.set i e) = match decAll f es, f e with
    | some l, some x => some (l.set i x)
    | _, _ => decBad f es i e := by
  unfold decBad
  cases hx : f e with
  | none => cases decAll f es <;> rfl
  | some x =>
    induction es generalizing i with
    | nil => rfl
    | cons a r ih =>
      cases i with
      | zero =>
        simp only [List.set_cons_zero, decAll, hx]
        cases f a <;> cases decAll f r <;> rfl
      | succ i =>
        have := ih i
        simp only [List.set_cons_succ, decAll]
        cases f a with
        | none => rfl
        | some y =>
          cases hr : decAll f r with
          | none => rfl
          | some l => rw [hr] at this; simp only at this; rw [this]; rfl
def intC (n : Int) : List C := [.v (.int .i64 n)]
def intCd : List C → Option Int
  | [.v (.int .i64 n)] => some n
  | _ => none
theorem intC_ds (l : List Int) : decAll intCd (l.map intC) = some l := decAll_map (g := intC) (fun _ => rfl) l
theorem intC_dec (k : Int) : intCd (intC k) = some k := rfl
theorem intC_all (l : List Int) : (∀ e ∈ l.map intC, e.length = 1) = True := all_len (g := intC) (fun _ => rfl) l
theorem intC_pure (l : List Int) : pureV (l.map intC) = True := pureV_map (fun x c hc => by
  simp only [intC, List.mem_cons, List.not_mem_nil, or_false] at hc
  rw [hc]; rfl) l
theorem intC_wk (l : List Int) : wkEs (l.map intC) = l.map intC := by simp [wkEs_map, wkCs, wkC, intC]
theorem byC_all (l : List UInt8) : (∀ e ∈ byC l, e.length = 1) = True := by simp [byC]
theorem byC_len (l : List UInt8) : (byC l).length = l.length := by simp [byC]
theorem byC_wk (l : List UInt8) : wkEs (byC l) = byC l := by simp [wkEs_map, wkCs, wkC, byC]
def byD : List C → Option UInt8
  | [.v (.int .u8 n)] => some (UInt8.ofNat n.toNat)
  | _ => none
theorem byC_ds (l : List UInt8) : decAll byD (byC l) = some l := decAll_map (g := fun b : UInt8 => [C.v (.int .u8 b.toNat)]) (fun b => by simp [byD]) l
theorem wkIn_flat (s : Spec) : (wkIn s).flat = s.flat := rfl
theorem wkIn_mt (s : Spec) : (wkIn s).mt = s.mt := rfl
theorem wkIn_shut (s : Spec) : (wkIn s).shut = s.shut := rfl
theorem wkIn_cost (s : Spec) : (wkIn s).cost = s.cost := rfl
theorem wkIn_pre (s : Spec) (a : List AV) (i : List Box) : (wkIn s).pre a i = s.pre (a.map wkA) i := rfl
theorem wkIn_post (s : Spec) (a : List AV) (i : List Box) (r : AV) (b : List Box) : (wkIn s).post a i r b = s.post (a.map wkA) i r b := rfl
theorem wkOut_flat (s : Spec) : (wkOut s).flat = s.flat := rfl
theorem wkOut_mt (s : Spec) : (wkOut s).mt = s.mt := rfl
theorem wkOut_shut (s : Spec) : (wkOut s).shut = s.shut := rfl
theorem wkOut_cost (s : Spec) : (wkOut s).cost = s.cost := rfl
theorem wkOut_pre (s : Spec) (a : List AV) (i : List Box) : (wkOut s).pre a i = s.pre a i := rfl
theorem wkOut_post (s : Spec) (a : List AV) (i : List Box) (r : AV) (b : List Box) : (wkOut s).post a i r b = s.post a i (wkA r) (b.map wkB) := rfl
attribute [go_sem] runW_skip runW_region runW_draw runW_seq runW_cond runW_ret runW_exit runW_block seqK blockK condW opsW_nil opsW_plain opsW_guard opW_lit dstOK dwS opS_move opS_assign opS_pick opS_alloc opS_box opS_build opS_buildSlice opS_load opS_store opS_nilCheck opS_binOp opS_unOp opS_convert
attribute [go_sem] opS_makeSlice opS_fieldAddr opS_field opS_indexAddr opS_index opS_extract opS_slice opS_len opS_append opS_copy opS_min opS_max opS_call opS_callv opS_makeFunc opS_makeMap opS_mapUpdate isNilS makeMapS mapUpdS updM intsOf assignS pickS allocS nilS minS lenS appendS sliceS
attribute [go_sem] boundOf copyS copyS.srcLen makeFuncS callV callS passIds gather FUEL memN unfz isVar hkey idxOf renC0 renC renA1 renA renB renOk0 renOk0s renOk renOks mtCells lent passA passOkA boxN passBs passOkB
attribute [go_sem] disjN distN mapC0 mapC mapA1 mapA mapB backId addOut baseS setPk afterS sealC sealOk sealOks sealPs rowIds rowIdsL hd1 okR0s capIds freeze setId strip loaded okC okCs okR okRs Res.app_mk1 Res.app_mkE Res.app_no St.ev
attribute [go_sem] St.get lkE nthL St.put St.box lkB St.setBox newBox cellsOf fieldAddrS loadS mkAV binS isNilK ifaceS b8s okB8 arith unS ofConst TK.agg boxS elemSz ieq ints over fillC partsOK lensAll idsAre constC buildS buildSliceS storeS
attribute [go_sem] makeSliceS indexAddrS indexS extractS convertS srcOf fieldS InR guardB guardW ttOf entSt envOf expHp retQ retW retE resAV rvS rvOk xids numsOf varCells allCells catCells expA expA1 expC expC0 expOks
attribute [go_sem] expOk expOk0 expOk0s flatOks flatOk flatOk0 flatOk0s expBs expBoxes expB famSpec famPre famPost famSpecS famSpecM famPreM famPostM Hold_ex Hold_and Hold_eq Hold_eq' Hold_pair Hold_pair3 Hold_or ifP_decide ifP_beq ifP true_and and_true List.getElem?_cons_zero
attribute [go_sem] List.length_cons List.length_nil Nat.zero_add List.drop_zero List.take_succ_cons List.take_zero List.drop_succ_cons Option.some.injEq Option.getD_some Option.getD_none decide_eq_true_eq decide_eq_false_iff_not Bool.not_eq_true' List.map_cons List.map_nil List.length_map Option.map_some Option.map_none Option.bind_some Option.bind_none Bool.not_true Bool.not_false Bool.true_eq_false Bool.false_eq_true false_implies not_true_eq_false not_false_eq_true Nat.zero_le Nat.le_refl Nat.add_zero
attribute [go_sem] true_implies or_true true_or or_false false_or and_false false_and decide_true decide_false Bool.and_true Bool.true_and Bool.and_false Bool.false_and Prod.forall Prod.exists and_imp List.cons.injEq AV.c.injEq AV.agg.injEq C.v.injEq C.sl.injEq Go.Value.int.injEq Go.Value.bool.injEq and_self and_assoc Prod.mk.injEq Nat.mul_one List.cons_append List.nil_append List.set_cons_zero
attribute [go_sem] List.set_cons_succ Nat.one_ne_zero List.drop_nil List.take_nil List.getElem?_cons_succ List.getElem?_nil List.length_replicate List.append_nil Bool.and_self Bool.or_true Bool.true_or Bool.or_false Bool.false_or Bool.or_self BEq.rfl beq_self_eq_true Nat.lt_add_one Nat.zero_lt_succ Nat.not_lt_zero Option.isSome_some Option.isSome_none List.all_nil List.all_cons List.flatten_cons List.flatten_nil List.isEmpty_nil List.contains_nil List.flatMap_cons List.flatMap_nil List.length_append
attribute [go_sem] decAll gI gBo gSt gId gEs gC gL gA gV famS dropE dropB EntL EntC wkSt wkB wkA wkA1 wkC wkCs wkEs_app wkEs leEnv leA leA1 leAs leCs leC leC0
attribute [go_sem] leC0s slOf leHp leB leEs rho keyB keptB injR preR decAll_app Box.mk.injEq C.own.injEq pureV_app pureV_cons pureV_nil List.foldl_nil List.headD_cons AV.tup.injEq Hold_snd Hold_eqand Hold_true all_len1 all_len0 all_lenA all_lenC map_takeS map_dropS decAll_set intC
attribute [go_sem] intC_ds intC_dec intCd.eq_1 intC_all intC_pure intC_wk byC_all byC_len byC_wk byC_ds wkIn_flat wkIn_mt wkIn_shut wkIn_cost wkIn_pre wkIn_post wkOut_flat wkOut_mt wkOut_shut wkOut_cost wkOut_pre wkOut_post List.getElem?_map Option.map_eq_some_iff List.map_append List.length_set Int.toNat_natCast Int.toNat_zero Bool.decide_eq_true
end Go.VE
end
section
namespace Go.VE
/-! Rows, place by place. -/
theorem takeN {α : Type} {l : List α} {i : Int} {k : α} (h : l[i.toNat]? = some k) (h0 : 0 ≤ i) : l.take (i + 1).toNat = l.take i.toNat ++ [k] := by
  rw [show (i + 1).toNat = i.toNat + 1 by omega, List.take_add_one, h]; rfl
theorem dropN {α : Type} {l : List α} {i : Int} {k : α} (h : l[i.toNat]? = some k) (h0 : 0 ≤ i) : l.drop i.toNat = k :: l.drop (i + 1).toNat := by
  rw [show (i + 1).toNat = i.toNat + 1 by omega]
  obtain ⟨h1, rfl⟩ := List.getElem?_eq_some_iff.1 h
  exact List.drop_eq_getElem_cons h1
theorem takeA {α : Type} {l : List α} {i : Int} (h : (l.length : Int) ≤ i) : l.take i.toNat = l := List.take_of_length_le (by omega)
theorem dropA {α : Type} {l : List α} {i : Int} (h : (l.length : Int) ≤ i) : l.drop i.toNat = [] := List.drop_eq_nil_of_le (by omega)
theorem some_lt {α : Type} {l : List α} {i : Int} {k : α} (h : l[i.toNat]? = some k) (h0 : 0 ≤ i) : i < l.length := by
  have := (List.getElem?_eq_some_iff.1 h).1
  omega
theorem all_bad {α : Type} {l : List α} {p : α → Bool} {i : Nat} {k : α} (hk : l[i]? = some k) (hp : p k = false) : l.all p = false := by
  rw [List.all_eq_false]
  exact ⟨k, List.mem_of_getElem? hk, by simp [hp]⟩
theorem len_map {α β : Type} (f : α → β) (l : List α) : (l.map f).length = l.length := List.length_map ..
theorem elemAt {α : Type} (l : List α) (i : Int) (h0 : 0 ≤ i) : ((i < (l.length : Int)) = True ∧ ∃ k, l[i.toNat]? = some k) ∨ (i < (l.length : Int)) = False := by
  by_cases h : i < (l.length : Int)
  · exact .inl ⟨eq_true h, _, List.getElem?_eq_getElem (by omega)⟩
  · exact .inr (eq_false h)
theorem kind4 (k : Int) : k = 0 ∨ k = 1 ∨ k = 2 ∨ k = 3 ∨ k = 4 ∨ (k = 0) = False ∧ (k = 1) = False ∧ (k = 2) = False ∧ (k = 3) = False ∧ (k = 4) = False := by
  simp only [eq_iff_iff, iff_false]; omega
end Go.VE
end
