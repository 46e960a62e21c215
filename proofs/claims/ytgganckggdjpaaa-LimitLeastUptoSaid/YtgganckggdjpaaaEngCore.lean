/- The base of an own small logic over the kit's 'Code.wp': assertions with footprints, environments of temporaries, judgements for code and for operations. -/
import Derived.StillTail
import Derived.Orders
import Derived.OrdersHeld
import Derived.OrdersIn
import Derived.TacticsIn
import Derived.LoopNIn
import Derived.RangeFuncRecord
import Derived.Below
import Derived.Laws.OwnMore
namespace Go.Eng
open Go

abbrev Fp := Nat → Prop

/-- An assertion on a world: F are blocks that it owns, G blocks that may be read and that nobody writes any more. -/
structure Asr where
  p : World → Fp → Fp → Prop
  loc : ∀ (w w' : World) (F G : Fp), p w F G → (∀ b, F b ∨ G b → w'.heap[b]? = w.heap[b]?) → p w' F G
  mono : ∀ (w : World) (F G G' : Fp), p w F G → (∀ b, G b → G' b) → p w F G'

def Star (L : List Asr) (w : World) (F G : Fp) : Prop :=
  ∃ Fs : Nat → Fp, (∀ (i : Nat) (A : Asr), L[i]? = some A → A.p w (Fs i) G) ∧ (∀ (i b : Nat), i < L.length → Fs i b → F b) ∧
    (∀ i j b : Nat, i < L.length → j < L.length → i ≠ j → Fs i b → ¬ Fs j b)

structure Ctx where
  w0 : World
  F0 : Fp
  G0 : Fp

structure Frm (c : Ctx) (w : World) : Prop where
  os : w.os = c.w0.os
  tape : w.tape = c.w0.tape
  output : w.output = c.w0.output
  size : c.w0.heap.size ≤ w.heap.size
  block : ∀ b, b < c.w0.heap.size → ¬ c.F0 b → w.heap[b]? = c.w0.heap[b]?

structure Good (c : Ctx) (w : World) (F G : Fp) : Prop where
  frm : Frm c w
  dis : ∀ b, F b → ¬ G b
  dom : ∀ b, F b ∨ G b → b < w.heap.size
  own : ∀ b, F b → c.F0 b ∨ c.w0.heap.size ≤ b
  shr : ∀ b, G b → c.G0 b ∨ c.F0 b ∨ c.w0.heap.size ≤ b

def Sat (c : Ctx) (L : List Asr) (w : World) : Prop := ∃ F G, Star L w F G ∧ Good c w F G

theorem Star.loc {L : List Asr} {w w' : World} {F G : Fp} (h : Star L w F G) (hw : ∀ b, F b ∨ G b → w'.heap[b]? = w.heap[b]?) : Star L w' F G := by
  obtain ⟨Fs, h1, h2, h3⟩ := h
  refine ⟨Fs, fun i A hi => A.loc _ _ _ _ (h1 i A hi) fun b hb => hw b ?_, h2, h3⟩
  have hl : i < L.length := (List.getElem?_eq_some_iff.1 hi).1
  exact hb.imp (h2 i b hl) id

theorem Star.mono {L : List Asr} {w : World} {F F' G G' : Fp} (h : Star L w F G) (hF : ∀ b, F b → F' b) (hG : ∀ b, G b → G' b) : Star L w F' G' := by
  obtain ⟨Fs, h1, h2, h3⟩ := h
  exact ⟨Fs, fun i A hi => A.mono _ _ _ _ (h1 i A hi) hG, fun i b hi hb => hF b (h2 i b hi hb), h3⟩

/-- A part of the list, in whatever order: entry k of it is entry σ[k] of the old one. -/
def pickL (L : List Asr) : List Nat → Option (List Asr)
  | [] => some []
  | i :: σ => match L[i]?, pickL L σ with
    | some A, some R => some (A :: R)
    | _, _ => none

theorem pickL_get {L : List Asr} : ∀ {σ : List Nat} {R : List Asr}, pickL L σ = some R → R.length = σ.length ∧ ∀ (k : Nat) (A : Asr), R[k]? = some A → ∃ i : Nat, σ[k]? = some i ∧ L[i]? = some A
  | [], R, h => by simp [pickL] at h; subst h; simp
  | i :: σ, R, h => by
    simp only [pickL] at h
    split at h
    · rename_i A R' hA hR
      obtain rfl := Option.some.inj h
      obtain ⟨hl, hg⟩ := pickL_get hR
      refine ⟨by simp [hl], fun k B hk => ?_⟩
      cases k with
      | zero => simp at hk; subst hk; exact ⟨i, by simp, hA⟩
      | succ k => simp at hk ⊢; exact hg k B hk
    · cases h

def memB (i : Nat) : List Nat → Bool
  | [] => false
  | j :: σ => Nat.beq i j || memB i σ
def nd : List Nat → Bool
  | [] => true
  | i :: σ => !memB i σ && nd σ
theorem memB_iff {i : Nat} : ∀ {σ : List Nat}, memB i σ = true ↔ i ∈ σ
  | [] => by simp [memB]
  | j :: σ => by simp [memB, memB_iff, Nat.beq_eq]
theorem nd_nodup : ∀ {σ : List Nat}, nd σ = true → σ.Nodup
  | [], _ => List.nodup_nil
  | i :: σ, h => by
    simp only [nd, Bool.and_eq_true, Bool.not_eq_true'] at h
    refine List.nodup_cons.2 ⟨fun hm => ?_, nd_nodup h.2⟩
    rw [memB_iff.2 hm] at h
    cases h.1

theorem nodup_get {σ : List Nat} (h : σ.Nodup) {k j i i' : Nat} (hk : σ[k]? = some i) (hj : σ[j]? = some i') (hne : k ≠ j) : i ≠ i' := by
  intro e
  subst e
  obtain ⟨h1, h1'⟩ := List.getElem?_eq_some_iff.1 hk
  obtain ⟨h2, h2'⟩ := List.getElem?_eq_some_iff.1 hj
  have hp := List.pairwise_iff_getElem.1 h
  rcases Nat.lt_or_gt_of_ne hne with hlt | hlt
  · exact hp k j h1 h2 hlt (h1'.trans h2'.symm)
  · exact hp j k h2 h1 hlt (h2'.trans h1'.symm)

theorem Star.pick {L R : List Asr} {w : World} {F G : Fp} (σ : List Nat) (hσ : nd σ = true) (hp : pickL L σ = some R) (h : Star L w F G) : Star R w F G := by
  obtain ⟨Fs, h1, h2, h3⟩ := h
  obtain ⟨hl, hg⟩ := pickL_get hp
  have key : ∀ k, k < R.length → ∃ i, σ[k]? = some i ∧ i < L.length := fun k hk => by
    obtain ⟨i, hi, hA⟩ := hg k R[k] (by simp [hk])
    exact ⟨i, hi, (List.getElem?_eq_some_iff.1 hA).1⟩
  refine ⟨fun k => Fs (σ.getD k 0), fun k A hk => ?_, fun k b hk hb => ?_, fun k j b hk hj hne hb hb' => ?_⟩
  · obtain ⟨i, hi, hA⟩ := hg k A hk
    simp only [List.getD_eq_getElem?_getD, hi, Option.getD_some]
    exact h1 i A hA
  · obtain ⟨i, hi, hlt⟩ := key k hk
    simp only [List.getD_eq_getElem?_getD, hi, Option.getD_some] at hb
    exact h2 i b hlt hb
  · obtain ⟨i, hi, hlt⟩ := key k hk
    obtain ⟨i', hi', hlt'⟩ := key j hj
    simp only [List.getD_eq_getElem?_getD, hi, Option.getD_some] at hb
    simp only [List.getD_eq_getElem?_getD, hi', Option.getD_some] at hb'
    exact h3 i i' b hlt hlt' (nodup_get (nd_nodup hσ) hi hi' hne) hb hb'

/-- Two lists over apart footprints. -/
theorem Star.append {L R : List Asr} {w : World} {F1 F2 F G : Fp} (h : Star L w F1 G) (k : Star R w F2 G) (hd : ∀ b, F1 b → ¬ F2 b) (h1 : ∀ b, F1 b → F b) (h2 : ∀ b, F2 b → F b) : Star (L ++ R) w F G := by
  obtain ⟨Fs, a1, a2, a3⟩ := h
  obtain ⟨Gs, b1, b2, b3⟩ := k
  refine ⟨fun i => if i < L.length then Fs i else Gs (i - L.length), fun i A hi => ?_, fun i b hi hb => ?_, fun i j b hi hj hne hb hb' => ?_⟩
  · by_cases hl : i < L.length
    · simp only [hl, if_true]; exact a1 i A (by rwa [List.getElem?_append_left hl] at hi)
    · simp only [hl, if_false]; exact b1 _ A (by rwa [List.getElem?_append_right (by omega)] at hi)
  · by_cases hl : i < L.length
    · simp only [hl, if_true] at hb; exact h1 b (a2 i b hl hb)
    · simp only [hl, if_false] at hb; simp at hi; exact h2 b (b2 _ b (by omega) hb)
  · simp at hi hj
    by_cases hl : i < L.length <;> by_cases hl' : j < L.length
    · simp only [hl, hl', if_true] at hb hb'; exact a3 i j b hl hl' hne hb hb'
    · simp only [hl, hl', if_true, if_false] at hb hb'; exact hd b (a2 i b hl hb) (b2 _ b (by omega) hb')
    · simp only [hl, hl', if_true, if_false] at hb hb'; exact hd b (a2 j b hl' hb') (b2 _ b (by omega) hb)
    · simp only [hl, hl', if_false] at hb hb'; exact b3 _ _ b (by omega) (by omega) (by omega) hb hb'

/-- The two parts of a list that is cut by two lists of places. -/
theorem Star.split {L R1 R2 : List Asr} {w : World} {F G : Fp} (σ1 σ2 : List Nat) (hσ : nd (σ1 ++ σ2) = true) (hp1 : pickL L σ1 = some R1) (hp2 : pickL L σ2 = some R2) (h : Star L w F G) :
    ∃ F1 F2, Star R1 w F1 G ∧ Star R2 w F2 G ∧ (∀ b, F1 b → F b) ∧ (∀ b, F2 b → F b) ∧ (∀ b, F1 b → ¬ F2 b) := by
  obtain ⟨Fs, h1, h2, h3⟩ := h
  obtain ⟨hl1, hg1⟩ := pickL_get hp1
  obtain ⟨hl2, hg2⟩ := pickL_get hp2
  have hn := List.nodup_append.1 (nd_nodup hσ)
  have bound : ∀ (σ : List Nat) (R : List Asr), R.length = σ.length → (∀ (k : Nat) (A : Asr), R[k]? = some A → ∃ i : Nat, σ[k]? = some i ∧ L[i]? = some A) → ∀ k, k < R.length → ∃ i, σ[k]? = some i ∧ i < L.length := fun σ R _ hg k hk => by
    obtain ⟨i, hi, hA⟩ := hg k R[k] (by simp [hk])
    exact ⟨i, hi, (List.getElem?_eq_some_iff.1 hA).1⟩
  have part : ∀ (σ : List Nat) (R : List Asr), σ.Nodup → R.length = σ.length → (∀ (k : Nat) (A : Asr), R[k]? = some A → ∃ i : Nat, σ[k]? = some i ∧ L[i]? = some A) →
      Star R w (fun b => ∃ k i, k < R.length ∧ σ[k]? = some i ∧ Fs i b) G := fun σ R hs hl hg => by
    refine ⟨fun k => Fs (σ.getD k 0), fun k A hk => ?_, fun k b hk hb => ?_, fun k j b hk hj hne hb hb' => ?_⟩
    · obtain ⟨i, hi, hA⟩ := hg k A hk
      simp only [List.getD_eq_getElem?_getD, hi, Option.getD_some]
      exact h1 i A hA
    · obtain ⟨i, hi, hlt⟩ := bound σ R hl hg k hk
      simp only [List.getD_eq_getElem?_getD, hi, Option.getD_some] at hb
      exact ⟨k, i, hk, hi, hb⟩
    · obtain ⟨i, hi, hlt⟩ := bound σ R hl hg k hk
      obtain ⟨i', hi', hlt'⟩ := bound σ R hl hg j hj
      simp only [List.getD_eq_getElem?_getD, hi, Option.getD_some] at hb
      simp only [List.getD_eq_getElem?_getD, hi', Option.getD_some] at hb'
      exact h3 i i' b hlt hlt' (nodup_get hs hi hi' hne) hb hb'
  refine ⟨_, _, part σ1 R1 hn.1 hl1 hg1, part σ2 R2 hn.2.1 hl2 hg2, ?_, ?_, ?_⟩
  · rintro b ⟨k, i, hk, hi, hb⟩
    obtain ⟨i', hi', hlt⟩ := bound σ1 R1 hl1 hg1 k hk
    obtain rfl := Option.some.inj (hi.symm.trans hi')
    exact h2 i b hlt hb
  · rintro b ⟨k, i, hk, hi, hb⟩
    obtain ⟨i', hi', hlt⟩ := bound σ2 R2 hl2 hg2 k hk
    obtain rfl := Option.some.inj (hi.symm.trans hi')
    exact h2 i b hlt hb
  · rintro b ⟨k, i, hk, hi, hb⟩ ⟨k', i', hk', hi', hb'⟩
    obtain ⟨i1, hi1, hlt⟩ := bound σ1 R1 hl1 hg1 k hk
    obtain rfl := Option.some.inj (hi.symm.trans hi1)
    obtain ⟨i2, hi2, hlt'⟩ := bound σ2 R2 hl2 hg2 k' hk'
    obtain rfl := Option.some.inj (hi'.symm.trans hi2)
    have hne : i ≠ i' := hn.2.2 i (List.mem_of_getElem? hi) i' (List.mem_of_getElem? hi')
    exact h3 i i' b hlt hlt' hne hb hb'

theorem Sat.pick {c : Ctx} {L R : List Asr} {w : World} (σ : List Nat) (hσ : nd σ = true) (hp : pickL L σ = some R) (h : Sat c L w) : Sat c R w := by
  obtain ⟨F, G, hs, hg⟩ := h
  exact ⟨F, G, hs.pick σ hσ hp, hg⟩

/-- The same blocks: draws, and the like. -/
theorem Sat.same {c : Ctx} {L : List Asr} {w w' : World} (h : Sat c L w) (hos : w'.os = w.os) (ht : w'.tape = w.tape) (ho : w'.output = w.output) (hh : w'.heap = w.heap) : Sat c L w' := by
  obtain ⟨F, G, hs, hg⟩ := h
  refine ⟨F, G, hs.loc fun b _ => by rw [hh], ?_, hg.dis, by rw [hh]; exact hg.dom, hg.own, hg.shr⟩
  exact ⟨hos.trans hg.frm.os, ht.trans hg.frm.tape, ho.trans hg.frm.output, by rw [hh]; exact hg.frm.size, by rw [hh]; exact hg.frm.block⟩

/-! ### The environment of temporaries -/
abbrev Env := List (Nat × Value)
def get : Env → Nat → Option Value
  | [], _ => none
  | (k, v) :: e, t => bif Nat.beq k t then some v else get e t

/-- How many temporaries a frame has; what it has deferred; the loop over a function of which it is a round. -/
structure Fsz where
  n : Nat
  ds : List Deferred
  rd : Option Nat
/-- Every function, no bound; in a round of the loop r, or in none. -/
def fen (r : Option Nat) : Fence := { Fence.wide with round := r }
structure Rep (n : Fsz) (env : Env) (a : Act) : Prop where
  size : a.tmps.size = n.n
  defers : a.defers = n.ds
  at_ : ∀ t v, get env t = some v → a.tmps[t]? = some v

theorem beq_false {k t : Nat} (h : ¬ k = t) : Nat.beq k t = false := by
  cases hb : Nat.beq k t with
  | true => exact absurd (Nat.eq_of_beq_eq_true hb) h
  | false => rfl
theorem of_beq_false {k t : Nat} (h : Nat.beq k t = false) : ¬ k = t := fun e => by
  subst e
  rw [Nat.beq_refl k] at h
  cases h

def ev (env : Env) : Operand → Option Value
  | .tmp t => get env t
  | .const v => some v
  | .global g => some (.pointer (some ⟨g, 0, none⟩))
  | .func f => some (.func (.func f) #[] #[])

theorem Rep.eval {n : Fsz} {env : Env} {a : Act} (h : Rep n env a) {x : Operand} {v : Value} (hx : ev env x = some v) : a.eval x = v := by
  cases x with
  | tmp t =>
    have := h.at_ t v hx
    simp [Act.eval, this]
  | const u => exact Option.some.inj hx
  | global g => exact Option.some.inj hx
  | func f => exact Option.some.inj hx

theorem Rep.put {n : Fsz} {env : Env} {a : Act} (h : Rep n env a) {d : Nat} (hd : d < n.n) (v : Value) : Rep n ((d, v) :: env) (a.put (some d) v) := by
  refine ⟨by simp [Act.put, h.size], h.defers, fun t u ht => ?_⟩
  simp only [get] at ht
  simp only [Act.put, Array.getElem?_setIfInBounds]
  by_cases e : d = t
  · subst e
    simp at ht
    subst ht
    simp [h.size, hd]
  · have : Nat.beq d t = false := beq_false e
    rw [this] at ht
    simp only [cond_false] at ht
    rw [if_neg e]
    exact h.at_ t u ht

def Sub : Env → Env → Prop
  | [], _ => True
  | (t, v) :: e, E => get E t = some v ∧ Sub e E

theorem Sub.get {e E : Env} (h : Sub e E) : ∀ {t : Nat} {v : Value}, get e t = some v → get E t = some v := by
  induction e with
  | nil => intro t v ht; simp [Eng.get] at ht
  | cons p e ih =>
    obtain ⟨k, u⟩ := p
    intro t v ht
    simp only [Eng.get] at ht
    by_cases hk : k = t
    · subst hk
      simp at ht
      subst ht
      exact h.1
    · have : Nat.beq k t = false := beq_false hk
      rw [this] at ht
      exact ih h.2 ht

theorem Rep.sub {n : Fsz} {e E : Env} {a : Act} (h : Rep n E a) (hs : Sub e E) : Rep n e a := ⟨h.size, h.defers, fun t v ht => h.at_ t v (hs.get ht)⟩

/-! ### What follows -/
structure Kn where
  q : Exit → Act → World → Prop
  kp : Nat → Bool   -- temporaries that count where it panics
  pn : ∀ c a w d v, kp d = false → q (.panic c) (Act.put a (some d) v) w → q (.panic c) a w

section
variable {P : Program} {n : Fsz} {c : Ctx}

def JC (P : Program) (n : Fsz) (c : Ctx) (env : Env) (L : List Asr) (code : Code) (K : Kn) : Prop :=
  ∀ a w, Rep n env a → Sat c L w → code.wpIn (fen n.rd) 0 P K.q a w
def QJ (n : Fsz) (c : Ctx) (env : Env) (L : List Asr) (K : Kn) (e : Exit) : Prop :=
  ∀ a w, Rep n env a → Sat c L w → K.q e a w

def Kn.then (P : Program) (n : Fsz) (y : Code) (K : Kn) : Kn := ⟨Exit.then (y.wpIn (fen n.rd) 0 P K.q) K.q, K.kp, fun c a w d v hk h => K.pn c a w d v hk h⟩
def Kn.inBlock (id : Nat) (K : Kn) : Kn := ⟨Exit.inBlock id K.q, K.kp, fun c a w d v hk h => K.pn c a w d v hk h⟩

theorem JC.sub {env : Env} {L : List Asr} {code : Code} {K : Kn} (env' : Env) (L' : List Asr) (σ : List Nat) (he : Sub env' env) (hσ : nd σ = true) (hp : pickL L σ = some L') (h : JC P n c env' L' code K) : JC P n c env L code K :=
  fun a w hr hs => h a w (hr.sub he) (hs.pick σ hσ hp)
theorem QJ.sub {env : Env} {L : List Asr} {e : Exit} {K : Kn} (env' : Env) (L' : List Asr) (σ : List Nat) (he : Sub env' env) (hσ : nd σ = true) (hp : pickL L σ = some L') (h : QJ n c env' L' K e) : QJ n c env L K e :=
  fun a w hr hs => h a w (hr.sub he) (hs.pick σ hσ hp)
theorem JC.seq {env : Env} {L : List Asr} {x y : Code} {K : Kn} (h : JC P n c env L x (K.then P n y)) : JC P n c env L (.seq x y) K :=
  fun a w hr hs => wpIn_seq (h a w hr hs)
theorem JC.skip {env : Env} {L : List Asr} {K : Kn} (h : QJ n c env L K .normal) : JC P n c env L .skip K := fun a w hr hs => wpIn_skip (h a w hr hs)
theorem JC.exit {env : Env} {L : List Asr} {K : Kn} {id : Nat} (h : QJ n c env L K (.exit id)) : JC P n c env L (.exit id) K := fun a w hr hs => wpIn_exit (h a w hr hs)
theorem JC.ret {env : Env} {L : List Asr} {K : Kn} (h : QJ n c env L K .ret) : JC P n c env L .ret K := fun a w hr hs => wpIn_ret (h a w hr hs)
theorem JC.block {env : Env} {L : List Asr} {K : Kn} {id : Nat} {x : Code} (h : JC P n c env L x (K.inBlock id)) : JC P n c env L (.block id x) K :=
  fun a w hr hs => wpIn_block (h a w hr hs)
theorem JC.cond {env : Env} {L : List Asr} {K : Kn} {x : Operand} {t e : Code} (b : Bool) (hb : ev env x = some (.bool b)) (ht : b = true → JC P n c env L t K) (hf : b = false → JC P n c env L e K) : JC P n c env L (.cond x t e) K :=
  fun a w hr hs => wpIn_cond_split (hr.eval hb) (fun h => ht h a w hr hs) (fun h => hf h a w hr hs)
theorem QJ.then_normal {env : Env} {L : List Asr} {K : Kn} {y : Code} (h : JC P n c env L y K) : QJ n c env L (K.then P n y) .normal := h
theorem QJ.then_exit {env : Env} {L : List Asr} {K : Kn} {y : Code} {id : Nat} (h : QJ n c env L K (.exit id)) : QJ n c env L (K.then P n y) (.exit id) := h
theorem QJ.then_ret {env : Env} {L : List Asr} {K : Kn} {y : Code} (h : QJ n c env L K .ret) : QJ n c env L (K.then P n y) .ret := h
theorem QJ.block_normal {env : Env} {L : List Asr} {K : Kn} {id : Nat} (h : QJ n c env L K .normal) : QJ n c env L (K.inBlock id) .normal := h
theorem QJ.block_ret {env : Env} {L : List Asr} {K : Kn} {id : Nat} (h : QJ n c env L K .ret) : QJ n c env L (K.inBlock id) .ret := h
theorem QJ.block_hit {env : Env} {L : List Asr} {K : Kn} {id : Nat} (h : QJ n c env L K .normal) : QJ n c env L (K.inBlock id) (.exit id) := fun a w hr hs => by
  show Exit.inBlock id K.q (.exit id) a w
  simp only [Exit.inBlock, if_true]
  exact h a w hr hs
theorem QJ.block_miss {env : Env} {L : List Asr} {K : Kn} {id id' : Nat} (hne : Nat.beq id' id = false) (h : QJ n c env L K (.exit id')) : QJ n c env L (K.inBlock id) (.exit id') := fun a w hr hs => by
  show Exit.inBlock id K.q (.exit id') a w
  have : ¬ id' = id := of_beq_false hne
  simp only [Exit.inBlock, this, if_false]
  exact h a w hr hs

theorem QJ.then_panic {env : Env} {L : List Asr} {K : Kn} {y : Code} {ch : List PanicEntry} (h : QJ n c env L K (.panic ch)) : QJ n c env L (K.then P n y) (.panic ch) := h
theorem QJ.block_panic {env : Env} {L : List Asr} {K : Kn} {id : Nat} {ch : List PanicEntry} (h : QJ n c env L K (.panic ch)) : QJ n c env L (K.inBlock id) (.panic ch) := h
/-- A cut at the normal end of a piece: y are the data there. -/
def Kn.cut {Y : Type} (n : Fsz) (c : Ctx) (Φ : Y → Prop) (env : Y → Env) (L : Y → List Asr) (K : Kn) : Kn :=
  ⟨Exit.then (fun a w => ∃ y, Φ y ∧ Rep n (env y) a ∧ Sat c (L y) w) K.q, K.kp, fun c a w d v hk h => K.pn c a w d v hk h⟩
theorem QJ.cut_normal {Y : Type} {Φ : Y → Prop} {envY : Y → Env} {LY : Y → List Asr} {K : Kn} {env : Env} {L : List Asr} (y : Y) (hΦ : Φ y) (σ : List Nat) (he : Sub (envY y) env) (hσ : nd σ = true) (hp : pickL L σ = some (LY y)) :
    QJ n c env L (Kn.cut n c Φ envY LY K) .normal := fun _ _ hr hs => ⟨y, hΦ, hr.sub he, hs.pick σ hσ hp⟩
theorem QJ.cut_exit {Y : Type} {Φ : Y → Prop} {envY : Y → Env} {LY : Y → List Asr} {K : Kn} {env : Env} {L : List Asr} {id : Nat} (h : QJ n c env L K (.exit id)) : QJ n c env L (Kn.cut n c Φ envY LY K) (.exit id) := h
theorem QJ.cut_ret {Y : Type} {Φ : Y → Prop} {envY : Y → Env} {LY : Y → List Asr} {K : Kn} {env : Env} {L : List Asr} (h : QJ n c env L K .ret) : QJ n c env L (Kn.cut n c Φ envY LY K) .ret := h
theorem QJ.cut_panic {Y : Type} {Φ : Y → Prop} {envY : Y → Env} {LY : Y → List Asr} {K : Kn} {env : Env} {L : List Asr} {ch : List PanicEntry} (h : QJ n c env L K (.panic ch)) : QJ n c env L (Kn.cut n c Φ envY LY K) (.panic ch) := h
theorem JC.cutK {Y : Type} {env : Env} {L : List Asr} {K : Kn} {code : Code} (Φ : Y → Prop) (envY : Y → Env) (LY : Y → List Asr) (hrest : ∀ y, Φ y → QJ n c (envY y) (LY y) K .normal) (h : JC P n c env L code (Kn.cut n c Φ envY LY K)) : JC P n c env L code K :=
  fun a w hr hs => wpIn_mono (h a w hr hs) fun e a w hq => by
    cases e with
    | normal => obtain ⟨y, hΦ, hr, hs⟩ := hq; exact hrest y hΦ a w hr hs
    | exit id => exact hq
    | goto l => exact hq
    | ret => exact hq
    | panic ch => exact hq
    | outgrown => exact hq

/-! ### Loops -/
def loopN {X Y : Type} (b : X → Option (X ⊕ Y)) : Nat → X → Option Y
  | 0, _ => none
  | k + 1, x => match b x with
    | none => none
    | some (.inl x') => loopN b k x'
    | some (.inr y) => some y
theorem loopN_mono {X Y : Type} {b : X → Option (X ⊕ Y)} {y : Y} : ∀ {k k' : Nat} {x : X}, loopN b k x = some y → k ≤ k' → loopN b k' x = some y := by
  intro k
  induction k with
  | zero => intro k' x h; simp [loopN] at h
  | succ k ih =>
    intro k' x h hk
    obtain ⟨m, rfl⟩ : ∃ m, k' = m + 1 := ⟨k' - 1, by omega⟩
    simp only [loopN] at h ⊢
    split at h
    · cases h
    · rename_i x' hx; exact ih h (by omega)
    · rename_i y' hx; exact h
open Classical in
noncomputable def loop {X Y : Type} (b : X → Option (X ⊕ Y)) (x : X) : Option Y :=
  if h : ∃ y k, loopN b k x = some y then some h.choose else none
theorem loop_some {X Y : Type} {b : X → Option (X ⊕ Y)} {x : X} {y : Y} : loop b x = some y ↔ ∃ k, loopN b k x = some y := by
  unfold loop
  constructor
  · intro h
    split at h
    · rename_i hh
      obtain rfl := Option.some.inj h
      exact hh.choose_spec
    · cases h
  · rintro ⟨k, hk⟩
    have hh : ∃ y k, loopN b k x = some y := ⟨y, k, hk⟩
    rw [dif_pos hh]
    obtain ⟨k', hk'⟩ := hh.choose_spec
    have h1 := loopN_mono hk (Nat.le_max_left k k')
    have h2 := loopN_mono hk' (Nat.le_max_right k k')
    exact h2.symm.trans h1
theorem loop_eq {X Y : Type} (b : X → Option (X ⊕ Y)) (x : X) : loop b x = match b x with
    | none => none
    | some (.inl x') => loop b x'
    | some (.inr y) => some y := by
  apply Option.ext
  intro y
  rw [loop_some]
  constructor
  · rintro ⟨k, hk⟩
    cases k with
    | zero => simp [loopN] at hk
    | succ k =>
      simp only [loopN] at hk
      split at hk
      · cases hk
      · rename_i x' hx; simp only [loop_some]; exact ⟨k, hk⟩
      · rename_i y' hx; exact hk
  · intro h
    split at h
    · cases h
    · rename_i x' hx
      obtain ⟨k, hk⟩ := loop_some.1 h
      exact ⟨k + 1, by simp [loopN, hx, hk]⟩
    · rename_i y' hx
      exact ⟨1, by simp [loopN, hx, h]⟩
/-- A loop ends with what it is to show, where each round keeps I and lowers m. -/
theorem loop_ends {X Y : Type} {b : X → Option (X ⊕ Y)} (I : X → Prop) (m : X → Nat) (Q : Y → Prop)
    (hb : ∀ x, I x → ∃ s, b x = some s ∧ (∀ x', s = .inl x' → I x' ∧ m x' < m x) ∧ (∀ y, s = .inr y → Q y)) : ∀ x, I x → ∃ y, loop b x = some y ∧ Q y := by
  have key : ∀ k x, m x < k → I x → ∃ y, loop b x = some y ∧ Q y := by
    intro k
    induction k with
    | zero => intro x h; omega
    | succ k ih =>
      intro x hk hI
      obtain ⟨s, hs, h1, h2⟩ := hb x hI
      rw [loop_eq, hs]
      cases s with
      | inl x' =>
        obtain ⟨hI', hm⟩ := h1 x' rfl
        exact ih x' (by omega) hI'
      | inr y => exact ⟨y, rfl, h2 y rfl⟩
  exact fun x => key _ x (Nat.lt_succ_self _)

/-- What is asked of a round: on with x', or out with y. -/
def Kn.round {X Y Z : Type} (n : Fsz) (c : Ctx) (env : X → Z → Env) (L : X → Z → List Asr) (y : Y) (K : Kn) (s : X ⊕ Y) : Kn :=
  ⟨fun e a w => match e with
    | .normal => ∃ x' z', s = .inl x' ∧ Rep n (env x' z') a ∧ Sat c (L x' z') w
    | .panic ch => ∃ y', s = .inr y' ∧ (y' = y → K.q (.panic ch) a w)
    | .outgrown => K.q .outgrown a w
    | e => ∃ y', s = .inr y' ∧ (y' = y → K.q e a w), K.kp, fun c a w d v hk h => by
      obtain ⟨y', h1, h2⟩ := h
      exact ⟨y', h1, fun e => K.pn c a w d v hk (h2 e)⟩⟩
theorem QJ.round_on {X Y Z : Type} {envX : X → Z → Env} {LX : X → Z → List Asr} {y : Y} {K : Kn} {env : Env} {L : List Asr} (x' : X) (z' : Z) (σ : List Nat) (he : Sub (envX x' z') env) (hσ : nd σ = true) (hp : pickL L σ = some (LX x' z')) :
    QJ n c env L (Kn.round n c envX LX y K (.inl x')) .normal := fun _ _ hr hs => ⟨x', z', rfl, hr.sub he, hs.pick σ hσ hp⟩
theorem QJ.round_exit {X Y Z : Type} {envX : X → Z → Env} {LX : X → Z → List Asr} {y : Y} {K : Kn} {env : Env} {L : List Asr} {id : Nat} {y' : Y} (h : y' = y → QJ n c env L K (.exit id)) :
    QJ n c env L (Kn.round n c envX LX y K (.inr y')) (.exit id) := fun a w hr hs => ⟨y', rfl, fun e => h e a w hr hs⟩
theorem QJ.round_ret {X Y Z : Type} {envX : X → Z → Env} {LX : X → Z → List Asr} {y : Y} {K : Kn} {env : Env} {L : List Asr} {y' : Y} (h : y' = y → QJ n c env L K .ret) :
    QJ n c env L (Kn.round n c envX LX y K (.inr y')) .ret := fun a w hr hs => ⟨y', rfl, fun e => h e a w hr hs⟩

theorem QJ.round_panic {X Y Z : Type} {envX : X → Z → Env} {LX : X → Z → List Asr} {y : Y} {K : Kn} {env : Env} {L : List Asr} {ch : List PanicEntry} {y' : Y} (h : y' = y → QJ n c env L K (.panic ch)) :
    QJ n c env L (Kn.round n c envX LX y K (.inr y')) (.panic ch) := fun a w hr hs => ⟨y', rfl, fun e => h e a w hr hs⟩

theorem JC.loop {X Y Z : Type} {K : Kn} {body : Code} (b : X → Option (X ⊕ Y)) (envX : X → Z → Env) (LX : X → Z → List Asr) (x : X) (z : Z) (y : Y) (hm : Eng.loop b x = some y) {env : Env} {L : List Asr}
    (σ : List Nat) (he : Sub (envX x z) env) (hσ : nd σ = true) (hp : pickL L σ = some (LX x z))
    (hround : ∀ x z s, b x = some s → JC P n c (envX x z) (LX x z) body (Kn.round n c envX LX y K s)) : JC P n c env L (.loop body) K := by
  intro a w hr hs bf kk cs hro hbf hroom
  obtain ⟨k, hk⟩ := loop_some.1 hm
  have key : ∀ k x z a w, loopN b k x = some y → Rep n (envX x z) a → Sat c (LX x z) w →
      ∃ e a' w', K.q e a' w' ∧ ArrivesIn (Machine.fenced P (fen n.rd)) P (lone (bf.atR a (.code body :: .inLoop body :: kk)) cs w) bf kk cs e a' w' := by
    intro k
    induction k with
    | zero => intro x z a w h; simp [loopN] at h
    | succ k ih =>
      intro x z a w h hr hs
      simp only [loopN] at h
      cases hb : b x with
      | none => rw [hb] at h; cases h
      | some s =>
        rw [hb] at h
        obtain ⟨e, a₁, w₁, hq, harr⟩ := hround x z s hb a w hr hs bf (.inLoop body :: kk) cs hro hbf hroom
        have out : ∀ (e : Exit) (a : Act) (w : World), (∃ y', s = .inr y' ∧ (y' = y → K.q e a w)) → K.q e a w := by
          rintro e a w ⟨y', rfl, hout⟩
          exact hout (Option.some.inj h)
        cases e with
        | normal =>
          obtain ⟨x', z', rfl, hr', hs'⟩ := hq
          obtain ⟨e₂, a₂, w₂, hq₂, harr₂⟩ := ih x' z' a₁ w₁ h hr' hs'
          exact ⟨e₂, a₂, w₂, hq₂, .of_steps (StepsIn.trans harr (.one (fenced_calm hbf hroom rfl) stepR_inLoop)) harr₂⟩
        | exit id => exact ⟨_, a₁, w₁, out _ _ _ hq, .pass (x := .inLoop body) rfl (fun _ _ => .inl (by simp)) harr⟩
        | goto l => exact ⟨_, a₁, w₁, out _ _ _ hq, .pass (x := .inLoop body) rfl (fun _ _ => .inl (by simp)) harr⟩
        | ret => exact ⟨_, a₁, w₁, out _ _ _ hq, .pass (x := .inLoop body) rfl (fun _ _ => .inl (by simp)) harr⟩
        | panic ch => exact ⟨_, a₁, w₁, out _ _ _ hq, .pass (x := .inLoop body) rfl (fun _ _ => .inl (by simp)) harr⟩
        | outgrown => exact ⟨_, a₁, w₁, hq, .pass (x := .inLoop body) rfl (fun _ _ => .inl (by simp)) harr⟩
  obtain ⟨e, a', w', hq, harr⟩ := key k x z a w hk (hr.sub he) (hs.pick σ hσ hp)
  exact ⟨e, a', w', hq, .of_steps (.one (fenced_calm hbf hroom rfl) stepR_loop) harr⟩
end
end Go.Eng
