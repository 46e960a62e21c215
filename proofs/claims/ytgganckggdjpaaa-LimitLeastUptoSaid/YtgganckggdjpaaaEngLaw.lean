/- From a law's contract to its row: arguments that came in read as views. -/
import Derived.Test.YtgganckggdjpaaaEngNest
import Derived.ProofKit
import Derived.Carry
import Derived.ChangeArms
import Derived.OpenShut
namespace Go.Eng
open Go

section
variable {P : Program}

/-- Whatever reads at the type t is an encoding. -/
def Op1 {α : Type} (P : Program) (t : TypeId) (E : Enc α) (wf : α → Prop) : Prop :=
  ∀ (H : Type) (enc : TypeId × Value → H) (w : World) (base : Nat) (spare : Nat → Bool) (held : Bool) (fuel : Nat) (cs : List Value) (x : DataW H × List MemPlace),
    DataW.trod enc P w base spare held fuel t cs = some x → ∃ a, cs = E.enc a ∧ wf a
def InR (k : IntKind) (x : Int) : Prop := k.min ≤ x ∧ x ≤ k.max
theorem Op1.int {t : TypeId} {k : IntKind} (ht : P.underlying t = some (.int k)) : Op1 P t (Enc.int k) (InR k) := fun H enc w base spare held fuel cs x h => by
  obtain ⟨m, rfl, _, hw⟩ := DataW.trod_int ht h
  exact ⟨m, rfl, by simpa [Lit.wf, InR] using hw⟩
theorem Op1.bool {t : TypeId} (ht : P.underlying t = some .bool) : Op1 P t Enc.bool (fun _ => True) := fun H enc w base spare held fuel cs x h => by
  obtain ⟨m, rfl, _⟩ := DataW.trod_bool ht h
  exact ⟨m, rfl, trivial⟩
theorem Op1.str {t : TypeId} (ht : P.underlying t = some .string) : Op1 P t Enc.str (fun s => s.size ≤ maxLen) := fun H enc w base spare held fuel cs x h => by
  obtain ⟨m, rfl, _, hw⟩ := DataW.trod_string ht h
  exact ⟨m, rfl, hw⟩

theorem split_cells {α : Type} (E : Enc α) (wf : α → Prop) : ∀ (m : Nat) (cs : List Value), cs.length = m * E.sz → (∀ i, i < m → ∃ a, (cs.drop (i * E.sz)).take E.sz = E.enc a ∧ wf a) →
    ∃ xs : List α, xs.length = m ∧ cs = xs.flatMap E.enc ∧ ∀ x ∈ xs, wf x
  | 0, cs, hl, _ => ⟨[], rfl, by simpa using hl, by simp⟩
  | m + 1, cs, hl, h => by
    obtain ⟨a, ha, hwa⟩ := h 0 (by omega)
    simp only [Nat.zero_mul, List.drop_zero] at ha
    have hl2 : (cs.drop E.sz).length = m * E.sz := by rw [List.length_drop, hl, Nat.add_mul]; omega
    obtain ⟨xs, h1, h2, h3⟩ := split_cells E wf m (cs.drop E.sz) hl2 (fun i hi => by
      obtain ⟨b, hb, hwb⟩ := h (i + 1) (by omega)
      refine ⟨b, ?_, hwb⟩
      rw [List.drop_drop]
      have : E.sz + i * E.sz = (i + 1) * E.sz := by rw [Nat.add_mul]; omega
      rw [this]
      exact hb)
    refine ⟨a :: xs, by simp [h1], ?_, ?_⟩
    · rw [List.flatMap_cons, ← ha, ← h2, List.take_append_drop]
    · intro x hx
      rcases List.mem_cons.1 hx with rfl | hx
      · exact hwa
      · exact h3 x hx
theorem Op1.arr {α : Type} {t e : TypeId} {m : Nat} {E : Enc α} {wf : α → Prop} (ht : P.underlying t = some (.array m e)) (he : P.cellsOf e = E.sz) (hc : P.cellsOf t = m * E.sz) (h : Op1 P e E wf) : Op1 P t (Enc.arr m E) (fun x => ∀ y ∈ x.l, wf y) := fun H enc w base spare held fuel cs x hx => by
  obtain ⟨xs, n, rfl, _, hl, hxl, hall⟩ := DataW.trod_array ht hx
  obtain ⟨ys, h1, h2, h3⟩ := split_cells E wf m cs (by rw [hl, hc]) (fun i hi => by
    have := hall i hi
    rw [List.getElem?_eq_getElem (by omega)] at this
    rw [he] at this
    exact h H enc w base spare held n _ _ this)
  exact ⟨⟨ys, h1⟩, h2, h3⟩

/-- Fields, one behind the other. -/
def OpFs {α : Type} (P : Program) (fs : List Field) (o : Nat) (E : Enc α) (wf : α → Prop) : Prop :=
  ∀ (H : Type) (enc : TypeId × Value → H) (w : World) (base : Nat) (spare : Nat → Bool) (held : Bool) (fuel : Nat) (cs : List Value),
    (∀ f ∈ fs, ∃ x : DataW H × List MemPlace, DataW.trod enc P w base spare held fuel f.type ((cs.drop f.offset).take (P.cellsOf f.type)) = some x) → ∃ a, (cs.drop o).take E.sz = E.enc a ∧ wf a
theorem OpFs.one {α : Type} {f : Field} {o : Nat} {E : Enc α} {wf : α → Prop} (ho : f.offset = o) (hc : P.cellsOf f.type = E.sz) (h : Op1 P f.type E wf) : OpFs P [f] o E wf := fun H enc w base spare held fuel cs hf => by
  obtain ⟨x, hx⟩ := hf f (by simp)
  obtain ⟨a, ha, hw⟩ := h H enc w base spare held fuel _ x hx
  subst ho
  rw [hc] at ha
  exact ⟨a, ha, hw⟩
theorem OpFs.cons {α β : Type} {f : Field} {fs : List Field} {o : Nat} {A : Enc α} {B : Enc β} {wa : α → Prop} {wb : β → Prop} (ho : f.offset = o) (hc : P.cellsOf f.type = A.sz) (h : Op1 P f.type A wa) (hr : OpFs P fs (o + A.sz) B wb) : OpFs P (f :: fs) o (Enc.pair A B) (fun x => wa x.1 ∧ wb x.2) := fun H enc w base spare held fuel cs hf => by
  obtain ⟨x, hx⟩ := hf f (by simp)
  obtain ⟨a, ha, hwa⟩ := h H enc w base spare held fuel _ x hx
  obtain ⟨b, hb, hwb⟩ := hr H enc w base spare held fuel cs (fun g hg => hf g (by simp [hg]))
  subst ho
  rw [hc] at ha
  refine ⟨(a, b), ?_, hwa, hwb⟩
  show (cs.drop f.offset).take (A.sz + B.sz) = A.enc a ++ B.enc b
  rw [← ha, ← hb, List.take_add, List.drop_drop]
theorem Op1.struct {α : Type} {t : TypeId} {fs : Array Field} {E : Enc α} {wf : α → Prop} (ht : P.underlying t = some (.struct fs)) (hc : P.cellsOf t = E.sz) (h : OpFs P fs.toList 0 E wf) : Op1 P t E wf := fun H enc w base spare held fuel cs x hx => by
  obtain ⟨xs, m, rfl, _, hl, hxl, hall⟩ := DataW.trod_struct ht hx
  obtain ⟨a, ha, hw⟩ := h H enc w base spare held m cs (fun f hf => by
    obtain ⟨i, hi, hfi⟩ := List.mem_iff_getElem.1 hf
    have hi' : i < fs.size := by simpa using hi
    have := hall i f (by rw [Array.getElem?_eq_getElem hi']; simpa using hfi)
    have hx : i < xs.length := by omega
    rw [List.getElem?_eq_getElem hx] at this
    exact ⟨_, this⟩)
  refine ⟨a, ?_, hw⟩
  rw [← ha, List.drop_zero, ← hc, ← hl, List.take_length]

/-! ### Arguments -/
variable {H : Type} {enc : TypeId × Value → H} {W : World} {base : Nat}
theorem open_one {α : Type} {t : TypeId} {E : Enc α} {wf : α → Prop} {v : Value} {d : DataW H} {p : List MemPlace} (hagg : (tk P t).map (·.1) = some false) (h1 : Op1 P t E wf) (hv : Value.okWide P W .any base t v) (h : DataW.Trod enc P W 0 (fun _ => true) true t v d p) : ∃ a, [v] = E.enc a ∧ wf a := by
  obtain ⟨fuel, hf⟩ := h
  obtain ⟨a, ha, hw⟩ := h1 H enc W _ _ _ fuel _ _ hf
  refine ⟨a, ?_, hw⟩
  rw [← ha]
  have hna : ∀ cs, v ≠ .agg cs := by
    intro cs e
    subst e
    unfold tk at hagg
    unfold Value.okWide at hv
    cases hu : P.underlying t with
    | none => simp [hu] at hagg
    | some dd =>
      rw [hu] at hv hagg
      cases hi : P.info? t with
      | none => simp [hi] at hagg
      | some ti =>
        rw [hi] at hagg
        cases dd <;> simp at hagg <;> simp [Cell.okWide, Cell.ok, hu] at hv
  cases v <;> first | rfl | exact absurd rfl (hna _)
theorem open_agg {α : Type} {t : TypeId} {E : Enc α} {wf : α → Prop} {v : Value} {d : DataW H} {p : List MemPlace} (hagg : (tk P t).map (·.1) = some true) (h1 : Op1 P t E wf) (hv : Value.okWide P W .any base t v) (h : DataW.Trod enc P W 0 (fun _ => true) true t v d p) : ∃ a, v = .agg (E.enc a).toArray ∧ wf a := by
  obtain ⟨fuel, hf⟩ := h
  obtain ⟨a, ha, hw⟩ := h1 H enc W _ _ _ fuel _ _ hf
  refine ⟨a, ?_, hw⟩
  rw [← ha]
  unfold tk at hagg
  unfold Value.okWide at hv
  cases hu : P.underlying t with
  | none => simp [hu] at hagg
  | some dd =>
    rw [hu] at hv hagg
    cases hi : P.info? t with
    | none => simp [hi] at hagg
    | some ti =>
      rw [hi] at hagg
      cases dd <;> simp at hagg <;> (obtain ⟨cs, rfl, _⟩ := hv; simp [Value.cells])
theorem list_choose {α : Type} (Q : Nat → α → Prop) : ∀ n, (∀ i, i < n → ∃ a, Q i a) → ∃ xs : List α, xs.length = n ∧ ∀ (i : Nat) (a : α), xs[i]? = some a → Q i a
  | 0, _ => ⟨[], rfl, fun i a h => by simp at h⟩
  | n + 1, h => by
    obtain ⟨xs, h1, h2⟩ := list_choose Q n (fun i hi => h i (by omega))
    obtain ⟨a, ha⟩ := h n (by omega)
    refine ⟨xs ++ [a], by simp [h1], fun i b hb => ?_⟩
    by_cases hi : i < n
    · exact h2 i b (by rwa [List.getElem?_append_left (by omega)] at hb)
    · rw [List.getElem?_append_right (by omega)] at hb
      have hlt := (List.getElem?_eq_some_iff.1 hb).1
      rw [List.length_singleton] at hlt
      have : i = n := by omega
      subst this
      simp [h1] at hb
      subst hb
      exact ha
theorem cells?_get {w : World} {a : Addr} {n : Nat} {cs : List Value} (h : w.cells? 0 a n = some cs) : cs.length = n ∧ ∀ (k : Nat) (v : Value), cs[k]? = some v → w.cell? (a.add k) = some v := by
  unfold World.cells? at h
  rw [if_pos (Nat.zero_le _)] at h
  have hl := mapM_some_length h
  rw [List.length_range] at hl
  refine ⟨hl, fun k v hv => ?_⟩
  have hk := (List.getElem?_eq_some_iff.1 hv).1
  have := mapM_some_get h k k (by rw [List.getElem?_range (by omega)])
  rw [this, hv]
/-- A slice of whatever is an encoding. -/
theorem open_sl {α : Type} {t e : TypeId} {E : Enc α} {wf : α → Prop} {v : Value} {d : DataW H} {p : List MemPlace} (ht : P.underlying t = some (.slice e)) (hc : P.cellsOf e = E.sz) (hE : 0 < E.sz) (h1 : Op1 P e E wf) (hv : Value.okWide P W .any base t v) (h : DataW.Trod enc P W 0 (fun _ => true) true t v d p) :
    ∃ (s : SlV) (xs : List α), v = s.v ∧ (Asr.vw E s.v xs).p W noFp (fun b => b < W.heap.size) ∧ (∀ x ∈ xs, wf x) ∧ xs.length ≤ maxLen := by
  obtain ⟨A, len, cap, rfl⟩ := WideShapes.okWide_slice ht hv
  obtain ⟨fuel, hf⟩ := h
  rcases DataW.trod_slice ht hf with ⟨hcs, _⟩ | ⟨a, len', cap', elems, rest, m, rfl, hcs, _, _, hlc, hcm, hel, hget, _⟩
  · simp [Value.cells] at hcs
    obtain ⟨rfl, rfl, rfl⟩ := hcs
    exact ⟨SlV.nil, [], rfl, ⟨⟨none, 0, 0, rfl, rfl, Nat.le_refl _, by omega, fun _ => ⟨rfl, rfl⟩, (fun ad h => nomatch h)⟩, fun ad n c e h0 => by simp at e⟩, by simp, by simp⟩
  · simp [Value.cells] at hcs
    obtain ⟨rfl, rfl, rfl⟩ := hcs
    obtain ⟨xs, hxl, hxs⟩ := list_choose (fun i x => W.cells? 0 (a.add (i * E.sz)) E.sz = some (E.enc x) ∧ wf x) len (fun i hi => by
      have h2 := hget i hi
      rw [List.getElem?_eq_getElem (by omega)] at h2
      obtain ⟨cs, hcs, htr⟩ := Option.bind_eq_some_iff.1 h2
      rw [hc] at hcs
      obtain ⟨x, rfl, hw⟩ := h1 H enc W _ _ _ m cs _ htr
      exact ⟨x, hcs, hw⟩)
    refine ⟨⟨some a, len, cap⟩, xs, rfl, ⟨⟨some a, len, cap, rfl, hxl.symm, hlc, by simp only [maxLen] at hcm; omega, (fun h => nomatch h), fun ad e k v hk => ?_⟩, fun ad n c e h0 => ?_⟩, fun x hx => ?_, by omega⟩
    · obtain rfl := Option.some.inj e
      have hlt := (List.getElem?_eq_some_iff.1 hk).1
      rw [flat_len] at hlt
      have hq : k / E.sz < xs.length := by rw [Nat.div_lt_iff_lt_mul hE]; exact hlt
      have hx := hxs (k / E.sz) xs[k / E.sz] (by simp [hq])
      have hf := flat_get E xs (k / E.sz) (k % E.sz) xs[k / E.sz] (by simp [hq]) (Nat.mod_lt _ hE)
      have hdm : k / E.sz * E.sz + k % E.sz = k := by rw [Nat.mul_comm]; exact Nat.div_add_mod k E.sz
      rw [hdm, hk] at hf
      have := (cells?_get hx.1).2 (k % E.sz) v hf.symm
      rwa [add_add, hdm] at this
    · simp only [Value.slice.injEq, Option.some.injEq] at e
      obtain ⟨rfl, rfl, rfl⟩ := e
      have hx := hxs 0 xs[0] (by simp)
      have hl0 : 0 < (E.enc xs[0]).length := by rw [E.len]; exact hE
      have h3 := (cells?_get hx.1).2 0 ((E.enc xs[0])[0]'hl0) (List.getElem?_eq_getElem hl0)
      have := World.block_lt_of_cell? W _ h3
      rwa [add_block, add_block] at this
    · obtain ⟨i, hi, rfl⟩ := List.mem_iff_getElem.1 hx
      exact (hxs i xs[i] (by simp [hi])).2

/-! ### Nested slices that came in -/
abbrev lowG (w : World) : Fp := fun b => b < w.heap.size
def OpN {Z X : Type} (P : Program) (t : TypeId) (K : NE Z X) (wf : X → Prop) : Prop :=
  ∀ (H : Type) (enc : TypeId × Value → H) (w : World) (spare : Nat → Bool) (held : Bool) (fuel : Nat) (cs : List Value) (x : DataW H × List MemPlace),
    DataW.trod enc P w 0 spare held fuel t cs = some x → ∃ z a, cs = K.E.enc (z, a) ∧ K.ok w (lowG w) z a ∧ wf a
theorem OpN.flat {α : Type} {t : TypeId} {E : Enc α} {wf : α → Prop} (h : Op1 P t E wf) : OpN P t (NE.flat E) wf := fun H enc w spare held fuel cs x hx => by
  obtain ⟨a, h1, h2⟩ := h H enc w 0 spare held fuel cs x hx
  exact ⟨(), a, h1, trivial, h2⟩
theorem trod_vn {Z X : Type} {t e : TypeId} {K : NE Z X} {wf : X → Prop} (ht : P.underlying t = some (.slice e)) (hc : P.cellsOf e = K.E.sz) (hE : 0 < K.E.sz) (h1 : OpN P e K wf) (H : Type) (enc : TypeId × Value → H) (w : World) (spare : Nat → Bool) (held : Bool) (fuel : Nat) (cs : List Value) (x : DataW H × List MemPlace)
    (hf : DataW.trod enc P w 0 spare held fuel t cs = some x) : ∃ (s : SlV) (zs : List Z) (xs : List X), cs = [s.v] ∧ (Asr.vn K s.v zs xs).p w noFp (lowG w) ∧ (∀ x ∈ xs, wf x) ∧ xs.length ≤ maxLen := by
  rcases DataW.trod_slice ht hf with ⟨hcs, _⟩ | ⟨a, len', cap', elems, rest, m, rfl, hcs, _, _, hlc, hcm, hel, hget, _⟩
  · exact ⟨SlV.nil, [], [], hcs, ⟨rfl, ⟨⟨none, 0, 0, rfl, rfl, Nat.le_refl _, by omega, fun _ => ⟨rfl, rfl⟩, (fun ad h => nomatch h)⟩, fun ad n c e h0 => by simp at e⟩, fun j z x hz => by simp at hz⟩, by simp, by simp⟩
  · obtain ⟨ps, hpl, hps⟩ := list_choose (fun i (p : Z × X) => w.cells? 0 (a.add (i * K.E.sz)) K.E.sz = some (K.E.enc p) ∧ K.ok w (lowG w) p.1 p.2 ∧ wf p.2) len' (fun i hi => by
      have h2 := hget i hi
      rw [List.getElem?_eq_getElem (by omega)] at h2
      obtain ⟨cs, hcs, htr⟩ := Option.bind_eq_some_iff.1 h2
      rw [hc] at hcs
      obtain ⟨z, x, rfl, hk, hw⟩ := h1 H enc w _ _ m cs _ htr
      exact ⟨(z, x), hcs, hk, hw⟩)
    have hzip : (ps.map (·.1)).zip (ps.map (·.2)) = ps := by
      apply List.ext_getElem
      · simp
      · intro i _ _; simp
    refine ⟨⟨some a, len', cap'⟩, ps.map (·.1), ps.map (·.2), hcs, ⟨by simp, ?_, fun j z x hz hx => ?_⟩, fun x hx => ?_, by simp; omega⟩
    · rw [hzip]
      refine ⟨⟨some a, len', cap', rfl, hpl.symm, hlc, by simp only [maxLen] at hcm; omega, (fun h => nomatch h), fun ad e k v hk => ?_⟩, fun ad n c e h0 => ?_⟩
      · obtain rfl := Option.some.inj e
        have hlt := (List.getElem?_eq_some_iff.1 hk).1
        rw [flat_len] at hlt
        have hq : k / K.E.sz < ps.length := by rw [Nat.div_lt_iff_lt_mul hE]; exact hlt
        have hx := hps (k / K.E.sz) ps[k / K.E.sz] (by simp [hq])
        have hfl := flat_get K.E ps (k / K.E.sz) (k % K.E.sz) ps[k / K.E.sz] (by simp [hq]) (Nat.mod_lt _ hE)
        have hdm : k / K.E.sz * K.E.sz + k % K.E.sz = k := by rw [Nat.mul_comm]; exact Nat.div_add_mod k K.E.sz
        rw [hdm, hk] at hfl
        have := (cells?_get hx.1).2 (k % K.E.sz) v hfl.symm
        rwa [add_add, hdm] at this
      · simp only [Value.slice.injEq, Option.some.injEq] at e
        obtain ⟨rfl, rfl, rfl⟩ := e
        have hx := hps 0 ps[0] (by simp)
        have hl0 : 0 < (K.E.enc ps[0]).length := by rw [K.E.len]; exact hE
        have h3 := (cells?_get hx.1).2 0 ((K.E.enc ps[0])[0]'hl0) (List.getElem?_eq_getElem hl0)
        have := World.block_lt_of_cell? w _ h3
        rwa [add_block, add_block] at this
    · rw [List.getElem?_map] at hz hx
      obtain ⟨p, hp, rfl⟩ := Option.map_eq_some_iff.1 hz
      rw [hp] at hx
      obtain rfl := Option.some.inj hx
      exact (hps j p hp).2.1
    · obtain ⟨p, hp, rfl⟩ := List.mem_map.1 hx
      obtain ⟨i, hi, rfl⟩ := List.mem_iff_getElem.1 hp
      exact (hps i ps[i] (by simp [hi])).2.2
theorem OpN.sl {α : Type} {t e : TypeId} {E : Enc α} {wf : α → Prop} (ht : P.underlying t = some (.slice e)) (hc : P.cellsOf e = E.sz) (hE : 0 < E.sz) (h1 : Op1 P e E wf) : OpN P t (NE.sl E) (fun xs => (∀ x ∈ xs, wf x) ∧ xs.length ≤ maxLen) := fun H enc w spare held fuel cs x hx => by
  obtain ⟨s, zs, xs, rfl, h2, h3, h4⟩ := trod_vn (K := NE.flat E) ht hc hE (OpN.flat h1) H enc w spare held fuel cs x hx
  refine ⟨s, xs, rfl, ?_, h3, h4⟩
  obtain ⟨hl, hv, hok⟩ := h2
  clear hok
  have e : (zs.zip xs).flatMap (NE.flat E).E.enc = xs.flatMap E.enc := by
    clear hv h3 h4 hx
    induction zs generalizing xs with
    | nil => cases xs with
      | nil => rfl
      | cons => simp at hl
    | cons z zs ih => cases xs with
      | nil => simp at hl
      | cons x xs =>
        simp only [List.zip_cons_cons, List.flatMap_cons]
        rw [ih xs (by simpa using hl)]
        rfl
  obtain ⟨⟨A, n, c, h5, h6, h7, h8, h9, h10⟩, hG⟩ := hv
  refine ⟨⟨A, n, c, h5, ?_, h7, h8, h9, fun ad hA k v hk => h10 ad hA k v (by rw [e]; exact hk)⟩, hG⟩
  rw [h6]; simp [hl]
theorem OpN.nest {Z X : Type} {t e : TypeId} {K : NE Z X} {wf : X → Prop} (ht : P.underlying t = some (.slice e)) (hc : P.cellsOf e = K.E.sz) (hE : 0 < K.E.sz) (h1 : OpN P e K wf) : OpN P t (NE.nest K) (fun xs => (∀ x ∈ xs, wf x) ∧ xs.length ≤ maxLen) := fun H enc w spare held fuel cs x hx => by
  obtain ⟨s, zs, xs, rfl, h2, h3, h4⟩ := trod_vn ht hc hE h1 H enc w spare held fuel cs x hx
  exact ⟨(s, zs), xs, rfl, h2, h3, h4⟩
def OpNs {Z X : Type} (P : Program) (fs : List Field) (o : Nat) (K : NE Z X) (wf : X → Prop) : Prop :=
  ∀ (H : Type) (enc : TypeId × Value → H) (w : World) (spare : Nat → Bool) (held : Bool) (fuel : Nat) (cs : List Value),
    (∀ f ∈ fs, ∃ x : DataW H × List MemPlace, DataW.trod enc P w 0 spare held fuel f.type ((cs.drop f.offset).take (P.cellsOf f.type)) = some x) → ∃ z a, (cs.drop o).take K.E.sz = K.E.enc (z, a) ∧ K.ok w (lowG w) z a ∧ wf a
theorem OpNs.one {Z X : Type} {f : Field} {o : Nat} {K : NE Z X} {wf : X → Prop} (ho : f.offset = o) (hc : P.cellsOf f.type = K.E.sz) (h : OpN P f.type K wf) : OpNs P [f] o K wf := fun H enc w spare held fuel cs hf => by
  obtain ⟨x, hx⟩ := hf f (by simp)
  obtain ⟨z, a, ha, hk, hw⟩ := h H enc w spare held fuel _ x hx
  subst ho
  rw [hc] at ha
  exact ⟨z, a, ha, hk, hw⟩
theorem OpNs.cons {Z1 Z2 X1 X2 : Type} {f : Field} {fs : List Field} {o : Nat} {A : NE Z1 X1} {B : NE Z2 X2} {wa : X1 → Prop} {wb : X2 → Prop} (ho : f.offset = o) (hc : P.cellsOf f.type = A.E.sz) (h : OpN P f.type A wa) (hr : OpNs P fs (o + A.E.sz) B wb) : OpNs P (f :: fs) o (NE.pair A B) (fun x => wa x.1 ∧ wb x.2) := fun H enc w spare held fuel cs hf => by
  obtain ⟨x, hx⟩ := hf f (by simp)
  obtain ⟨z, a, ha, hk, hwa⟩ := h H enc w spare held fuel _ x hx
  obtain ⟨z', b, hb, hk', hwb⟩ := hr H enc w spare held fuel cs (fun g hg => hf g (by simp [hg]))
  subst ho
  rw [hc] at ha
  refine ⟨(z, z'), (a, b), ?_, ⟨hk, hk'⟩, hwa, hwb⟩
  show (cs.drop f.offset).take (A.E.sz + B.E.sz) = A.E.enc (z, a) ++ B.E.enc (z', b)
  rw [← ha, ← hb, List.take_add, List.drop_drop]
theorem OpN.struct {Z X : Type} {t : TypeId} {fs : Array Field} {K : NE Z X} {wf : X → Prop} (ht : P.underlying t = some (.struct fs)) (hc : P.cellsOf t = K.E.sz) (h : OpNs P fs.toList 0 K wf) : OpN P t K wf := fun H enc w spare held fuel cs x hx => by
  obtain ⟨xs, m, rfl, _, hl, hxl, hall⟩ := DataW.trod_struct ht hx
  obtain ⟨z, a, ha, hk, hw⟩ := h H enc w spare held m cs (fun f hf => by
    obtain ⟨i, hi, hfi⟩ := List.mem_iff_getElem.1 hf
    have hi' : i < fs.size := by simpa using hi
    have := hall i f (by rw [Array.getElem?_eq_getElem hi']; simpa using hfi)
    have hx : i < xs.length := by omega
    rw [List.getElem?_eq_getElem hx] at this
    exact ⟨_, this⟩)
  refine ⟨z, a, ?_, hk, hw⟩
  rw [← ha, List.drop_zero, ← hc, ← hl, List.take_length]
theorem open_vn {Z X : Type} {t e : TypeId} {K : NE Z X} {wf : X → Prop} {v : Value} {d : DataW H} {p : List MemPlace} (ht : P.underlying t = some (.slice e)) (hc : P.cellsOf e = K.E.sz) (hE : 0 < K.E.sz) (h1 : OpN P e K wf) (hv : Value.okWide P W .any base t v) (h : DataW.Trod enc P W 0 (fun _ => true) true t v d p) :
    ∃ (s : SlV) (zs : List Z) (xs : List X), v = s.v ∧ (Asr.vn K s.v zs xs).p W noFp (fun b => b < W.heap.size) ∧ (∀ x ∈ xs, wf x) ∧ xs.length ≤ maxLen := by
  obtain ⟨A, len, cap, rfl⟩ := WideShapes.okWide_slice ht hv
  obtain ⟨fuel, hf⟩ := h
  obtain ⟨s, zs, xs, h2, h3, h4, h5⟩ := trod_vn ht hc hE h1 H enc W _ _ fuel _ _ hf
  refine ⟨s, zs, xs, ?_, h3, h4, h5⟩
  simpa [Value.cells] using h2

/-- A law's call, out of its contract. -/
def vwL (W : World) : List Asr → Prop
  | [] => True
  | A :: L => A.p W noFp (fun b => b < W.heap.size) ∧ vwL W L
theorem vwL.get {W : World} : ∀ {L : List Asr}, vwL W L → ∀ (i : Nat) (A : Asr), L[i]? = some A → A.p W noFp (fun b => b < W.heap.size)
  | [], _, i, A, h => by simp at h
  | B :: L, hv, 0, A, h => by simp at h; subst h; exact hv.1
  | B :: L, hv, i + 1, A, h => by simp at h; exact vwL.get hv.2 i A h
theorem law_calls {f : FuncId} {args : List Value} {Lp : List Asr} (hs : Ctr P false f args Lp (fun v L' => v = .bool true ∧ L' = [])) (hvw : vwL W Lp) :
    Calls P f args.toArray W fun e w' => e = .returned (.bool true) ∧ RowKit.Below W.heap.size W w' := by
  refine (hs W noFp (fun b => b < W.heap.size) ⟨fun _ => noFp, hvw.get, fun _ _ _ h => h, fun _ _ _ _ _ _ h => h.elim⟩ (fun _ h => h.elim) (fun b h => h.resolve_left id)).mono ?_
  rintro e w' ⟨v, L', rfl, ⟨rfl, rfl⟩, F, G, _, hg⟩
  exact ⟨rfl, hg.frm.os, hg.frm.tape, hg.frm.output, hg.frm.size, fun k hk => hg.frm.block k hk (fun h => h)⟩
end
end Go.Eng
