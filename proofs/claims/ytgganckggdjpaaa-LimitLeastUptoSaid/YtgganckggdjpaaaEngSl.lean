/- Rules for slices: read, owned, made, appended to, written, cut. -/
import Derived.Test.YtgganckggdjpaaaEngMem
import Derived.Maps.AppendAt
namespace Go.Eng
open Go

/-- A slice's value, by its parts. -/
structure SlV where
  a : Option Addr
  m : Nat
  c : Nat
instance : Inhabited SlV := ⟨⟨none, 0, 0⟩⟩
abbrev SlV.v (s : SlV) : Value := .slice s.a s.m s.c
abbrev SlV.nil : SlV := ⟨none, 0, 0⟩
/-- The slice value sv reads as xs. -/
def RdS {α : Type} (w : World) (E : Enc α) (sv : Value) (xs : List α) : Prop :=
  ∃ A n c, sv = .slice A n c ∧ n = xs.length ∧ n ≤ c ∧ n ≤ 9223372036854775807 ∧ (A = none → n = 0 ∧ c = 0) ∧
    ∀ ad, A = some ad → ∀ (k : Nat) (v : Value), (xs.flatMap E.enc)[k]? = some v → w.cell? (ad.add k) = some v
def inG (G : Fp) (sv : Value) : Prop := ∀ ad n c, sv = .slice (some ad) n c → 0 < n → G ad.block
theorem RdS.loc {α : Type} {w w' : World} {E : Enc α} {sv : Value} {xs : List α} (h : RdS w E sv xs) (hw : ∀ ad n c, sv = .slice (some ad) n c → 0 < n → w'.heap[ad.block]? = w.heap[ad.block]?) : RdS w' E sv xs := by
  obtain ⟨A, n, c, rfl, hn, h1, h2, h3, h4⟩ := h
  refine ⟨A, n, c, rfl, hn, h1, h2, h3, fun ad hA k v hk => ?_⟩
  subst hA
  have h0 : 0 < n := by
    rcases Nat.eq_zero_or_pos n with h | h
    · have : xs = [] := List.eq_nil_of_length_eq_zero (by omega)
      subst this
      simp at hk
    · exact h
  rw [← h4 ad rfl k v hk]
  refine World.cell?_of_block ?_
  rw [add_block]
  exact hw ad n c rfl h0

/-- A slice that is read, in blocks that nobody writes any more. -/
def Asr.vw {α : Type} (E : Enc α) (sv : Value) (xs : List α) : Asr where
  p w _ G := RdS w E sv xs ∧ inG G sv
  loc _ _ _ _ h hw := ⟨h.1.loc fun ad n c e h0 => hw _ (.inr (h.2 ad n c e h0)), h.2⟩
  mono _ _ _ _ h hG := ⟨h.1, fun ad n c e h0 => hG _ (h.2 ad n c e h0)⟩
/-- A slice that is owned, with its whole block. -/
def Asr.of {α : Type} (e : TypeId) (E : Enc α) (sv : Value) (xs : List α) : Asr where
  p w F _ := w.ownsRow 0 e E.sz sv xs.length (xs.flatMap E.enc) ∧ ∀ b, sv.ownBlock = some b → F b
  loc w w' F G h hw := by
    refine ⟨⟨h.1.1, ?_⟩, h.2⟩
    rcases h.1.2 with hn | ⟨g, cap, cur, rfl, hb, hg, rest⟩
    · exact .inl hn
    · exact .inr ⟨g, cap, cur, rfl, hb, (hw g (.inl (h.2 g rfl))).trans hg, rest⟩
  mono _ _ _ _ h _ := h
theorem own_of {α : Type} (e : TypeId) (E : Enc α) (sv : Value) (xs : List α) : (Asr.of e E sv xs).own := fun _ _ _ h => h

theorem rds_of {α : Type} {w : World} {e : TypeId} {E : Enc α} {sv : Value} {xs : List α} (h : w.ownsRow 0 e E.sz sv xs.length (xs.flatMap E.enc)) : RdS w E sv xs := by
  rcases h.2 with ⟨rfl, h0⟩ | ⟨g, cap, cur, rfl, hb, hg, hnc, hcm, _, _⟩
  · exact ⟨none, 0, 0, rfl, h0.symm, Nat.le_refl _, by omega, fun _ => ⟨rfl, rfl⟩, (fun ad h => nomatch h)⟩
  · refine ⟨some ⟨g, 0, none⟩, xs.length, cap, rfl, rfl, hnc, by simp only [maxLen] at hcm; omega, (fun h => nomatch h), fun ad hA k v hk => ?_⟩
    obtain rfl := Option.some.inj hA
    exact h.cells rfl k v hk

section
variable {P : Program} {n : Fsz} {c : Ctx} {env : Env} {L : List Asr} {d : Option Tmp} {ty : TypeId} {ps : String} {af : Array Edge} {g : Option (Nat × Bool)}

/-- What the assertions tell of a slice. -/
def Rdg {α : Type} (c : Ctx) (L : List Asr) (E : Enc α) (sv : Value) (xs : List α) : Prop := ∀ w, Sat c L w → RdS w E sv xs
theorem Rdg.vw {α : Type} {E : Enc α} {sv : Value} {xs : List α} (i : Nat) (hi : L[i]? = some (Asr.vw E sv xs)) : Rdg c L E sv xs := fun w hs => by
  obtain ⟨F, G, hp, _⟩ := hs.get hi
  exact hp.1
theorem Rdg.of {α : Type} {e : TypeId} {E : Enc α} {sv : Value} {xs : List α} (i : Nat) (hi : L[i]? = some (Asr.of e E sv xs)) : Rdg c L E sv xs := fun w hs => by
  obtain ⟨F, G, hp, _⟩ := hs.get hi
  exact rds_of hp.1

theorem one_sl {α : Type} {E : Enc α} {sv : Value} {xs : List α} (h : Rdg c L E sv xs) {w : World} (hs : Sat c L w) : ∀ u ∈ (Seg.c sv).cs, u.oneCell' = true := by
  obtain ⟨A, m, cp, rfl, _⟩ := h w hs
  exact one_c rfl
theorem cells_sl {α : Type} {E : Enc α} {sv : Value} {xs : List α} (h : Rdg c L E sv xs) {w : World} (hs : Sat c L w) : sv.cells.toList = flat [Seg.c sv] := by
  obtain ⟨A, m, cp, rfl, _⟩ := h w hs
  rfl
theorem QV.len {α : Type} {E : Enc α} {sv : Value} {xs : List α} {x : Operand} {t e : TypeId} (hrd : Rdg c L E sv xs) (ht : P.underlying t = some (.slice e)) (hx : ev env x = some sv) : QV P n c env L ⟨d, .call ⟨.builtin .len, #[x], #[t]⟩, ty, ps, af, g⟩ (.int .i64 xs.length) := fun a w hr hs => by
  obtain ⟨A, m, cp, rfl, hm, _⟩ := hrd w hs
  simp [execOp, resolve, invoke, builtin, Builtin.len_, hr.eval hx, run_underlying ht, goInt, hm]
def elA (sv : Value) (k : Nat) : Addr :=
  match sv with
  | .slice (some ad) _ _ => ad.add k
  | _ => default
theorem QV.indexA {α : Type} {E : Enc α} {sv : Value} {xs : List α} {x y : Operand} {t e : TypeId} {ag : Bool} {k : IntKind} {i : Int} (hrd : Rdg c L E sv xs) (ht : P.underlying t = some (.slice e)) (he : tk P e = some (ag, E.sz)) (hx : ev env x = some sv) (hy : ev env y = some (.int k i)) (h : 0 ≤ i ∧ i < xs.length) :
    QV P n c env L ⟨d, .indexAddr t x y, ty, ps, af, g⟩ (.pointer (some (elA sv (i.toNat * E.sz)))) := fun a w hr hs => by
  obtain ⟨A, m, cp, rfl, hm, hmc, hm63, hA, _⟩ := hrd w hs
  obtain ⟨_, h2⟩ := run_isAgg (w := w) he
  cases A with
  | none => have := (hA rfl).1; omega
  | some ad =>
    subst hm
    simp [execOp, Instr.indexAt, hr.eval hx, hr.eval hy, asIntOf, run_underlying ht, h2, elA, h.1, h.2]
def gd {α : Type} [Inhabited α] (xs : List α) (i : Int) : α := xs.getD i.toNat default
theorem gd_get {α : Type} [Inhabited α] {xs : List α} {i : Int} (h : 0 ≤ i ∧ i < xs.length) : xs[i.toNat]? = some (gd xs i) := by
  have : i.toNat < xs.length := by omega
  simp [gd, List.getD, List.getElem?_eq_getElem this]
theorem el_cell {α : Type} [Inhabited α] {w : World} {E : Enc α} {sv : Value} {xs : List α} {i : Int} (hrd : RdS w E sv xs) (h : 0 ≤ i ∧ i < xs.length) (o k : Nat) (v : Value) (hv : (E.enc (gd xs i))[o + k]? = some v) : w.cell? (((elA sv (i.toNat * E.sz)).add o).add k) = some v := by
  obtain ⟨A, m, cp, rfl, hm, hmc, hm63, hA, hc⟩ := hrd
  cases A with
  | none => have := (hA rfl).1; omega
  | some ad =>
    simp only [elA, add_add]
    refine hc ad rfl _ v ?_
    rw [Nat.add_assoc, flat_get E xs i.toNat (o + k) _ (gd_get h) ?_]
    · exact hv
    · have := (List.getElem?_eq_some_iff.1 hv).1
      rwa [E.len] at this
/-- A load of an element of one cell. -/
theorem QV.el1 {α : Type} [Inhabited α] {E : Enc α} {sv : Value} {xs : List α} {x : Operand} {t : TypeId} {s : Nat} {i : Int} {v : Value} (hrd : Rdg c L E sv xs) (ht : tk P t = some (false, s)) (hx : ev env x = some (.pointer (some (elA sv (i.toNat * E.sz))))) (h : 0 ≤ i ∧ i < xs.length) (hv : (E.enc (gd xs i)) = [v]) :
    QV P n c env L ⟨d, .load t x, ty, ps, af, g⟩ v := fun a w hr hs => by
  have := el_cell (hrd w hs) h 0 0 v (by rw [hv]; rfl)
  exact run_loadOp (hr.eval hx) (run_loadVar_one _ v ht (by simpa [Addr.add] using this))
/-- A load of a field of an element. -/
theorem QV.elF {α : Type} [Inhabited α] {E : Enc α} {sv : Value} {xs : List α} {x : Operand} {t : TypeId} {s o : Nat} {i : Int} {v : Value} (hrd : Rdg c L E sv xs) (ht : tk P t = some (false, s)) (hx : ev env x = some (.pointer (some ((elA sv (i.toNat * E.sz)).add o)))) (h : 0 ≤ i ∧ i < xs.length) (hv : (E.enc (gd xs i))[o]? = some v) :
    QV P n c env L ⟨d, .load t x, ty, ps, af, g⟩ v := fun a w hr hs => by
  have := el_cell (hrd w hs) h o 0 v hv
  exact run_loadOp (hr.eval hx) (run_loadVar_one _ v ht (by simpa [Addr.add] using this))
/-- A load of a whole element of several cells. -/
theorem QV.elN {α : Type} [Inhabited α] {E : Enc α} {sv : Value} {xs : List α} {x : Operand} {t : TypeId} {i : Int} (hrd : Rdg c L E sv xs) (ht : tk P t = some (true, E.sz)) (hx : ev env x = some (.pointer (some (elA sv (i.toNat * E.sz))))) (h : 0 ≤ i ∧ i < xs.length) :
    QV P n c env L ⟨d, .load t x, ty, ps, af, g⟩ (.agg (E.enc (gd xs i)).toArray) := fun a w hr hs =>
  run_loadOp (hr.eval hx) (run_loadVar_cells _ _ ht (E.len _) fun k v hk => by
    have := el_cell (hrd w hs) h 0 k v (by simpa using hk)
    simpa [Addr.add] using this)

/-! ### A slice of the call's own: made, a literal, appended to -/
theorem of_new {α : Type} (w : World) (e : TypeId) (E : Enc α) (xs : List α) (hl : xs.length ≤ 9223372036854775807) (hs : Sat c L w) :
    Sat c (Asr.of e E (.slice (some ⟨w.heap.size, 0, none⟩) xs.length xs.length) xs :: L) (w.alloc (.cells (xs.flatMap E.enc).toArray e)) :=
  hs.alloc _ fun G => ⟨⟨by rw [flat_len], .inr ⟨w.heap.size, xs.length, (xs.flatMap E.enc).toArray, rfl, Nat.zero_le _, heap_alloc_new w _, Nat.le_refl _, by simp only [maxLen]; omega, by rw [List.size_toArray, flat_len], by
    rw [List.take_of_length_le (by rw [flat_len]; exact Nat.le_refl _)]⟩⟩, fun b h => by simpa [Value.ownBlock] using h.symm⟩
theorem of_nil {α : Type} (w : World) (e : TypeId) (E : Enc α) : (Asr.of e E (.slice none 0 0) []).p w noFp noFp := ⟨⟨by simp, .inl ⟨rfl, rfl⟩⟩, fun b h => by simp [Value.ownBlock] at h⟩

theorem madeCells_flat {α : Type} (E : Enc α) (z : α) (m : Nat) (hE : 0 < E.sz) : (madeCells (E.enc z).toArray (m * E.sz)).toList = (List.replicate m z).flatMap E.enc := by
  apply List.ext_getElem?
  intro j
  by_cases hj : j < m * E.sz
  · have h1 : (madeCells (E.enc z).toArray (m * E.sz)).toList[j]? = (E.enc z)[j % E.sz]? := by
      have hlt : j % E.sz < (E.enc z).length := by rw [E.len]; exact Nat.mod_lt _ hE
      simp [madeCells, hj, E.len, List.getElem?_eq_getElem hlt]
    have hq : j / E.sz < m := by rw [Nat.div_lt_iff_lt_mul hE]; exact hj
    have h2 := flat_get E (List.replicate m z) (j / E.sz) (j % E.sz) z (by simp [hq]) (Nat.mod_lt _ hE)
    rw [Nat.mul_comm, Nat.div_add_mod] at h2
    rw [h1, h2]
  · rw [List.getElem?_eq_none (by simp [madeCells]; omega), List.getElem?_eq_none (by rw [flat_len]; simp; omega)]
theorem MV.make {α : Type} {E : Enc α} {t e : TypeId} {x y : Operand} {z : Value} {bytes : Nat} {k k' : IntKind} {m : Int} (z0 : α) (ht : P.underlying t = some (.slice e)) (hz : (P.info? e).map (fun i => (i.zero, i.size, i.bytes)) = some (some z, E.sz, bytes)) (hE : 0 < E.sz) (hz0 : z.cells.toList = E.enc z0)
    (hx : ev env x = some (.int k m)) (hy : ev env y = some (.int k' m)) (h : 0 ≤ m ∧ m * bytes ≤ 281474976710656 ∧ m ≤ 9223372036854775807) :
    MV P n c env L ⟨d, .makeSlice t x y, ty, ps, af, g⟩ (fun v L' => ∃ sv : SlV, v = sv.v ∧ L' = Asr.of e E sv.v (List.replicate m.toNat z0) :: L) := fun a w hr hs => by
  obtain ⟨ti, hti, hzz⟩ := Option.map_eq_some_iff.1 hz
  simp only [Prod.mk.injEq] at hzz
  obtain ⟨hz1, hz2, hz3⟩ := hzz
  have hrun := run_make (P := P) w t e ti z ht hti hz1 k k' m m h.1 (Int.le_refl _) (by rw [hz3, Int.mul_comm]; exact h.2.1) h.2.2
  have : (execOp a.eval ⟨d, .makeSlice t x y, ty, ps, af, g⟩).run P w = .ok (.value (.slice (some ⟨w.heap.size, 0, none⟩) m.toNat m.toNat)) (w.alloc (.cells (madeCells z.cells (m.toNat * ti.size)) e)) := by
    simp only [execOp, hr.eval hx, hr.eval hy]
    simp [hrun]
  rw [this]
  refine ⟨_, ⟨⟨some ⟨w.heap.size, 0, none⟩, m.toNat, m.toNat⟩, rfl, rfl⟩, ?_⟩
  have hcells : z.cells = (E.enc z0).toArray := by rw [← hz0]
  have key : madeCells z.cells (m.toNat * ti.size) = ((List.replicate m.toNat z0).flatMap E.enc).toArray := by
    apply Array.ext'
    rw [hcells, hz2, madeCells_flat E z0 m.toNat hE]
  rw [key]
  have := of_new (c := c) (L := L) w e E (List.replicate m.toNat z0) (by simp; omega) hs
  simpa using this


theorem run_buildSl {w : World} {t e : TypeId} {len : Nat} {parts : Array (Nat × Value)} {cells : List Value} {z : Value} {sz bytes : Nat} (ht : P.underlying t = some (.slice e)) (hz : (P.info? e).map (fun i => (i.zero, i.size, i.bytes)) = some (some z, sz, bytes))
    (hl : len * sz ≤ 16777216) (h0 : len * sz ≠ 0) (hf : Instr.fill (fun i => some (i * sz, sz)) (madeCells z.cells (len * sz)) parts.toList = some cells.toArray) :
    (Instr.buildSlice t len parts).run P w = .ok (.slice (some ⟨w.heap.size, 0, none⟩) len len) (w.alloc (.cells cells.toArray e)) := by
  obtain ⟨ti, hti, hzz⟩ := Option.map_eq_some_iff.1 hz
  simp only [Prod.mk.injEq] at hzz
  obtain ⟨hz1, hz2, hz3⟩ := hzz
  subst hz2
  have hl' : ¬ (16777216 < len * ti.size) := by omega
  simp only [madeCells] at hf
  simp [Instr.buildSlice, run_underlying ht, sizeOf, typeInfo, hti, h0, hl', zeroValue, hz1]
  rw [hf]
  simp [newRow]
def evp (env : Env) : List (Nat × Operand) → Option (List (Nat × Value))
  | [] => some []
  | (i, x) :: xs => match ev env x, evp env xs with
    | some v, some vs => some ((i, v) :: vs)
    | _, _ => none
theorem Rep.evalp {env : Env} {a : Act} (h : Rep n env a) : ∀ {xs : List (Nat × Operand)} {vs : List (Nat × Value)}, evp env xs = some vs → xs.map (fun p => (p.1, a.eval p.2)) = vs
  | [], vs, e => by simp only [evp] at e; obtain rfl := Option.some.inj e; rfl
  | (i, x) :: xs, vs, e => by
    simp only [evp] at e
    split at e
    · rename_i v vs' hv hvs
      obtain rfl := Option.some.inj e
      rw [List.map_cons, h.eval hv, h.evalp hvs]
    · cases e
/-- A slice's literal. -/
theorem MV.lit {α : Type} {E : Enc α} {t e : TypeId} {parts : List (Nat × Operand)} {vals : List (Nat × Value)} {z : Value} {bytes len : Nat} (xs : List α) (ht : P.underlying t = some (.slice e)) (hz : (P.info? e).map (fun i => (i.zero, i.size, i.bytes)) = some (some z, E.sz, bytes))
    (hlen : xs.length = len) (hl : len * E.sz ≤ 16777216 ∧ len * E.sz ≠ 0) (hv : evp env parts = some vals) (hf : Instr.fill (fun i => some (i * E.sz, E.sz)) (madeCells z.cells (len * E.sz)) vals = some (xs.flatMap E.enc).toArray) :
    MV P n c env L ⟨d, .buildSlice t len parts.toArray, ty, ps, af, g⟩ (fun v L' => ∃ sv : SlV, v = sv.v ∧ L' = Asr.of e E sv.v xs :: L) := fun a w hr hs => by
  subst hlen
  have hrun := run_buildSl (P := P) (w := w) (parts := vals.toArray) ht hz hl.1 hl.2 hf
  have : (execOp a.eval ⟨d, .buildSlice t xs.length parts.toArray, ty, ps, af, g⟩).run P w = .ok (.value (.slice (some ⟨w.heap.size, 0, none⟩) xs.length xs.length)) (w.alloc (.cells (xs.flatMap E.enc).toArray e)) := by
    have h1 := hr.evalp hv
    simp only [execOp, List.map_toArray]
    rw [show (parts.map fun x => match x with | (i, x) => (i, a.eval x)) = vals from h1]
    simp [hrun]
  rw [this]
  refine ⟨_, ⟨⟨_, _, _⟩, rfl, rfl⟩, of_new w e E xs ?_ hs⟩
  have hE : 0 < E.sz := by rcases Nat.eq_zero_or_pos E.sz with h | h; (· rw [h] at hl; simp at hl); exact h
  have : xs.length * 1 ≤ xs.length * E.sz := Nat.mul_le_mul_left _ hE
  omega
/-- The empty literal. -/
theorem MV.lit0 {α : Type} {t e : TypeId} (E : Enc α) (ht : P.underlying t = some (.slice e)) (hz : (P.info? e).isSome = true) :
    MV P n c env L ⟨d, .buildSlice t 0 #[], ty, ps, af, g⟩ (fun v L' => ∃ sv : SlV, v = sv.v ∧ L' = Asr.of e E sv.v [] :: L) := fun a w hr hs => by
  obtain ⟨ti, hti⟩ := Option.isSome_iff_exists.1 hz
  have : (execOp a.eval ⟨d, .buildSlice t 0 #[], ty, ps, af, g⟩).run P w = .ok (.value (.slice (some ⟨w.heap.size, 0, none⟩) 0 0)) (w.alloc (.cells #[] e)) := by
    simp [execOp, Instr.buildSlice, run_underlying ht, sizeOf, typeInfo, hti, Instr.fill, newRow]
    simp [Array.range]
  rw [this]
  have := of_new (c := c) (L := L) w e E ([] : List α) (by simp) hs
  exact ⟨_, ⟨⟨some ⟨w.heap.size, 0, none⟩, 0, 0⟩, rfl, rfl⟩, by simpa using this⟩

theorem run_call_append {ρ : Operand → Value} {w w' : World} {x y : Operand} {t : TypeId} {u v r : Value} (hx : ρ x = u) (hy : ρ y = v) (h : (Builtin.append_ #[t, t] ty #[u, v]).run P w = .ok r w') : (execOp ρ ⟨d, .call ⟨.builtin .append, #[x, y], #[t, t]⟩, ty, ps, af, g⟩).run P w = .ok (.value r) w' := by
  simp [execOp, resolve, invoke, builtin, hx, hy, h]
/-- append to a slice that is owned; what is appended is read. -/
theorem append_at {α : Type} {E : Enc α} {sv : SlV} {su : Value} {xs ys : List α} {x y : Operand} {t e : TypeId} {z : Value} {bytes : Nat} {a : Act} {w : World} (hr : Rep n env a) (hs : Sat c L w) (hrd : RdS w E su ys) (i : Nat) (hi : L[i]? = some (Asr.of e E sv.v xs)) (ht : P.underlying t = some (.slice e)) (hz : (P.info? e).map (fun i => (i.zero, i.size, i.bytes)) = some (some z, E.sz, bytes))
    (hzs : z.cells.size = E.sz) (hE : 0 < E.sz) (hx : ev env x = some sv.v) (hy : ev env y = some su) (hb : (xs.length + ys.length) * bytes ≤ 140737488355328 ∧ xs.length + ys.length ≤ 9223372036854775807) :
    mvUpon P c (fun v L' => ∃ sw : SlV, v = sw.v ∧ L' = L.set i (Asr.of e E sw.v (xs ++ ys))) ((execOp a.eval ⟨d, .call ⟨.builtin .append, #[x, y], #[t, t]⟩, ty, ps, af, g⟩).run P w) := by
  obtain ⟨ti, hti, hzz⟩ := Option.map_eq_some_iff.1 hz
  simp only [Prod.mk.injEq] at hzz
  obtain ⟨hz1, hz2, hz3⟩ := hzz
  obtain ⟨A, m, cp, rfl, hm, hmc, hm63, hA, hc⟩ := hrd
  obtain ⟨F1, G, hp, hdom, _, hput⟩ := hs.zoom hi
  have hflat : (xs ++ ys).flatMap E.enc = xs.flatMap E.enc ++ ys.flatMap E.enc := by rw [List.flatMap_append]
  cases A with
  | none =>
    obtain ⟨h0, h0'⟩ := hA rfl
    have : ys = [] := List.eq_nil_of_length_eq_zero (by omega)
    subst this
    subst h0'
    have hrun := run_append_owned_none (P := P) w 0 t ty e ti E.sz ht hti sv.v xs.length _ hp.1
    subst hm
    rw [run_call_append (hr.eval hx) (hr.eval hy) hrun]
    refine ⟨_, ⟨sv, rfl, rfl⟩, hput w F1 _ ?_ (fun _ _ _ => rfl) (fun b h => .inl h) hdom (Nat.le_refl _) rfl rfl rfl⟩
    simpa using hp
  | some ad =>
    subst hm
    obtain ⟨v', w', hrun, hown, hgr, _, hat⟩ := run_append_own_at (P := P) w 0 t ty e ti z E.sz bytes ht hti hz1 hz2 hz3 hzs hE sv.v xs.length _ hp.1 ad ys.length cp (ys.flatMap E.enc) (flat_len E ys) (fun j u hu => hc ad rfl j u hu) (flat_one E ys) (by simp only [maxLen]; omega) hb.1 (Nat.zero_le _)
    rw [run_call_append (hr.eval hx) (hr.eval hy) hrun]
    obtain ⟨sw, rfl⟩ : ∃ s : SlV, v' = s.v := by
      rcases hown.2 with h | ⟨g', cap', cur', h, _⟩
      · exact ⟨SlV.nil, h.1⟩
      · exact ⟨⟨_, _, _⟩, h⟩
    have hblk : ∀ b, sv.v.ownBlock = some b → F1 b := hp.2
    refine ⟨_, ⟨sw, rfl, rfl⟩, hput w' (fun b => sw.v.ownBlock = some b) _ ⟨?_, fun b h => h⟩ (fun b hb hn => hgr.block b hb (fun e => hn (hblk b e.symm))) (fun b h => ?_) (fun b h => (hown.lt b h).2) hgr.size hgr.os hgr.tape hgr.output⟩
    · rw [hflat, List.length_append]; exact hown
    · rcases hat with e | e
      · exact .inl (hblk b (e ▸ h))
      · rw [e] at h; exact .inr (by have := Option.some.inj h; omega)

theorem MV.append {α : Type} {E : Enc α} {sv : SlV} {su : Value} {xs ys : List α} {x y : Operand} {t e : TypeId} {z : Value} {bytes : Nat} (i : Nat) (hi : L[i]? = some (Asr.of e E sv.v xs)) (hrd : Rdg c L E su ys) (ht : P.underlying t = some (.slice e)) (hz : (P.info? e).map (fun i => (i.zero, i.size, i.bytes)) = some (some z, E.sz, bytes))
    (hzs : z.cells.size = E.sz) (hE : 0 < E.sz) (hx : ev env x = some sv.v) (hy : ev env y = some su) (hb : (xs.length + ys.length) * bytes ≤ 140737488355328 ∧ xs.length + ys.length ≤ 9223372036854775807) :
    MV P n c env L ⟨d, .call ⟨.builtin .append, #[x, y], #[t, t]⟩, ty, ps, af, g⟩ (fun v L' => ∃ sw : SlV, v = sw.v ∧ L' = L.set i (Asr.of e E sw.v (xs ++ ys))) := fun a w hr hs => append_at hr hs (hrd w hs) i hi ht hz hzs hE hx hy hb
/-- A store of a whole element of a slice that is owned. -/
theorem MV.storeEl {α : Type} {E : Enc α} {sv : Value} {xs : List α} {x y : Operand} {t e : TypeId} {ag : Bool} {k : Int} {v : Value} (i : Nat) (x' : α) (hi : L[i]? = some (Asr.of e E sv xs)) (ht : tk P t = some (ag, E.sz)) (hx : ev env x = some (.pointer (some (elA sv (k.toNat * E.sz))))) (hy : ev env y = some v)
    (h : 0 ≤ k ∧ k < xs.length) (hv : v.cells.toList = E.enc x') : MV P n c env L ⟨none, .store t x y, ty, ps, af, g⟩ (fun u L' => u = undef ∧ L' = L.set i (Asr.of e E sv (xs.set k.toNat x'))) := fun ac w hr hs => by
  obtain ⟨F1, G, hp, hdom, _, hput⟩ := hs.zoom hi
  have hk : k.toNat < xs.length := by omega
  obtain ⟨hlen, hrow⟩ := hp.1
  rcases hrow with ⟨rfl, h0⟩ | ⟨g', cap, cur, rfl, hb, hg, hnc, hcm, hcs, htake⟩
  · omega
  · have hF : F1 g' := hp.2 g' rfl
    have hvl : v.cells.toList.length = E.sz := by rw [hv, E.len]
    have hmul : k.toNat * E.sz + E.sz ≤ xs.length * E.sz := by
      have := Nat.mul_le_mul_right E.sz (show k.toNat + 1 ≤ xs.length from hk)
      rwa [Nat.add_mul, Nat.one_mul] at this
    have hmul2 : xs.length * E.sz ≤ cap * E.sz := Nat.mul_le_mul_right _ hnc
    have hrun := run_storeVar_at (P := P) (w := w) (t := t) (a := ag) (b := g') (o := k.toNat * E.sz) (T := e) (cur := cur.toList) (v := v) (by rw [hvl]; exact ht) (by simpa using hg) (by rw [hvl]; simp [hcs]; omega) (by rw [hv]; exact E.one x')
    have hadr : elA (.slice (some ⟨g', 0, none⟩) xs.length cap) (k.toNat * E.sz) = ⟨g', k.toNat * E.sz, none⟩ := by simp only [elA, add_plain, Nat.zero_add]
    rw [hadr] at hx
    have : (execOp ac.eval ⟨none, .store t x y, ty, ps, af, g⟩).run P w = .ok .skip (w.setRow g' (cur.toList.take (k.toNat * E.sz) ++ v.cells.toList ++ cur.toList.drop (k.toNat * E.sz + v.cells.toList.length)).toArray) := by
      simp only [execOp, hr.eval hx, hr.eval hy, Instr.storeAt, Instr.sureAddr]
      simp [hrun]
    rw [this]
    refine ⟨_, ⟨rfl, rfl⟩, hput _ F1 _ ⟨⟨by rw [flat_len], .inr ⟨g', cap, _, by simp, hb, setRow_heap w g' cur _ e (0, 0) hg, by simpa using hnc, hcm, ?_, ?_⟩⟩, fun b h => by simpa [Value.ownBlock] using hp.2 b h⟩ (fun j hj hn => setRow_other w g' j _ (fun e => hn (e ▸ hF))) (fun b hb => .inl hb) (fun j hj => by simpa [World.setRow] using hdom j hj) (by simp [World.setRow]) rfl rfl rfl⟩
    · simp only [List.size_toArray, List.length_append, List.length_take, List.length_drop, hvl, Array.length_toList, hcs]; omega
    · rw [flat_set E xs k.toNat x' hk, hv]
      have hc2 : cur.toList = xs.flatMap E.enc ++ cur.toList.drop (xs.length * E.sz) := by conv => lhs; rw [← List.take_append_drop (xs.length * E.sz) cur.toList, htake]
      have hfl := flat_len E xs
      have h1 : cur.toList.take (k.toNat * E.sz) = (xs.flatMap E.enc).take (k.toNat * E.sz) := by rw [hc2, List.take_append_of_le_length (by rw [hfl]; omega)]
      have h2 : cur.toList.drop (k.toNat * E.sz + E.sz) = (xs.flatMap E.enc).drop (k.toNat * E.sz + E.sz) ++ cur.toList.drop (xs.length * E.sz) := by conv => lhs; rw [hc2, List.drop_append_of_le_length (by rw [hfl]; omega)]
      simp only [List.length_set, E.len]
      rw [h1, h2, ← List.append_assoc, List.take_left']
      simp only [List.length_append, List.length_take, List.length_drop, hfl, E.len]
      omega

/-! ### What one assertion tells of another -/
theorem JC.ent {L' : List Asr} {code : Code} {K : Kn} (h : ∀ w, Sat c L w → Sat c L' w) (next : JC P n c env L' code K) : JC P n c env L code K := fun a w hr hs => next a w hr (h w hs)
theorem JL.ent {ops : Array Oper} {L' : List Asr} {l : List Oper} {K : Kn} (h : ∀ w, Sat c L w → Sat c L' w) (next : JL P n c ops env L' l K) : JL P n c ops env L l K := fun a w hr hs => next a w hr (h w hs)
theorem JT.ent {ops : Array Oper} {L' LS : List Asr} {K : Kn} {T : Nat → Bool} {plan : List (Nat × Bool)} (h : ∀ w, Sat c L w → Sat c L' w) (next : JT P n c ops K LS T plan env L') : JT P n c ops K LS T plan env L := fun l a w hp hr hs => next l a w hp hr (h w hs)
theorem QJ.ent {L' : List Asr} {K : Kn} {e : Exit} (h : ∀ w, Sat c L w → Sat c L' w) (next : QJ n c env L' K e) : QJ n c env L K e := fun a w hr hs => next a w hr (h w hs)
theorem JC.ex {Z : Type} {Φ : Z → Prop} {L' : Z → List Asr} {code : Code} {K : Kn} (h : ∀ w, Sat c L w → ∃ z, Φ z ∧ Sat c (L' z) w) (next : ∀ z, Φ z → JC P n c env (L' z) code K) : JC P n c env L code K := fun a w hr hs => by
  obtain ⟨z, hz, hs'⟩ := h w hs
  exact next z hz a w hr hs'
theorem JL.ex {Z : Type} {ops : Array Oper} {Φ : Z → Prop} {L' : Z → List Asr} {l : List Oper} {K : Kn} (h : ∀ w, Sat c L w → ∃ z, Φ z ∧ Sat c (L' z) w) (next : ∀ z, Φ z → JL P n c ops env (L' z) l K) : JL P n c ops env L l K := fun a w hr hs => by
  obtain ⟨z, hz, hs'⟩ := h w hs
  exact next z hz a w hr hs'
theorem JT.ex {Z : Type} {ops : Array Oper} {Φ : Z → Prop} {L' : Z → List Asr} {LS : List Asr} {K : Kn} {T : Nat → Bool} {plan : List (Nat × Bool)} (h : ∀ w, Sat c L w → ∃ z, Φ z ∧ Sat c (L' z) w) (next : ∀ z, Φ z → JT P n c ops K LS T plan env (L' z)) : JT P n c ops K LS T plan env L := fun l a w hp hr hs => by
  obtain ⟨z, hz, hs'⟩ := h w hs
  exact next z hz l a w hp hr hs'

theorem Sat.derive {w : World} {A : Asr} (h : Drv true L A) (hs : Sat c L w) : Sat c (A :: L) w := by
  obtain ⟨F, G, hst, hg⟩ := hs
  refine ⟨F, G, ?_, hg⟩
  have hA := A.mono _ _ _ _ (h w F G hst) (fun b hb => hb.elim (fun h => by cases h.1) id : ∀ b, _ → G b)
  have h1 : Star [A] w noFp G := ⟨fun _ => noFp, fun i B hi => by
    cases i with
    | zero => simp at hi; subst hi; exact hA
    | succ i => simp at hi, fun _ _ _ h => h, fun _ _ _ _ _ _ h => h.elim⟩
  have := h1.append hst (fun _ h => h.elim) (F := F) (fun _ h => h.elim) (fun _ h => h)
  simpa using this
/-- Nil is a slice that is owned. -/
theorem Sat.nil {α : Type} {w : World} (e : TypeId) (E : Enc α) (hs : Sat c L w) : Sat c (Asr.of e E (.slice none 0 0) [] :: L) w :=
  hs.derive fun w _ _ _ => (Asr.of e E (.slice none 0 0) []).mono _ _ _ _ (of_nil w e E) (fun _ h => h.elim)
/-- What is owned is given up to be read by whoever likes. -/
theorem Sat.share {α : Type} {w : World} {e : TypeId} {E : Enc α} {sv : Value} {xs : List α} (i : Nat) (hi : L[i]? = some (Asr.of e E sv xs)) (hs : Sat c L w) : Sat c (L.set i (Asr.vw E sv xs)) w := by
  obtain ⟨F, G, ⟨Fs, h1, h2, h3⟩, hg⟩ := hs
  have hl := (List.getElem?_eq_some_iff.1 hi).1
  have hA := h1 i _ hi
  refine ⟨fun b => F b ∧ ¬ Fs i b, fun b => G b ∨ Fs i b, ⟨fun k => if k = i then noFp else Fs k, fun k B hk => ?_, fun k b hk hb => ?_, fun k j b hk hj hne hb hb' => ?_⟩, hg.frm, fun b h k => ?_, fun b h => ?_, fun b h => hg.own b h.1, fun b h => ?_⟩
  · by_cases e : k = i
    · subst e
      rw [List.getElem?_set_self hl] at hk
      obtain rfl := Option.some.inj hk
      refine ⟨rds_of hA.1, fun ad m cp hsv _ => .inr (hA.2 ad.block (by rw [hsv]; rfl))⟩
    · rw [List.getElem?_set_ne (Ne.symm e)] at hk
      simp only [e, if_false]
      exact B.mono _ _ _ _ (h1 k B hk) (fun b hb => .inl hb)
  · simp only [List.length_set] at hk
    by_cases e : k = i
    · simp only [e, if_true] at hb; exact hb.elim
    · simp only [e, if_false] at hb; exact ⟨h2 k b hk hb, fun h => h3 k i b hk hl e hb h⟩
  · simp only [List.length_set] at hk hj
    by_cases e : k = i
    · simp only [e, if_true] at hb; exact hb.elim
    · by_cases e' : j = i
      · simp only [e', if_true] at hb'; exact hb'.elim
      · simp only [e, if_false] at hb; simp only [e', if_false] at hb'; exact h3 k j b hk hj hne hb hb'
  · exact k.elim (hg.dis b h.1) h.2
  · rcases h with h | h | h
    · exact hg.dom b (.inl h.1)
    · exact hg.dom b (.inr h)
    · exact hg.dom b (.inl (h2 i b hl h))
  · rcases h with h | h
    · exact hg.shr b h
    · exact .inr (hg.own b (h2 i b hl h))

def subS (sz : Nat) (sv : Value) (lo hi : Int) : Value :=
  match sv with
  | .slice a _ cap => .slice (if cap = lo.toNat then a else a.map (·.add (lo.toNat * sz))) (hi.toNat - lo.toNat) (cap - lo.toNat)
  | _ => undef
def SlV.sub (sz : Nat) (s : SlV) (lo hi : Int) : SlV := ⟨if s.c = lo.toNat then s.a else s.a.map (·.add (lo.toNat * sz)), hi.toNat - lo.toNat, s.c - lo.toNat⟩
def subL {α : Type} (xs : List α) (lo hi : Int) : List α := (xs.drop lo.toNat).take (hi.toNat - lo.toNat)
theorem subL_length {α : Type} (xs : List α) (lo hi : Int) (h : 0 ≤ lo ∧ lo ≤ hi ∧ hi ≤ xs.length) : (subL xs lo hi).length = hi.toNat - lo.toNat := by
  simp [subL]; omega
theorem flat_drop {α : Type} (E : Enc α) : ∀ (xs : List α) (j : Nat), (xs.drop j).flatMap E.enc = (xs.flatMap E.enc).drop (j * E.sz)
  | [], j => by simp
  | x :: xs, 0 => by simp
  | x :: xs, j + 1 => by
    simp only [List.drop_succ_cons, List.flatMap_cons]
    rw [flat_drop E xs j]
    have : (j + 1) * E.sz = (E.enc x).length + j * E.sz := by rw [E.len, Nat.add_mul]; omega
    rw [this, List.drop_length_add_append]
theorem flat_take {α : Type} (E : Enc α) : ∀ (xs : List α) (j : Nat), (xs.take j).flatMap E.enc = (xs.flatMap E.enc).take (j * E.sz)
  | [], j => by simp
  | x :: xs, 0 => by simp
  | x :: xs, j + 1 => by
    simp only [List.take_succ_cons, List.flatMap_cons]
    rw [flat_take E xs j]
    have : (j + 1) * E.sz = (E.enc x).length + j * E.sz := by rw [E.len, Nat.add_mul]; omega
    rw [this, List.take_length_add_append]
theorem rds_sub {α : Type} {w : World} {E : Enc α} {sv : Value} {xs : List α} {lo hi : Int} (hrd : RdS w E sv xs) (h : 0 ≤ lo ∧ lo ≤ hi ∧ hi ≤ xs.length) : RdS w E (subS E.sz sv lo hi) (subL xs lo hi) := by
  obtain ⟨A, m, cp, rfl, hm, hmc, hm63, hA, hc⟩ := hrd
  have hlen := subL_length xs lo hi h
  refine ⟨_, _, _, rfl, hlen.symm, by omega, by omega, fun e => ?_, fun ad e k v hv => ?_⟩
  · split at e
    · rename_i hcl
      obtain ⟨h1, h2⟩ := hA e
      omega
    · rename_i hcl
      cases A with
      | none => obtain ⟨h1, h2⟩ := hA rfl; omega
      | some a => simp at e
  · have hk : (subL xs lo hi).flatMap E.enc = ((xs.flatMap E.enc).drop (lo.toNat * E.sz)).take ((hi.toNat - lo.toNat) * E.sz) := by rw [subL, flat_take, flat_drop]
    rw [hk, List.getElem?_take] at hv
    split at hv
    · rename_i hlt
      split at e
      · rename_i hcl
        have : hi.toNat - lo.toNat = 0 := by omega
        rw [this] at hlt
        simp at hlt
      · cases A with
        | none => simp at e
        | some a =>
          simp at e
          subst e
          rw [add_add]
          rw [List.getElem?_drop] at hv
          exact hc a rfl _ v hv
    · cases hv
theorem inG_sub {G : Fp} {sz : Nat} {sv : Value} {lo hi : Int} (h : inG G sv) (hn : ∀ a m cp, sv = .slice a m cp → hi.toNat ≤ m) : inG G (subS sz sv lo hi) := by
  intro ad m cp e h0
  cases sv with
  | slice a m' cp' =>
    simp only [subS, Value.slice.injEq] at e
    obtain ⟨e1, e2, e3⟩ := e
    have := hn a m' cp' rfl
    split at e1
    · subst e1; exact h ad m' cp' rfl (by omega)
    · cases a with
      | none => simp at e1
      | some a0 => simp at e1; subst e1; rw [add_block]; exact h a0 m' cp' rfl (by omega)
  | _ => simp [subS, undef] at e
theorem Drv.vw {α : Type} {b : Bool} {E : Enc α} {sv : Value} {xs : List α} (i : Nat) (hi : L[i]? = some (Asr.vw E sv xs)) : Drv b L (Asr.vw E sv xs) := fun w _ G ⟨_, h1, _, _⟩ =>
  (Asr.vw E sv xs).mono _ _ _ _ (⟨(h1 i _ hi).1, (h1 i _ hi).2⟩ : (Asr.vw E sv xs).p w noFp G) (fun _ h => .inr h)
theorem Drv.of {α : Type} {e : TypeId} {E : Enc α} {sv : Value} {xs : List α} (i : Nat) (hi : L[i]? = some (Asr.of e E sv xs)) : Drv false L (Asr.vw E sv xs) := fun w F G ⟨Fs, h1, h2, _⟩ => by
  have hA := h1 i _ hi
  exact ⟨rds_of hA.1, fun ad m cp hsv _ => .inl ⟨rfl, h2 i _ (List.getElem?_eq_some_iff.1 hi).1 (hA.2 ad.block (by rw [hsv]; rfl))⟩⟩
theorem Drv.sub {α : Type} {b : Bool} {E : Enc α} {sv : Value} {xs : List α} {lo hi : Int} (hd : Drv b L (Asr.vw E sv xs)) (h : 0 ≤ lo ∧ lo ≤ hi ∧ hi ≤ xs.length) : Drv b L (Asr.vw E (subS E.sz sv lo hi) (subL xs lo hi)) := fun w F G hs => by
  have hA := hd w F G hs
  refine ⟨rds_sub hA.1 h, inG_sub hA.2 fun a m cp e => ?_⟩
  obtain ⟨A, m', cp', e', hm, _⟩ := hA.1
  rw [e] at e'
  simp only [Value.slice.injEq] at e'
  omega

/-- x[lo:hi], either left out. -/
def bndE (env : Env) (dflt : Int) : Option Operand → Option Int
  | none => some dflt
  | some x => match ev env x with
    | some (.int _ i) => some i
    | _ => none
theorem QV.slice {α : Type} {E : Enc α} {sv : Value} {xs : List α} {x : Operand} {lo hi : Option Operand} {t e : TypeId} {ag : Bool} {l h : Int} (hrd : Rdg c L E sv xs) (ht : P.underlying t = some (.slice e)) (he : tk P e = some (ag, E.sz)) (hx : ev env x = some sv)
    (hlo : bndE env 0 lo = some l) (hhi : bndE env xs.length hi = some h) (hb : 0 ≤ l ∧ l ≤ h ∧ h ≤ xs.length) : QV P n c env L ⟨d, .slice t x lo hi none, ty, ps, af, g⟩ (subS E.sz sv l h) := fun a w hr hs => by
  obtain ⟨A, m, cp, rfl, hm, hmc, hm63, hA, _⟩ := hrd w hs
  obtain ⟨_, h2⟩ := run_isAgg (w := w) he
  subst hm
  have hB : ∀ (x : Operand) (i : Int) (y : Nat) (code : BoundsCode), (match ev env x with | some (.int _ i) => some i | _ => none) = some i → 0 ≤ i → i ≤ y → (Instr.sliceBound (a.eval x) y code).run P w = .ok i.toNat w := by
    intro x i y code he h0 hy
    split at he
    · rename_i k j hj
      obtain rfl := Option.some.inj he
      rw [hr.eval hj]
      simp [Instr.sliceBound, asIntOf, h0, hy]
    · cases he
  have key : (Instr.sliceBounds true xs.length cp (lo.map a.eval) (hi.map a.eval) none).run P w = .ok (l.toNat, h.toNat, cp) w := by
    cases lo with
    | none =>
      have : l = 0 := (Option.some.inj hlo).symm
      subst this
      cases hi with
      | none =>
        have : h = xs.length := (Option.some.inj hhi).symm
        subst this
        simp [Instr.sliceBounds]
      | some y =>
        simp [Instr.sliceBounds, hB y h cp .sliceAcap hhi (by omega) (by omega)]
    | some z =>
      cases hi with
      | none =>
        have : h = xs.length := (Option.some.inj hhi).symm
        subst this
        simp [Instr.sliceBounds, hB z l xs.length .sliceB hlo (by omega) (by omega)]
      | some y =>
        simp [Instr.sliceBounds, hB y h cp .sliceAcap hhi (by omega) (by omega), hB z l h.toNat .sliceB hlo (by omega) (by omega)]
  simp [execOp, Instr.sliceAt, run_underlying ht, hr.eval hx, Instr.slice, key, h2, subS]
theorem QV.sliceV {α : Type} {E : Enc α} {sv : SlV} {xs : List α} {x : Operand} {lo hi : Option Operand} {t e : TypeId} {ag : Bool} {l h : Int} (hrd : Rdg c L E sv.v xs) (ht : P.underlying t = some (.slice e)) (he : tk P e = some (ag, E.sz)) (hx : ev env x = some sv.v)
    (hlo : bndE env 0 lo = some l) (hhi : bndE env xs.length hi = some h) (hb : 0 ≤ l ∧ l ≤ h ∧ h ≤ xs.length) : QV P n c env L ⟨d, .slice t x lo hi none, ty, ps, af, g⟩ (SlV.sub E.sz sv l h).v := QV.slice hrd ht he hx hlo hhi hb
theorem Rdg.sub {α : Type} {E : Enc α} {sv : SlV} {xs : List α} {lo hi : Int} (hd : Rdg c L E sv.v xs) (h : 0 ≤ lo ∧ lo ≤ hi ∧ hi ≤ xs.length) : Rdg c L E (SlV.sub E.sz sv lo hi).v (subL xs lo hi) := fun w hs => rds_sub (hd w hs) h
theorem Drv.subV {α : Type} {b : Bool} {E : Enc α} {sv : SlV} {xs : List α} {lo hi : Int} (hd : Drv b L (Asr.vw E sv.v xs)) (h : 0 ≤ lo ∧ lo ≤ hi ∧ hi ≤ xs.length) : Drv b L (Asr.vw E (SlV.sub E.sz sv lo hi).v (subL xs lo hi)) := Drv.sub hd h
end
end Go.Eng
