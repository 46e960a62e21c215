/- Rules for memory: blocks of the call's own, slices that are read, slices that are owned. -/
import Derived.Test.YtgganckggdjpaaaEngVal
import Derived.Laws.MakeOwn
import Derived.Laws.Cells
import Derived.Deep.MidRow
namespace Go.Eng
open Go

theorem add_plain (b o k : Nat) : (⟨b, o, none⟩ : Addr).add k = ⟨b, o + k, none⟩ := by
  unfold Addr.add
  split
  · rename_i h; subst h; rfl
  · rfl
theorem add_add (a : Addr) (i k : Nat) : (a.add i).add k = a.add (i + k) := by
  unfold Addr.add
  by_cases h : i = 0
  · subst h; simp
  · by_cases h' : k = 0
    · subst h'; simp
    · simp [h, h', Nat.add_assoc]
theorem add_block (a : Addr) (i : Nat) : (a.add i).block = a.block := by unfold Addr.add; split <;> rfl

/-! ### Encodings -/
structure Enc (α : Type) where
  sz : Nat
  enc : α → List Value
  len : ∀ x, (enc x).length = sz
  one : ∀ x, ∀ v ∈ enc x, v.oneCell' = true
def Enc.int (k : IntKind) : Enc Int := ⟨1, fun x => [.int k x], fun _ => rfl, fun _ v h => by simp at h; subst h; rfl⟩
def Enc.bool : Enc Bool := ⟨1, fun x => [.bool x], fun _ => rfl, fun _ v h => by simp at h; subst h; rfl⟩
def Enc.str : Enc ByteArray := ⟨1, fun x => [.string x], fun _ => rfl, fun _ v h => by simp at h; subst h; rfl⟩
def Enc.pair {α β : Type} (A : Enc α) (B : Enc β) : Enc (α × β) := ⟨A.sz + B.sz, fun x => A.enc x.1 ++ B.enc x.2, fun x => by simp [A.len, B.len], fun x v h => by
  rcases List.mem_append.1 h with h | h
  · exact A.one _ _ h
  · exact B.one _ _ h⟩
/-- An array: so many elements. -/
structure Arr (α : Type) (n : Nat) where
  l : List α
  h : l.length = n
theorem flat_len {α : Type} (E : Enc α) : ∀ xs : List α, (xs.flatMap E.enc).length = xs.length * E.sz
  | [] => by simp
  | x :: xs => by simp [E.len, flat_len E xs, Nat.add_mul, Nat.add_comm]
theorem flat_one {α : Type} (E : Enc α) (xs : List α) : ∀ v ∈ xs.flatMap E.enc, v.oneCell' = true := by
  intro v h
  obtain ⟨x, _, h⟩ := List.mem_flatMap.1 h
  exact E.one x v h
def Enc.arr {α : Type} (n : Nat) (E : Enc α) : Enc (Arr α n) := ⟨n * E.sz, fun x => x.l.flatMap E.enc, fun x => by rw [flat_len, x.h], fun x => flat_one E x.l⟩
/-- Cell k of element j. -/
theorem flat_get {α : Type} (E : Enc α) : ∀ (xs : List α) (j k : Nat) (x : α), xs[j]? = some x → k < E.sz → (xs.flatMap E.enc)[j * E.sz + k]? = (E.enc x)[k]?
  | [], j, k, x, h, _ => by simp at h
  | y :: xs, 0, k, x, h, hk => by
    simp at h
    subst h
    simp only [List.flatMap_cons, Nat.zero_mul, Nat.zero_add]
    rw [List.getElem?_append_left (by rw [E.len]; exact hk)]
  | y :: xs, j + 1, k, x, h, hk => by
    simp only [List.getElem?_cons_succ] at h
    simp only [List.flatMap_cons]
    rw [List.getElem?_append_right (by rw [E.len, Nat.add_mul]; omega), E.len]
    have : (j + 1) * E.sz + k - E.sz = j * E.sz + k := by rw [Nat.add_mul]; omega
    rw [this]
    exact flat_get E xs j k x h hk
theorem flat_set {α : Type} (E : Enc α) : ∀ (xs : List α) (j : Nat) (x : α), j < xs.length → ((xs.set j x).flatMap E.enc) = (xs.flatMap E.enc).take (j * E.sz) ++ E.enc x ++ (xs.flatMap E.enc).drop (j * E.sz + E.sz)
  | [], j, x, h => by simp at h
  | y :: xs, 0, x, _ => by
    simp only [List.set_cons_zero, List.flatMap_cons, Nat.zero_mul, List.take_zero, List.nil_append, Nat.zero_add]
    rw [← E.len y, List.drop_left]
  | y :: xs, j + 1, x, h => by
    simp only [List.set_cons_succ, List.flatMap_cons]
    rw [flat_set E xs j x (by simpa using h)]
    have e1 : (j + 1) * E.sz = (E.enc y).length + j * E.sz := by rw [E.len, Nat.add_mul]; omega
    rw [e1, List.take_length_add_append, Nat.add_assoc, List.drop_length_add_append]
    simp

/-! ### A block of the call's own, in segments -/
structure Seg where
  cs : List Value
  sz : Nat
  h : cs.length = sz
def Seg.c (v : Value) : Seg := ⟨[v], 1, rfl⟩
def Seg.of {α : Type} (E : Enc α) (x : α) : Seg := ⟨E.enc x, E.sz, E.len x⟩
def flat : List Seg → List Value
  | [] => []
  | [s] => s.cs
  | s :: t :: r => s.cs ++ flat (t :: r)
def size : List Seg → Nat
  | [] => 0
  | s :: r => s.sz + size r
theorem flat_cons (s : Seg) (r : List Seg) : flat (s :: r) = s.cs ++ flat r := by
  cases r with
  | nil => simp [flat]
  | cons t r => rfl
theorem flat_append : ∀ (r s : List Seg), flat (r ++ s) = flat r ++ flat s
  | [], s => by simp [flat]
  | a :: r, s => by rw [List.cons_append, flat_cons, flat_cons, flat_append r s, List.append_assoc]
theorem flat_length : ∀ r : List Seg, (flat r).length = size r
  | [] => rfl
  | s :: r => by rw [flat_cons, List.length_append, s.h, flat_length r]; rfl
theorem size_append : ∀ r s : List Seg, size (r ++ s) = size r + size s
  | [], s => by simp [size]
  | a :: r, s => by simp [size, size_append r s, Nat.add_assoc]

def oneL : List Seg → Prop
  | [] => True
  | s :: r => (∀ u ∈ s.cs, u.oneCell' = true) ∧ oneL r
theorem one_flat : ∀ (M : List Seg), oneL M → ∀ u ∈ flat M, u.oneCell' = true
  | [], _, u, h => by simp [flat] at h
  | s :: r, hM, u, h => by
    rw [flat_cons] at h
    rcases List.mem_append.1 h with h | h
    · exact hM.1 u h
    · exact one_flat r hM.2 u h
theorem one_c {v : Value} (h : v.oneCell' = true) : ∀ u ∈ (Seg.c v).cs, u.oneCell' = true := fun u hu => by
  simp [Seg.c] at hu
  subst hu
  exact h
theorem one_of {α : Type} (E : Enc α) (x : α) : ∀ u ∈ (Seg.of E x).cs, u.oneCell' = true := E.one x

def Asr.blk (b : Nat) (T : TypeId) (ss : List Seg) : Asr where
  p w F _ := F b ∧ w.heap[b]? = some (.cells (flat ss).toArray T (0, 0))
  loc _ _ _ _ h hw := ⟨h.1, (hw b (.inl h.1)).trans h.2⟩
  mono _ _ _ _ h _ := h
theorem own_blk (b : Nat) (T : TypeId) (ss : List Seg) : (Asr.blk b T ss).own := fun _ _ _ h => h

section
variable {P : Program} {n : Fsz} {c : Ctx} {env : Env} {L : List Asr} {d : Option Tmp} {ty : TypeId} {ps : String} {af : Array Edge} {g : Option (Nat × Bool)}

/-- A type: does it lie in several cells, and in how many? -/
def tk (P : Program) (t : TypeId) : Option (Bool × Nat) :=
  match P.underlying t, P.info? t with
  | some d, some i => some ((match d with | .struct _ | .array _ _ => true | _ => false), i.size)
  | _, _ => none
theorem run_isAgg {w : World} {t : TypeId} {a : Bool} {s : Nat} (h : tk P t = some (a, s)) : (isAgg t).run P w = .ok a w ∧ (sizeOf t).run P w = .ok s w := by
  unfold tk at h
  split at h
  · rename_i d i hd hi
    simp only [Option.some.injEq, Prod.mk.injEq] at h
    obtain ⟨h1, h2⟩ := h
    constructor
    · unfold isAgg
      cases d <;> simp at h1 <;> subst h1 <;> simp [run_underlying hd]
    · simp [sizeOf, typeInfo, hi, h2]
  · cases h
theorem run_loadVar_cells {w : World} {t : TypeId} {s : Nat} (a : Addr) (cs : List Value) (h : tk P t = some (true, s)) (hl : cs.length = s) (hc : ∀ (j : Nat) (v : Value), cs[j]? = some v → w.cell? (a.add j) = some v) : (loadVar t a).run P w = .ok (.agg cs.toArray) w := by
  obtain ⟨h1, h2⟩ := run_isAgg (w := w) h
  subst hl
  simp [loadVar, h1, h2, run_loadCells_list w a cs hc]
theorem run_loadVar_one {w : World} {t : TypeId} {s : Nat} (a : Addr) (v : Value) (h : tk P t = some (false, s)) (hc : w.cell? a = some v) : (loadVar t a).run P w = .ok v w := by
  obtain ⟨h1, h2⟩ := run_isAgg (w := w) h
  simp [loadVar, h1, hc]

/-! ### The assertions under a change of the world -/
theorem Sat.frm {w : World} (h : Sat c L w) : Frm c w := by obtain ⟨F, G, _, hg⟩ := h; exact hg.frm
theorem Sat.get {w : World} {i : Nat} {A : Asr} (hi : L[i]? = some A) (h : Sat c L w) : ∃ F G, A.p w F G ∧ ∀ b, F b ∨ G b → b < w.heap.size := by
  obtain ⟨F, G, ⟨Fs, h1, h2, _⟩, hg⟩ := h
  have hl := (List.getElem?_eq_some_iff.1 hi).1
  exact ⟨Fs i, G, h1 i A hi, fun b hb => hg.dom b (hb.imp (h2 i b hl) id)⟩

theorem Sat.alloc {w : World} {A : Asr} (o : Obj) (h : Sat c L w) (hA : ∀ G, A.p (w.alloc o) (fun b => b = w.heap.size) G) : Sat c (A :: L) (w.alloc o) := by
  obtain ⟨F, G, hs, hg⟩ := h
  have hsz : (w.alloc o).heap.size = w.heap.size + 1 := by show (w.heap.push o).size = _; simp
  have hs' : Star L (w.alloc o) F G := hs.loc fun b hb => heap_alloc_old w o b (hg.dom b hb)
  have hA' : Star [A] (w.alloc o) (fun b => b = w.heap.size) G := ⟨fun _ b => b = w.heap.size, fun i B hi => by
    cases i with
    | zero => simp at hi; subst hi; exact hA G
    | succ i => simp at hi, fun _ _ _ h => h, fun i j b hi hj hne => by simp at hi hj; omega⟩
  refine ⟨fun b => b = w.heap.size ∨ F b, G, ?_, ?_⟩
  · have := hA'.append hs' (fun b h1 h2 => by have := hg.dom b (.inl h2); omega) (F := fun b => b = w.heap.size ∨ F b) (fun _ h => .inl h) (fun _ h => .inr h)
    simpa using this
  · refine ⟨⟨hg.frm.os, hg.frm.tape, hg.frm.output, by rw [hsz]; have := hg.frm.size; omega, fun b hb hn => ?_⟩, fun b h hG => ?_, fun b h => ?_, fun b h => ?_, hg.shr⟩
    · have := hg.frm.size
      rw [heap_alloc_old w o b (by omega)]
      exact hg.frm.block b hb hn
    · rcases h with h | h
      · have := hg.dom b (.inr hG); omega
      · exact hg.dis b h hG
    · rw [hsz]
      rcases h with (h | h) | h
      · omega
      · have := hg.dom b (.inl h); omega
      · have := hg.dom b (.inr h); omega
    · rcases h with h | h
      · have := hg.frm.size; right; omega
      · exact hg.own b h

/-- Entry i laid open, and put back as another one. -/
theorem Sat.zoom {w : World} {i : Nat} {A : Asr} (hi : L[i]? = some A) (h : Sat c L w) : ∃ F1 G, A.p w F1 G ∧ (∀ b, F1 b → b < w.heap.size) ∧ (∀ b, F1 b → ¬ G b) ∧
    ∀ (w' : World) (F1' : Fp) (A' : Asr), A'.p w' F1' G → (∀ b, b < w.heap.size → ¬ F1 b → w'.heap[b]? = w.heap[b]?) → (∀ b, F1' b → F1 b ∨ w.heap.size ≤ b) → (∀ b, F1' b → b < w'.heap.size) →
      w.heap.size ≤ w'.heap.size → w'.os = w.os → w'.tape = w.tape → w'.output = w.output → Sat c (L.set i A') w' := by
  obtain ⟨F, G, ⟨Fs, h1, h2, h3⟩, hg⟩ := h
  have hl := (List.getElem?_eq_some_iff.1 hi).1
  refine ⟨Fs i, G, h1 i A hi, fun b hb => hg.dom b (.inl (h2 i b hl hb)), fun b hb => hg.dis b (h2 i b hl hb), ?_⟩
  intro w' F1' A' hA' hfr hsub hdom hsz hos ht ho
  have hF1' : ∀ b, F1' b → c.F0 b ∨ c.w0.heap.size ≤ b := fun b hb => (hsub b hb).elim (fun h => hg.own b (h2 i b hl h)) (fun h => .inr (Nat.le_trans hg.frm.size h))
  refine ⟨fun b => F1' b ∨ (F b ∧ ¬ Fs i b), G, ⟨fun k => if k = i then F1' else Fs k, fun k B hk => ?_, fun k b hk hb => ?_, fun k j b hk hj hne hb hb' => ?_⟩, ?_⟩
  · by_cases e : k = i
    · subst e
      rw [List.getElem?_set_self hl] at hk
      obtain rfl := Option.some.inj hk
      simpa using hA'
    · rw [List.getElem?_set_ne (Ne.symm e)] at hk
      have hkl := (List.getElem?_eq_some_iff.1 hk).1
      simp only [e, if_false]
      refine B.loc _ _ _ _ (h1 k B hk) fun b hb => hfr b ?_ ?_
      · exact hg.dom b (hb.imp (h2 k b hkl) id)
      · intro hb'
        rcases hb with hb | hb
        · exact h3 k i b hkl hl e hb hb'
        · exact hg.dis b (h2 i b hl hb') hb
  · simp only [List.length_set] at hk
    by_cases e : k = i
    · subst e; simp only [if_true] at hb; exact .inl hb
    · simp only [e, if_false] at hb
      exact .inr ⟨h2 k b hk hb, fun hb' => h3 k i b hk hl e hb hb'⟩
  · simp only [List.length_set] at hk hj
    have old : ∀ k, k < L.length → k ≠ i → F1' b → Fs k b → False := fun k hk e hb hb' => by
      rcases hsub b hb with h | h
      · exact h3 k i b hk hl e hb' h
      · have := hg.dom b (.inl (h2 k b hk hb')); omega
    by_cases e : k = i <;> by_cases e' : j = i
    · omega
    · simp only [e, if_true] at hb; simp only [e', if_false] at hb'; exact old j hj e' hb hb'
    · simp only [e, if_false] at hb; simp only [e', if_true] at hb'; exact old k hk e hb' hb
    · simp only [e, if_false] at hb; simp only [e', if_false] at hb'; exact h3 k j b hk hj hne hb hb'
  · refine ⟨⟨hos.trans hg.frm.os, ht.trans hg.frm.tape, ho.trans hg.frm.output, Nat.le_trans hg.frm.size hsz, fun b hb hn => ?_⟩, fun b h hG => ?_, fun b h => ?_, fun b h => ?_, hg.shr⟩
    · have hs := hg.frm.size
      rw [hfr b (by omega) (fun h => (hg.own b (h2 i b hl h)).elim hn (by omega))]
      exact hg.frm.block b hb hn
    · rcases h with h | h
      · rcases hsub b h with h | h
        · exact hg.dis b (h2 i b hl h) hG
        · have := hg.dom b (.inr hG); omega
      · exact hg.dis b h.1 hG
    · rcases h with (h | h) | h
      · exact hdom b h
      · exact Nat.lt_of_lt_of_le (hg.dom b (.inl h.1)) hsz
      · exact Nat.lt_of_lt_of_le (hg.dom b (.inr h)) hsz
    · exact h.elim (hF1' b) (fun h => hg.own b h.1)

/-! ### Blocks -/
theorem flat_at {ss : List Seg} (j m o : Nat) (ho : size (ss.take j) = o) (k : Nat) (hk : k < (flat ((ss.drop j).take m)).length) : (flat ss)[o + k]? = (flat ((ss.drop j).take m))[k]? := by
  have e : ss = ss.take j ++ ((ss.drop j).take m ++ (ss.drop j).drop m) := by rw [List.take_append_drop, List.take_append_drop]
  conv => lhs; rw [e]
  rw [flat_append, flat_append, List.getElem?_append_right (by rw [flat_length, ho]; omega), flat_length, ho]
  have : o + k - o = k := by omega
  rw [this, List.getElem?_append_left hk]
theorem blk_cell {w : World} {b : Nat} {T : TypeId} {ss : List Seg} (h : w.heap[b]? = some (.cells (flat ss).toArray T (0, 0))) (j m o : Nat) (ho : size (ss.take j) = o) {cs : List Value} (hcs : flat ((ss.drop j).take m) = cs) (k : Nat) (v : Value) (hv : cs[k]? = some v) : w.cell? ((⟨b, o, none⟩ : Addr).add k) = some v := by
  rw [add_plain]
  have hk : k < cs.length := (List.getElem?_eq_some_iff.1 hv).1
  simp only [World.cell?, h, Option.isSome_none, Bool.false_eq_true, if_false]
  have := flat_at j m o ho k (by rw [hcs]; exact hk)
  rw [hcs, hv] at this
  simpa using this

def fieldOff (P : Program) (S i : Nat) : Option Nat :=
  match P.underlying S with
  | some (.struct fs) => match fs[i]? with
    | some f => match P.info? f.type with
      | some ti => if ti.size = 0 then none else some f.offset
      | none => none
    | none => none
  | _ => none
theorem run_fieldAt {w : World} {S i off : Nat} {a : Addr} (h : fieldOff P S i = some off) : (Instr.fieldAt S (.pointer (some a)) i).run P w = .ok (.pointer (some (a.add off))) w := by
  unfold fieldOff at h
  split at h
  · rename_i fs hu
    split at h
    · rename_i f hf
      split at h
      · rename_i ti hti
        split at h
        · cases h
        · rename_i h0
          obtain rfl := Option.some.inj h
          simp [Instr.fieldAt, run_underlying hu, hf, Instr.sureAddr, fieldPlace, sizeOf, typeInfo, hti, h0]
      · cases h
    · cases h
  · cases h
theorem QV.fieldA {S i off : Nat} {x : Operand} {a : Addr} (h : fieldOff P S i = some off) (hx : ev env x = some (.pointer (some a))) : QV P n c env L ⟨d, .fieldAddr S x i, ty, ps, af, g⟩ (.pointer (some (a.add off))) := fun _ _ hr _ => by
  simp [execOp, hr.eval hx, run_fieldAt h]
theorem QV.fieldB {S i off b o o' : Nat} {x : Operand} (h : fieldOff P S i = some off) (hx : ev env x = some (.pointer (some ⟨b, o, none⟩))) (ho : o + off = o') : QV P n c env L ⟨d, .fieldAddr S x i, ty, ps, af, g⟩ (.pointer (some ⟨b, o', none⟩)) := by
  subst ho
  have := QV.fieldA (P := P) (n := n) (c := c) (L := L) (d := d) (ty := ty) (ps := ps) (af := af) (g := g) h hx
  rwa [add_plain] at this

theorem run_loadOp {ρ : Operand → Value} {w : World} {t : TypeId} {x : Operand} {a : Addr} {v : Value} (hx : ρ x = .pointer (some a)) (h : (loadVar t a).run P w = .ok v w) : (execOp ρ ⟨d, .load t x, ty, ps, af, g⟩).run P w = .ok (.value v) w := by
  simp [execOp, hx, Instr.loadAt, Instr.sureAddr, h]
/-- A load out of a block: one cell. -/
theorem QV.load1 {t : TypeId} {s : Nat} {x : Operand} {b o : Nat} {T : TypeId} {ss : List Seg} {v : Value} (i j : Nat) (hi : L[i]? = some (Asr.blk b T ss)) (ht : tk P t = some (false, s)) (hx : ev env x = some (.pointer (some ⟨b, o, none⟩))) (ho : size (ss.take j) = o)
    (hv : flat ((ss.drop j).take 1) = [v]) : QV P n c env L ⟨d, .load t x, ty, ps, af, g⟩ v := fun a w hr hs => by
  obtain ⟨F, G, hp, _⟩ := hs.get hi
  have := blk_cell hp.2 j 1 o ho hv 0 v rfl
  exact run_loadOp (hr.eval hx) (run_loadVar_one _ v ht (by simpa [Addr.add] using this))
/-- A load out of a block: a struct, an array. -/
theorem QV.loadN {t : TypeId} {s : Nat} {x : Operand} {b o : Nat} {T : TypeId} {ss : List Seg} {cs : List Value} (i j m : Nat) (hi : L[i]? = some (Asr.blk b T ss)) (ht : tk P t = some (true, s)) (hx : ev env x = some (.pointer (some ⟨b, o, none⟩))) (ho : size (ss.take j) = o)
    (hv : flat ((ss.drop j).take m) = cs) (hsz : size ((ss.drop j).take m) = s) : QV P n c env L ⟨d, .load t x, ty, ps, af, g⟩ (.agg cs.toArray) := fun a w hr hs => by
  obtain ⟨F, G, hp, _⟩ := hs.get hi
  exact run_loadOp (hr.eval hx) (run_loadVar_cells _ cs ht (by rw [← hv, flat_length, hsz]) fun k v hk => blk_cell hp.2 j m o ho hv k v hk)

/-- A new block: a boxed variable. -/
theorem MV.box {e : TypeId} {x : Operand} {v : Value} (ss : List Seg) (hx : ev env x = some v) (hv : ∀ w, Sat c L w → v.cells.toList = flat ss) : MV P n c env L ⟨d, .box e x, ty, ps, af, g⟩ (fun u L' => ∃ b, u = .pointer (some ⟨b, 0, none⟩) ∧ L' = Asr.blk b e ss :: L) := fun a w hr hs => by
  have : (execOp a.eval ⟨d, .box e x, ty, ps, af, g⟩).run P w = .ok (.value (.pointer (some ⟨w.heap.size, 0, none⟩))) (w.alloc (.cells v.cells e)) := by
    simp [execOp, hr.eval hx, Instr.box, newVar, newRow]
  rw [this]
  refine ⟨_, ⟨w.heap.size, rfl, rfl⟩, hs.alloc _ fun G => ⟨rfl, ?_⟩⟩
  rw [← hv w hs]
  simpa using heap_alloc_new w _
theorem MV.alloc {e : TypeId} {v : Value} (ss : List Seg) (hz : (P.info? e).map (·.zero) = some (some v)) (hv : v.cells.toList = flat ss) : MV P n c env L ⟨d, .alloc e, ty, ps, af, g⟩ (fun u L' => ∃ b, u = .pointer (some ⟨b, 0, none⟩) ∧ L' = Asr.blk b e ss :: L) := fun a w hr hs => by
  obtain ⟨ti, hti, hzz⟩ := Option.map_eq_some_iff.1 hz
  have : (execOp a.eval ⟨d, .alloc e, ty, ps, af, g⟩).run P w = .ok (.value (.pointer (some ⟨w.heap.size, 0, none⟩))) (w.alloc (.cells v.cells e)) := by
    simp [execOp, Instr.alloc, zeroValue, typeInfo, hti, hzz, newVar, newRow]
  rw [this]
  refine ⟨_, ⟨w.heap.size, rfl, rfl⟩, hs.alloc _ fun G => ⟨rfl, ?_⟩⟩
  rw [← hv]
  simpa using heap_alloc_new w _

theorem run_storeVar_at {w : World} {t : TypeId} {a : Bool} {b o : Nat} {T : TypeId} {cur : List Value} {v : Value} (ht : tk P t = some (a, v.cells.toList.length)) (h : w.heap[b]? = some (.cells cur.toArray T (0, 0))) (hl : o + v.cells.toList.length ≤ cur.length) (h1 : ∀ u ∈ v.cells.toList, u.oneCell' = true) :
    (storeVar t ⟨b, o, none⟩ v).run P w = .ok () (w.setRow b (cur.take o ++ v.cells.toList ++ cur.drop (o + v.cells.toList.length)).toArray) := by
  obtain ⟨_, h2⟩ := run_isAgg (w := w) ht
  have h3 := run_storeCells_at P b o T v.cells.toList 0 cur.toArray w h (by simpa using hl) h1
  simp only [Nat.add_zero] at h3
  unfold storeVar
  simp [h2]
  simpa using h3
theorem flat_splice {ss M : List Seg} (j m : Nat) (hsz : size ((ss.drop j).take m) = size M) : flat (ss.take j ++ (M ++ ss.drop (j + m))) = (flat ss).take (size (ss.take j)) ++ flat M ++ (flat ss).drop (size (ss.take j) + size M) := by
  have e : flat ss = flat (ss.take j) ++ (flat ((ss.drop j).take m) ++ flat (ss.drop (j + m))) := by
    rw [← flat_append, ← flat_append]
    congr 1
    rw [← List.drop_drop, List.take_append_drop, List.take_append_drop]
  rw [flat_append, flat_append, e]
  rw [List.take_left' (flat_length _), ← flat_length (ss.take j), List.drop_length_add_append, ← hsz, ← flat_length ((ss.drop j).take m), List.drop_left]
  simp
/-- A store into a block: segments j to j + m become M. -/
theorem MV.store {t : TypeId} {a : Bool} {x y : Operand} {b o : Nat} {T : TypeId} {ss : List Seg} {v : Value} (i j m : Nat) (M : List Seg) (hi : L[i]? = some (Asr.blk b T ss)) (ht : tk P t = some (a, size M)) (hx : ev env x = some (.pointer (some ⟨b, o, none⟩))) (hy : ev env y = some v) (ho : size (ss.take j) = o)
    (hsz : size ((ss.drop j).take m) = size M) (h0 : ∀ w, Sat c L w → v.cells.toList = flat M ∧ oneL M) :
    MV P n c env L ⟨none, .store t x y, ty, ps, af, g⟩ (fun u L' => u = undef ∧ L' = L.set i (Asr.blk b T (ss.take j ++ (M ++ ss.drop (j + m))))) := fun ac w hr hs => by
  have hv := (h0 w hs).1
  have h1 := one_flat M (h0 w hs).2
  obtain ⟨F1, G, hp, hdom, _, hput⟩ := hs.zoom hi
  have hlen : v.cells.toList.length = size M := by rw [hv, flat_length]
  have hcur : o + v.cells.toList.length ≤ (flat ss).length := by
    rw [hlen, flat_length, ← ho, ← hsz]
    have e : size ss = size (ss.take j) + (size ((ss.drop j).take m) + size ((ss.drop j).drop m)) := by rw [← size_append, ← size_append, List.take_append_drop, List.take_append_drop]
    omega
  have hrun := run_storeVar_at (P := P) (t := t) (a := a) (o := o) (by rw [hlen]; exact ht) hp.2 hcur (by rw [hv]; exact h1)
  have : (execOp ac.eval ⟨none, .store t x y, ty, ps, af, g⟩).run P w = .ok .skip (w.setRow b ((flat ss).take o ++ v.cells.toList ++ (flat ss).drop (o + v.cells.toList.length)).toArray) := by
    simp only [execOp, hr.eval hx, hr.eval hy, Instr.storeAt, Instr.sureAddr]
    simp [hrun]
  rw [this]
  refine ⟨_, ⟨rfl, rfl⟩, hput _ F1 _ ⟨hp.1, ?_⟩ (fun k hk hn => setRow_other w b k _ (fun e => hn (e ▸ hp.1))) (fun b hb => .inl hb) (fun k hk => by simpa [World.setRow] using hdom k hk) (by simp [World.setRow]) rfl rfl rfl⟩
  rw [setRow_heap w b _ _ T (0, 0) hp.2, flat_splice j m hsz, ← ho, hlen, hv]
end
end Go.Eng
