/- What the printed texts use besides: inversions, arrays, literals. -/
import Derived.Test.YtgganckggdjpaaaEngSl
import Derived.Laws.BytesArg
import Derived.Laws.BytesString
import Derived.Laws.Tables
namespace Go.Eng
open Go

theorem guard_inv {α : Type} {p : Prop} [Decidable p] {m : Option α} {r : α} (h : (if p then m else none) = some r) : p ∧ m = some r := by
  split at h
  · rename_i hp; exact ⟨hp, h⟩
  · cases h
theorem ite_inv {α : Type} {p : Prop} [Decidable p] {m m' : Option α} {r : α} (h : (if p then m else m') = some r) : (p ∧ m = some r) ∨ (¬ p ∧ m' = some r) := by
  split at h
  · rename_i hp; exact .inl ⟨hp, h⟩
  · rename_i hp; exact .inr ⟨hp, h⟩
theorem bind_inv {α β : Type} {m : Option α} {k : α → Option β} {r : β} (h : m.bind k = some r) : ∃ y, m = some y ∧ k y = some r := by
  cases m with
  | none => cases h
  | some y => exact ⟨y, rfl, h⟩

theorem bfalse {b : Bool} (h : ¬ b = true) : b = false := by simpa using h
instance {α : Type} [Inhabited α] {n : Nat} : Inhabited (Arr α n) := ⟨⟨List.replicate n default, by simp⟩⟩
def Arr.rep {α : Type} (n : Nat) (x : α) : Arr α n := ⟨List.replicate n x, by simp⟩
def Arr.set {α : Type} {n : Nat} (a : Arr α n) (i : Int) (x : α) : Arr α n := ⟨a.l.set i.toNat x, by simp [a.h]⟩
section
variable {P : Program} {n : Fsz} {c : Ctx} {env : Env} {L : List Asr} {d : Option Tmp} {ty : TypeId} {ps : String} {af : Array Edge} {g : Option (Nat × Bool)}

theorem JC.condT {K : Kn} {x : Operand} {t e : Code} (hb : ev env x = some (.bool true)) (h : JC P n c env L t K) : JC P n c env L (.cond x t e) K := JC.cond true hb (fun _ => h) (fun h => by cases h)
theorem JC.condF {K : Kn} {x : Operand} {t e : Code} (hb : ev env x = some (.bool false)) (h : JC P n c env L e K) : JC P n c env L (.cond x t e) K := JC.cond false hb (fun h => by cases h) (fun _ => h)
theorem JC.condT' {K : Kn} {x : Operand} {t e : Code} {b : Bool} (hb : ev env x = some (.bool b)) (h1 : b = true) (h : JC P n c env L t K) : JC P n c env L (.cond x t e) K := by subst h1; exact JC.condT hb h
theorem JC.condF' {K : Kn} {x : Operand} {t e : Code} {b : Bool} (hb : ev env x = some (.bool b)) (h1 : b = false) (h : JC P n c env L e K) : JC P n c env L (.cond x t e) K := by subst h1; exact JC.condF hb h

theorem MV.ofQV {o : Oper} {v : Value} (h : QV P n c env L o v) : MV P n c env L o (fun u L' => u = v ∧ L' = L) := fun a w hr hs => by
  rw [h a w hr hs]
  exact ⟨L, ⟨rfl, rfl⟩, hs⟩

theorem rd_cells {α : Type} {w : World} {E : Enc α} {sv : Value} {xs : List α} (h : RdS w E sv xs) : ∃ A m cp, sv = .slice A m cp ∧ m = xs.length ∧ (A = none → m = 0 ∧ cp = 0) ∧ ∀ ad, A = some ad → ∀ (k : Nat) (v : Value), (xs.flatMap E.enc)[k]? = some v → w.cell? (ad.add k) = some v := by
  obtain ⟨A, m, cp, h1, h2, _, _, h3, h4⟩ := h
  exact ⟨A, m, cp, h1, h2, h3, h4⟩
theorem enc_bytes (xs : List Int) : xs.flatMap (Enc.int .u8).enc = xs.map (Value.int .u8) := by
  induction xs with
  | nil => rfl
  | cons x xs ih => rw [List.flatMap_cons, ih]; rfl
/-- string(b) -/
theorem QV.str {x : Operand} {src dst e : TypeId} {sv : Value} {xs : List Int} (hrd : Rdg c L (Enc.int .u8) sv xs) (hs : P.underlying src = some (.slice e)) (he : P.underlying e = some (.int .u8)) (hd : P.underlying dst = some .string) (hx : ev env x = some sv) :
    QV P n c env L ⟨d, .convert src dst x, ty, ps, af, g⟩ (.string (strOfNums xs)) := fun a w hr hst => by
  obtain ⟨A, m, cp, rfl, hm, hA, hc⟩ := rd_cells (hrd w hst)
  have key : (convert src dst (.slice A m cp)).run P w = .ok (.string (strOfNums xs)) w := by
    cases A with
    | none =>
      have : xs = [] := List.eq_nil_of_length_eq_zero (by have := (hA rfl).1; omega)
      subst this
      exact run_convert_bytes_nil w src e hs he m cp dst hd
    | some ad =>
      have hl : (loadCells ad m).run P w = .ok (xs.map (Value.int .u8)).toArray w := by
        have := run_loadCells_list (P := P) w ad (xs.map (Value.int .u8)) (fun j v hj => hc ad rfl j v (by rw [enc_bytes]; exact hj))
        rwa [List.length_map, ← hm] at this
      rw [run_convert_bytes_string w src dst e (some ad) m cp hs he hd, run_bytesToString w ad m cp xs hl, foldl_push_bytes]
      simp [strOfNums, ByteArray.empty, ByteArray.emptyWithCapacity]
      rfl
  simp [execOp, hr.eval hx, key]

/-! ### Arrays in blocks -/
theorem QV.indexB {x y : Operand} {t e : TypeId} {ag : Bool} {m sz b o : Nat} {k : IntKind} {i : Int} (ht : P.underlying t = some (.array m e)) (he : tk P e = some (ag, sz)) (hx : ev env x = some (.pointer (some ⟨b, o, none⟩))) (hy : ev env y = some (.int k i)) (h : 0 ≤ i ∧ i < m) :
    QV P n c env L ⟨d, .indexAddr t x y, ty, ps, af, g⟩ (.pointer (some ⟨b, o + i.toNat * sz, none⟩)) := fun a w hr _ => by
  obtain ⟨_, h2⟩ := run_isAgg (w := w) he
  simp [execOp, Instr.indexAt, hr.eval hx, hr.eval hy, asIntOf, run_underlying ht, Instr.sureAddr, h2, h.1, h.2, add_plain]
theorem arr_cell {α : Type} [Inhabited α] {w : World} {b : Nat} {T : TypeId} {ss : List Seg} {E : Enc α} {m : Nat} {xs : Arr α m} {i : Int} (hb : w.heap[b]? = some (.cells (flat ss).toArray T (0, 0))) (j o : Nat) (ho : size (ss.take j) = o) (hj : (ss.drop j).take 1 = [Seg.of (Enc.arr m E) xs]) (h : 0 ≤ i ∧ i < m) (k : Nat) (v : Value) (hv : (E.enc (gd xs.l i))[k]? = some v) :
    w.cell? ⟨b, o + i.toNat * E.sz + k, none⟩ = some v := by
  have h1 := blk_cell hb j 1 o ho (cs := xs.l.flatMap E.enc) (by rw [hj]; rfl) (i.toNat * E.sz + k) v (by
    rw [flat_get E xs.l i.toNat k _ (gd_get (by rw [xs.h]; exact h)) (by have := (List.getElem?_eq_some_iff.1 hv).1; rwa [E.len] at this)]
    exact hv)
  rwa [add_plain, ← Nat.add_assoc] at h1
theorem QV.ar1 {α : Type} [Inhabited α] {x : Operand} {t : TypeId} {s b o : Nat} {T : TypeId} {ss : List Seg} {E : Enc α} {m sz : Nat} {xs : Arr α m} {i : Int} {v : Value} (ix j : Nat) (hi : L[ix]? = some (Asr.blk b T ss)) (ht : tk P t = some (false, s)) (hx : ev env x = some (.pointer (some ⟨b, o + i.toNat * sz, none⟩))) (hsz : E.sz = sz) (ho : size (ss.take j) = o) (hj : (ss.drop j).take 1 = [Seg.of (Enc.arr m E) xs])
    (h : 0 ≤ i ∧ i < m) (hv : E.enc (gd xs.l i) = [v]) : QV P n c env L ⟨d, .load t x, ty, ps, af, g⟩ v := fun a w hr hs => by
  obtain ⟨F, G, hp, _⟩ := hs.get hi
  subst hsz
  exact run_loadOp (hr.eval hx) (run_loadVar_one _ v ht (by simpa using arr_cell hp.2 j o ho hj h 0 v (by rw [hv]; rfl)))
/-- A store of an element of an array in a block. -/
theorem MV.storeAr {α : Type} {x y : Operand} {t : TypeId} {ag : Bool} {b o : Nat} {T : TypeId} {ss : List Seg} {E : Enc α} {m sz : Nat} {xs : Arr α m} {i : Int} {v : Value} (ix j : Nat) (x' : α) (hi : L[ix]? = some (Asr.blk b T ss)) (ht : tk P t = some (ag, E.sz)) (hx : ev env x = some (.pointer (some ⟨b, o + i.toNat * sz, none⟩))) (hy : ev env y = some v) (hsz : E.sz = sz) (ho : size (ss.take j) = o)
    (h : 0 ≤ i ∧ i < m) (hv : v.cells.toList = E.enc x') (hj : (ss.drop j).take 1 = [Seg.of (Enc.arr m E) xs]) :
    MV P n c env L ⟨none, .store t x y, ty, ps, af, g⟩ (fun u L' => u = undef ∧ L' = L.set ix (Asr.blk b T (ss.take j ++ ([Seg.of (Enc.arr m E) (xs.set i x')] ++ ss.drop (j + 1))))) := fun ac w hr hs => by
  obtain ⟨F1, G, hp, hdom, _, hput⟩ := hs.zoom hi
  subst hsz
  have hvl : v.cells.toList.length = E.sz := by rw [hv, E.len]
  have hk : i.toNat < xs.l.length := by rw [xs.h]; omega
  have hmul : i.toNat * E.sz + E.sz ≤ m * E.sz := by
    have := Nat.mul_le_mul_right E.sz (show i.toNat + 1 ≤ m by omega)
    rwa [Nat.add_mul, Nat.one_mul] at this
  have hXl : (xs.l.flatMap E.enc).length = m * E.sz := by rw [flat_len, xs.h]
  have e : flat ss = flat (ss.take j) ++ (xs.l.flatMap E.enc ++ flat (ss.drop (j + 1))) := by
    have e1 : flat ss = flat (ss.take j) ++ (flat ((ss.drop j).take 1) ++ flat (ss.drop (j + 1))) := by
      rw [← flat_append, ← flat_append]
      congr 1
      rw [← List.drop_drop, List.take_append_drop, List.take_append_drop]
    rw [e1, hj]; rfl
  have hA : (flat (ss.take j)).length = o := by rw [flat_length, ho]
  have hcur : o + i.toNat * E.sz + v.cells.toList.length ≤ (flat ss).length := by
    rw [hvl, e, List.length_append, List.length_append, hA, hXl]; omega
  have hrun := run_storeVar_at (P := P) (t := t) (a := ag) (o := o + i.toNat * E.sz) (by rw [hvl]; exact ht) hp.2 hcur (by rw [hv]; exact E.one x')
  have : (execOp ac.eval ⟨none, .store t x y, ty, ps, af, g⟩).run P w = .ok .skip (w.setRow b ((flat ss).take (o + i.toNat * E.sz) ++ v.cells.toList ++ (flat ss).drop (o + i.toNat * E.sz + v.cells.toList.length)).toArray) := by
    simp only [execOp, hr.eval hx, hr.eval hy, Instr.storeAt, Instr.sureAddr]
    simp [hrun]
  rw [this]
  refine ⟨_, ⟨rfl, rfl⟩, hput _ F1 _ ⟨hp.1, ?_⟩ (fun k hk hn => setRow_other w b k _ (fun e => hn (e ▸ hp.1))) (fun b hb => .inl hb) (fun k hk => by simpa [World.setRow] using hdom k hk) (by simp [World.setRow]) rfl rfl rfl⟩
  rw [setRow_heap w b _ _ T (0, 0) hp.2, flat_append, flat_append]
  congr 3
  have h1 : (flat ss).take (o + i.toNat * E.sz) = flat (ss.take j) ++ (xs.l.flatMap E.enc).take (i.toNat * E.sz) := by
    rw [e, ← hA, List.take_length_add_append, List.take_append_of_le_length (by rw [hXl]; omega)]
  have h2 : (flat ss).drop (o + i.toNat * E.sz + v.cells.toList.length) = (xs.l.flatMap E.enc).drop (i.toNat * E.sz + E.sz) ++ flat (ss.drop (j + 1)) := by
    rw [e, hvl, Nat.add_assoc, ← hA, List.drop_length_add_append, List.drop_append_of_le_length (by rw [hXl]; omega)]
  have h3 : flat [Seg.of (Enc.arr m E) (xs.set i x')] = (xs.l.set i.toNat x').flatMap E.enc := rfl
  rw [h1, h2, h3, flat_set E xs.l i.toNat x' hk, hv]
  simp
/-- x[i] of an array's value. -/
theorem QV.indexV {α : Type} [Inhabited α] {x y : Operand} {t e : TypeId} {s m : Nat} {E : Enc α} {xs : Arr α m} {k : IntKind} {i : Int} {v : Value} (ht : P.underlying t = some (.array m e)) (he : tk P e = some (false, s)) (hx : ev env x = some (.agg ((Enc.arr m E).enc xs).toArray)) (hy : ev env y = some (.int k i)) (hs : s = E.sz)
    (h : 0 ≤ i ∧ i < m) (hv : E.enc (gd xs.l i) = [v]) : QV P n c env L ⟨d, .index t x y, ty, ps, af, g⟩ v := fun a w hr _ => by
  obtain ⟨h1, h2⟩ := run_isAgg (w := w) he
  have hc : ((Enc.arr m E).enc xs)[i.toNat * E.sz]? = some v := by
    show (xs.l.flatMap E.enc)[i.toNat * E.sz]? = some v
    have h3 := flat_get E xs.l i.toNat 0 _ (gd_get (by rw [xs.h]; exact h)) (by have := E.len (gd xs.l i); rw [hv] at this; simp at this; omega)
    rw [Nat.add_zero] at h3
    rw [h3, hv]; rfl
  subst hs
  simp [execOp, Instr.index, hr.eval hx, hr.eval hy, asIntOf, run_underlying ht, h.1, h.2, part, h1, h2, hc]
theorem QV.build {t : TypeId} {parts : List (Nat × Operand)} {vals : List (Nat × Value)} {cells : Array Value} (hv : evp env parts = some vals) (hb : P.built t vals = some cells) : QV P n c env L ⟨d, .build t parts.toArray, ty, ps, af, g⟩ (.agg cells) := fun a w hr _ => by
  have h1 := hr.evalp hv
  have hrun := run_build (P := P) w t vals.toArray cells hb
  simp only [execOp, List.map_toArray]
  rw [show (parts.map fun x => match x with | (i, x) => (i, a.eval x)) = vals from h1]
  simp [hrun]
end
end Go.Eng
