/- Slices whose elements are slices, or have slices as fields: the outer one's cells are ghosts z beside data x. And arrays in blocks, read as slices. -/
import Derived.Test.YtgganckggdjpaaaEngGen
import Derived.Lib.AppendZeros
set_option linter.unusedVariables false
namespace Go.Eng
open Go

/-- What an element is: its cells out of ghost and data, and what of its parts is read. -/
structure NE (Z X : Type) where
  E : Enc (Z × X)
  ok : World → Fp → Z → X → Prop
  loc : ∀ w w' G z x, ok w G z x → (∀ b, G b → w'.heap[b]? = w.heap[b]?) → ok w' G z x
  mono : ∀ w (G G' : Fp) z x, ok w G z x → (∀ b, G b → G' b) → ok w G' z x
def NE.flat {α : Type} (E : Enc α) : NE Unit α where
  E := ⟨E.sz, fun p => E.enc p.2, fun p => E.len p.2, fun p => E.one p.2⟩
  ok _ _ _ _ := True
  loc _ _ _ _ _ _ _ := trivial
  mono _ _ _ _ _ _ _ := trivial
theorem one_slv (s : SlV) : ∀ v ∈ [s.v], v.oneCell' = true := fun v h => by simp at h; subst h; rfl
def NE.sl {α : Type} (E : Enc α) : NE SlV (List α) where
  E := ⟨1, fun p => [p.1.v], fun _ => rfl, fun p => one_slv p.1⟩
  ok w G z x := (Asr.vw E z.v x).p w noFp G
  loc w w' G z x h hw := (Asr.vw E z.v x).loc _ _ _ _ h (fun b hb => hw b (hb.resolve_left id))
  mono w G G' z x h hG := (Asr.vw E z.v x).mono _ _ _ _ h hG
def NE.pair {Z1 Z2 X1 X2 : Type} (A : NE Z1 X1) (B : NE Z2 X2) : NE (Z1 × Z2) (X1 × X2) where
  E := ⟨A.E.sz + B.E.sz, fun p => A.E.enc (p.1.1, p.2.1) ++ B.E.enc (p.1.2, p.2.2), fun p => by simp [A.E.len, B.E.len], fun p v h => by
    rcases List.mem_append.1 h with h | h
    · exact A.E.one _ v h
    · exact B.E.one _ v h⟩
  ok w G z x := A.ok w G z.1 x.1 ∧ B.ok w G z.2 x.2
  loc w w' G z x h hw := ⟨A.loc _ _ _ _ _ h.1 hw, B.loc _ _ _ _ _ h.2 hw⟩
  mono w G G' z x h hG := ⟨A.mono _ _ _ _ _ h.1 hG, B.mono _ _ _ _ _ h.2 hG⟩

def okL {Z X : Type} (K : NE Z X) (w : World) (G : Fp) (zs : List Z) (xs : List X) : Prop := ∀ (j : Nat) (z : Z) (x : X), zs[j]? = some z → xs[j]? = some x → K.ok w G z x
/-- A nested slice that is read. -/
def Asr.vn {Z X : Type} (K : NE Z X) (sv : Value) (zs : List Z) (xs : List X) : Asr where
  p w _ G := zs.length = xs.length ∧ (Asr.vw K.E sv (zs.zip xs)).p w noFp G ∧ okL K w G zs xs
  loc w w' F G h hw := ⟨h.1, (Asr.vw K.E sv (zs.zip xs)).loc _ _ _ _ h.2.1 (fun b hb => hw b (.inr (hb.resolve_left id))), fun j z x hz hx => K.loc _ _ _ _ _ (h.2.2 j z x hz hx) (fun b hb => hw b (.inr hb))⟩
  mono w F G G' h hG := ⟨h.1, (Asr.vw K.E sv (zs.zip xs)).mono _ _ _ _ h.2.1 hG, fun j z x hz hx => K.mono _ _ _ _ _ (h.2.2 j z x hz hx) hG⟩
def NE.nest {Z X : Type} (K : NE Z X) : NE (SlV × List Z) (List X) where
  E := ⟨1, fun p => [p.1.1.v], fun _ => rfl, fun p => one_slv p.1.1⟩
  ok w G z x := (Asr.vn K z.1.v z.2 x).p w noFp G
  loc w w' G z x h hw := (Asr.vn K z.1.v z.2 x).loc _ _ _ _ h (fun b hb => hw b (hb.resolve_left id))
  mono w G G' z x h hG := (Asr.vn K z.1.v z.2 x).mono _ _ _ _ h hG
/-- A nested slice that is owned; what its elements lead to is owned with it, or (g) shared. -/
def Asr.on {Z X : Type} (g : Bool) (e : TypeId) (K : NE Z X) (sv : Value) (zs : List Z) (xs : List X) : Asr where
  p w F G := zs.length = xs.length ∧ (Asr.of e K.E sv (zs.zip xs)).p w F G ∧ okL K w (fun b => F b ∨ (g = true ∧ G b)) zs xs
  loc w w' F G h hw := ⟨h.1, (Asr.of e K.E sv (zs.zip xs)).loc _ _ _ _ h.2.1 hw, fun j z x hz hx => K.loc _ _ _ _ _ (h.2.2 j z x hz hx) (fun b hb => hw b (hb.imp id And.right))⟩
  mono w F G G' h hG := ⟨h.1, h.2.1, fun j z x hz hx => K.mono _ _ _ _ _ (h.2.2 j z x hz hx) (fun b hb => hb.imp id (fun h => ⟨h.1, hG b h.2⟩))⟩
theorem own_on {Z X : Type} (e : TypeId) (K : NE Z X) (sv : Value) (zs : List Z) (xs : List X) : (Asr.on false e K sv zs xs).own := fun _ _ _ h =>
  ⟨h.1, h.2.1, fun j z x hz hx => K.mono _ _ _ _ _ (h.2.2 j z x hz hx) (fun b hb => hb.imp id (fun h => by cases h.1))⟩

section
variable {P : Program} {n : Fsz} {c : Ctx} {env : Env} {L : List Asr} {d : Option Tmp} {ty : TypeId} {ps : String} {af : Array Edge} {g : Option (Nat × Bool)}
variable {Z X : Type}

def RdN (c : Ctx) (L : List Asr) (K : NE Z X) (sv : Value) (zs : List Z) (xs : List X) : Prop := ∀ w, Sat c L w → zs.length = xs.length ∧ RdS w K.E sv (zs.zip xs) ∧ ∃ G, okL K w G zs xs
theorem RdN.vn {K : NE Z X} {sv : Value} {zs : List Z} {xs : List X} (i : Nat) (hi : L[i]? = some (Asr.vn K sv zs xs)) : RdN c L K sv zs xs := fun w hs => by
  obtain ⟨F, G, hp, _⟩ := hs.get hi
  exact ⟨hp.1, hp.2.1.1, G, hp.2.2⟩
theorem RdN.on {b : Bool} {e : TypeId} {K : NE Z X} {sv : Value} {zs : List Z} {xs : List X} (i : Nat) (hi : L[i]? = some (Asr.on b e K sv zs xs)) : RdN c L K sv zs xs := fun w hs => by
  obtain ⟨F, G, hp, _⟩ := hs.get hi
  exact ⟨hp.1, rds_of hp.2.1.1, _, hp.2.2⟩
theorem RdN.rdg {K : NE Z X} {sv : Value} {zs : List Z} {xs : List X} (h : RdN c L K sv zs xs) : Rdg c L K.E sv (zs.zip xs) := fun w hs => (h w hs).2.1
theorem zip_len {zs : List Z} {xs : List X} (h : zs.length = xs.length) : (zs.zip xs).length = xs.length := by simp [h]
theorem gd_zip [Inhabited Z] [Inhabited X] {zs : List Z} {xs : List X} {j : Int} (h : zs.length = xs.length) (hj : 0 ≤ j ∧ j < xs.length) : gd (zs.zip xs) j = (gd zs j, gd xs j) := by
  have h1 := gd_get hj
  have h2 := gd_get (xs := zs) (i := j) (by omega)
  unfold gd
  rw [List.getD_eq_getElem?_getD, List.getElem?_zip_eq_some (z := (gd zs j, gd xs j)) |>.2 ⟨h2, h1⟩]
  rfl
theorem QV.lenN {K : NE Z X} {sv : Value} {zs : List Z} {xs : List X} {x : Operand} {t e : TypeId} (hrd : RdN c L K sv zs xs) (ht : P.underlying t = some (.slice e)) (hx : ev env x = some sv) : QV P n c env L ⟨d, .call ⟨.builtin .len, #[x], #[t]⟩, ty, ps, af, g⟩ (.int .i64 xs.length) := fun a w hr hs => by
  rw [← zip_len (hrd w hs).1]
  exact QV.len hrd.rdg ht hx a w hr hs
theorem QV.indexN {K : NE Z X} {sv : Value} {zs : List Z} {xs : List X} {x y : Operand} {t e : TypeId} {ag : Bool} {k : IntKind} {i : Int} (hrd : RdN c L K sv zs xs) (ht : P.underlying t = some (.slice e)) (he : tk P e = some (ag, K.E.sz)) (hx : ev env x = some sv) (hy : ev env y = some (.int k i)) (h : 0 ≤ i ∧ i < xs.length) :
    QV P n c env L ⟨d, .indexAddr t x y, ty, ps, af, g⟩ (.pointer (some (elA sv (i.toNat * K.E.sz)))) := fun a w hr hs =>
  QV.indexA hrd.rdg ht he hx hy (by rw [zip_len (hrd w hs).1]; exact h) a w hr hs
theorem QV.el1N [Inhabited Z] [Inhabited X] {K : NE Z X} {sv : Value} {zs : List Z} {xs : List X} {x : Operand} {t : TypeId} {s : Nat} {i : Int} {v : Value} (hrd : RdN c L K sv zs xs) (ht : tk P t = some (false, s)) (hx : ev env x = some (.pointer (some (elA sv (i.toNat * K.E.sz))))) (h : 0 ≤ i ∧ i < xs.length) (hv : K.E.enc (gd zs i, gd xs i) = [v]) :
    QV P n c env L ⟨d, .load t x, ty, ps, af, g⟩ v := fun a w hr hs =>
  QV.el1 hrd.rdg ht hx (by rw [zip_len (hrd w hs).1]; exact h) (by rw [gd_zip (hrd w hs).1 h]; exact hv) a w hr hs
theorem QV.elFN [Inhabited Z] [Inhabited X] {K : NE Z X} {sv : Value} {zs : List Z} {xs : List X} {x : Operand} {t : TypeId} {s o : Nat} {i : Int} {v : Value} (hrd : RdN c L K sv zs xs) (ht : tk P t = some (false, s)) (hx : ev env x = some (.pointer (some ((elA sv (i.toNat * K.E.sz)).add o)))) (h : 0 ≤ i ∧ i < xs.length) (hv : (K.E.enc (gd zs i, gd xs i))[o]? = some v) :
    QV P n c env L ⟨d, .load t x, ty, ps, af, g⟩ v := fun a w hr hs =>
  QV.elF hrd.rdg ht hx (by rw [zip_len (hrd w hs).1]; exact h) (by rw [gd_zip (hrd w hs).1 h]; exact hv) a w hr hs
theorem QV.elNN [Inhabited Z] [Inhabited X] {K : NE Z X} {sv : Value} {zs : List Z} {xs : List X} {x : Operand} {t : TypeId} {i : Int} (hrd : RdN c L K sv zs xs) (ht : tk P t = some (true, K.E.sz)) (hx : ev env x = some (.pointer (some (elA sv (i.toNat * K.E.sz))))) (h : 0 ≤ i ∧ i < xs.length) :
    QV P n c env L ⟨d, .load t x, ty, ps, af, g⟩ (.agg (K.E.enc (gd zs i, gd xs i)).toArray) := fun a w hr hs => by
  rw [← gd_zip (hrd w hs).1 h]
  exact QV.elN hrd.rdg ht hx (by rw [zip_len (hrd w hs).1]; exact h) a w hr hs
theorem okL_at [Inhabited Z] [Inhabited X] {K : NE Z X} {w : World} {G : Fp} {zs : List Z} {xs : List X} {j : Int} (h : okL K w G zs xs) (hl : zs.length = xs.length) (hj : 0 ≤ j ∧ j < xs.length) : K.ok w G (gd zs j) (gd xs j) :=
  h j.toNat _ _ (gd_get (by omega)) (gd_get hj)
/-- A slice in an element. -/
theorem Drv.el [Inhabited Z] [Inhabited X] {b : Bool} {K : NE Z X} {sv : Value} {zs : List Z} {xs : List X} {j : Int} {A : Asr} (hd : Drv b L (Asr.vn K sv zs xs)) (hj : 0 ≤ j ∧ j < xs.length) (hA : ∀ w G, K.ok w G (gd zs j) (gd xs j) → A.p w noFp G) : Drv b L A := fun w F G hs => by
  have h := hd w F G hs
  exact hA w _ (okL_at h.2.2 h.1 hj)
theorem Drv.vn {b : Bool} {K : NE Z X} {sv : Value} {zs : List Z} {xs : List X} (i : Nat) (hi : L[i]? = some (Asr.vn K sv zs xs)) : Drv b L (Asr.vn K sv zs xs) := fun w F G hs => by
  obtain ⟨Fs, h1, h2, h3⟩ := hs
  exact (Asr.vn K sv zs xs).mono _ _ _ _ (h1 i _ hi) (fun b hb => .inr hb)
theorem Drv.on {q : Bool} {e : TypeId} {K : NE Z X} {sv : Value} {zs : List Z} {xs : List X} (i : Nat) (hi : L[i]? = some (Asr.on q e K sv zs xs)) : Drv false L (Asr.vn K sv zs xs) := fun w F G ⟨Fs, h1, h2, _⟩ => by
  have hA := h1 i _ hi
  have hF := h2 i
  have hl := (List.getElem?_eq_some_iff.1 hi).1
  exact ⟨hA.1, ⟨rds_of hA.2.1.1, fun ad m cp hsv _ => .inl ⟨rfl, hF _ hl (hA.2.1.2 ad.block (by rw [hsv]; rfl))⟩⟩, fun j z x hz hx => K.mono _ _ _ _ _ (hA.2.2 j z x hz hx) (fun b hb => hb.elim (fun h => .inl ⟨rfl, hF b hl h⟩) (fun h => .inr h.2))⟩
theorem Rdg.ofDrv {α : Type} {E : Enc α} {sv : Value} {xs : List α} (h : Drv false L (Asr.vw E sv xs)) : Rdg c L E sv xs := fun w ⟨F, G, hs, _⟩ => (h w F G hs).1
theorem RdN.ofDrv {K : NE Z X} {sv : Value} {zs : List Z} {xs : List X} (h : Drv false L (Asr.vn K sv zs xs)) : RdN c L K sv zs xs := fun w ⟨F, G, hs, _⟩ => ⟨(h w F G hs).1, (h w F G hs).2.1.1, _, (h w F G hs).2.2⟩
/-- A literal's outer slice is owned, what its elements lead to is read out of the rest. -/
def drvN (b : Bool) (L : List Asr) (K : NE Z X) : List Z → List X → Prop
  | [], [] => True
  | z :: zs, x :: xs => (∀ w F G, Star L w F G → K.ok w (fun q => (b = false ∧ F q) ∨ G q) z x) ∧ drvN b L K zs xs
  | _, _ => False
theorem drvN.ok {b : Bool} {K : NE Z X} : ∀ {zs : List Z} {xs : List X}, drvN b L K zs xs → zs.length = xs.length ∧ ∀ w F G, Star L w F G → okL K w (fun q => (b = false ∧ F q) ∨ G q) zs xs
  | [], [], _ => ⟨rfl, fun w F G hs j z x hz => by simp at hz⟩
  | z :: zs, x :: xs, h => by
    obtain ⟨h1, h2⟩ := drvN.ok h.2
    refine ⟨by simp [h1], fun w F G hs j z' x' hz hx => ?_⟩
    cases j with
    | zero => simp at hz hx; subst hz; subst hx; exact h.1 w F G hs
    | succ j => simp at hz hx; exact h2 w F G hs j z' x' hz hx
  | [], _ :: _, h => h.elim
  | _ :: _, [], h => h.elim
theorem Drv.lit {e : TypeId} {K : NE Z X} {sv : Value} {zs : List Z} {xs : List X} {ps : List (Z × X)} (i : Nat) (hi : L[i]? = some (Asr.of e K.E sv ps)) (hp : ps = zs.zip xs) (h : drvN false L K zs xs) : Drv false L (Asr.vn K sv zs xs) := fun w F G hs => by
  subst hp
  obtain ⟨h1, h2⟩ := drvN.ok h
  exact ⟨h1, Drv.of i hi w F G hs, h2 w F G hs⟩
theorem QV.len' {α : Type} {E : Enc α} {sv : Value} {xs : List α} {m : Int} {x : Operand} {t e : TypeId} (hrd : Rdg c L E sv xs) (ht : P.underlying t = some (.slice e)) (hx : ev env x = some sv) (hm : (xs.length : Int) = m) : QV P n c env L ⟨d, .call ⟨.builtin .len, #[x], #[t]⟩, ty, ps, af, g⟩ (.int .i64 m) := hm ▸ QV.len hrd ht hx

/-! ### An array in a block, read as a slice -/
theorem Drv.arr {α : Type} {b o : Nat} {T : TypeId} {ss : List Seg} {E : Enc α} {m : Nat} {xs : Arr α m} (i j : Nat) (hi : L[i]? = some (Asr.blk b T ss)) (ho : size (ss.take j) = o) (hj : (ss.drop j).take 1 = [Seg.of (Enc.arr m E) xs]) (hm : Nat.ble m 9223372036854775807 = true) :
    Drv false L (Asr.vw E (SlV.v ⟨some ⟨b, o, none⟩, m, m⟩) xs.l) := fun w F G ⟨Fs, h1, h2, _⟩ => by
  have hA := h1 i _ hi
  refine ⟨⟨_, _, _, rfl, xs.h.symm, Nat.le_refl _, Nat.le_of_ble_eq_true hm, (fun h => nomatch h), fun ad e k v hv => ?_⟩, fun ad m' cp hsv _ => ?_⟩
  · obtain rfl := Option.some.inj e
    exact blk_cell hA.2 j 1 o ho (cs := xs.l.flatMap E.enc) (by rw [hj]; rfl) k v hv
  · simp only [Value.slice.injEq, Option.some.injEq] at hsv
    obtain ⟨rfl, _, _⟩ := hsv
    exact .inl ⟨rfl, h2 i _ (List.getElem?_eq_some_iff.1 hi).1 hA.1⟩
/-- b[lo:hi] of an array in a block. -/
theorem QV.sliceB {x : Operand} {lo hi : Option Operand} {t e : TypeId} {ag : Bool} {m sz b o : Nat} {l h : Int} (ht : P.underlying t = some (.array m e)) (he : tk P e = some (ag, sz)) (hx : ev env x = some (.pointer (some ⟨b, o, none⟩)))
    (hlo : bndE env 0 lo = some l) (hhi : bndE env m hi = some h) (hb : 0 ≤ l ∧ l ≤ h ∧ h ≤ m) : QV P n c env L ⟨d, .slice t x lo hi none, ty, ps, af, g⟩ (SlV.sub sz ⟨some ⟨b, o, none⟩, m, m⟩ l h).v := fun a w hr hs => by
  obtain ⟨_, h2⟩ := run_isAgg (w := w) he
  have hB : ∀ (x : Operand) (i : Int) (y : Nat) (code : BoundsCode), (match ev env x with | some (.int _ i) => some i | _ => none) = some i → 0 ≤ i → i ≤ y → (Instr.sliceBound (a.eval x) y code).run P w = .ok i.toNat w := by
    intro x i y code he h0 hy
    split at he
    · rename_i k j hj
      obtain rfl := Option.some.inj he
      rw [hr.eval hj]
      simp [Instr.sliceBound, asIntOf, h0, hy]
    · cases he
  have key : (Instr.sliceBounds false m m (lo.map a.eval) (hi.map a.eval) none).run P w = .ok (l.toNat, h.toNat, m) w := by
    cases lo with
    | none =>
      have : l = 0 := (Option.some.inj hlo).symm
      subst this
      cases hi with
      | none =>
        have : h = m := (Option.some.inj hhi).symm
        subst this
        simp [Instr.sliceBounds]
      | some y =>
        simp [Instr.sliceBounds, hB y h m .sliceAlen hhi (by omega) (by omega)]
    | some z =>
      cases hi with
      | none =>
        have : h = m := (Option.some.inj hhi).symm
        subst this
        simp [Instr.sliceBounds, hB z l m .sliceB hlo (by omega) (by omega)]
      | some y =>
        simp [Instr.sliceBounds, hB y h m .sliceAlen hhi (by omega) (by omega), hB z l h.toNat .sliceB hlo (by omega) (by omega)]
  simp [execOp, Instr.sliceAt, run_underlying ht, hr.eval hx, Instr.slice, Instr.sureAddr, key, h2, SlV.sub]
  split <;> rfl
/-! ### nil, capacities, append of made zeros, what is cut at its end -/
theorem JC.fact {code : Code} {K : Kn} {p : Prop} (h : ∀ w, Sat c L w → p) (next : p → JC P n c env L code K) : JC P n c env L code K := fun a w hr hs => next (h w hs) a w hr hs
theorem JL.fact {ops : Array Oper} {l : List Oper} {K : Kn} {p : Prop} (h : ∀ w, Sat c L w → p) (next : p → JL P n c ops env L l K) : JL P n c ops env L l K := fun a w hr hs => next (h w hs) a w hr hs
theorem QJ.fact {K : Kn} {e : Exit} {p : Prop} (h : ∀ w, Sat c L w → p) (next : p → QJ n c env L K e) : QJ n c env L K e := fun a w hr hs => next (h w hs) a w hr hs
theorem Rdg.none_nil {α : Type} {E : Enc α} {sv : SlV} {xs : List α} (h : Rdg c L E sv.v xs) (hn : sv.a = none) : ∀ w, Sat c L w → xs = [] := fun w hs => by
  obtain ⟨A, m, cp, e, hm, _, _, hA, _⟩ := h w hs
  simp only [Value.slice.injEq] at e
  obtain ⟨rfl, rfl, rfl⟩ := e
  exact List.eq_nil_of_length_eq_zero (by rw [← hm, (hA hn).1])
theorem run_equal_nil {w : World} {t e : TypeId} {s : SlV} (ht : P.underlying t = some (.slice e)) : (Op.equal t s.v (.slice none 0 0)).run P w = .ok (decide (s.a = none)) w := by
  obtain ⟨a, m, cp⟩ := s
  have key : ∀ k, (Op.equalIn (k + 1) t (.slice a m cp) (.slice none 0 0)).run P w = .ok (decide (a = none)) w := fun k => by
    cases a <;> simp [Op.equalIn, run_underlying ht]
  exact key 9999
theorem QV.eqlNil {x y : Operand} {t yt e : TypeId} {s : SlV} (ht : P.underlying t = some (.slice e)) (hx : ev env x = some s.v) (hy : ev env y = some (.slice none 0 0)) : QV P n c env L ⟨d, .binOp .eql t x y yt, ty, ps, af, g⟩ (.bool (decide (s.a = none))) := fun _ _ hr _ =>
  run_eql_of (hr.eval hx) (hr.eval hy) rfl rfl (run_equal_nil ht)
theorem QV.capNil {x : Operand} {t e : TypeId} (ht : P.underlying t = some (.slice e)) (hx : ev env x = some SlV.nil.v) : QV P n c env L ⟨d, .call ⟨.builtin .cap, #[x], #[t]⟩, ty, ps, af, g⟩ (.int .i64 0) := fun a w hr _ => by
  simp [execOp, resolve, invoke, builtin, hr.eval hx, Builtin.cap_, run_underlying ht]
  rfl
theorem MV.appendZ {α : Type} {E : Enc α} {x y : Operand} {t tn e : TypeId} {z : Value} {bytes : Nat} {k kn : IntKind} {m : Int} (z0 : α) (ht : P.underlying t = some (.slice e)) (htn : P.underlying tn = some (.int kn)) (hz : (P.info? e).map (fun i => (i.zero, i.size, i.bytes)) = some (some z, E.sz, bytes))
    (hE : 0 < E.sz) (hz0 : z.cells.toList = E.enc z0) (hx : ev env x = some SlV.nil.v) (hy : ev env y = some (.int k m)) (h : 0 < m ∧ m * bytes ≤ 140737488355328 ∧ m ≤ 140737488355328) :
    MV P n c env L ⟨d, .call ⟨.builtin .append, #[x, y], #[t, tn]⟩, ty, ps, af, g⟩ (fun v L' => ∃ sv : SlV, v = sv.v ∧ L' = Asr.of e E sv.v (List.replicate m.toNat z0) :: L) := fun a w hr hs => by
  obtain ⟨ti, hti, hzz⟩ := Option.map_eq_some_iff.1 hz
  simp only [Prod.mk.injEq] at hzz
  obtain ⟨hz1, hz2, hz3⟩ := hzz
  obtain ⟨q, rfl⟩ : ∃ q : Nat, m = (q : Int) := ⟨m.toNat, by omega⟩
  have hb : q * bytes ≤ 140737488355328 := by
    have := h.2.1
    rw [← Int.natCast_mul] at this
    omega
  have hrun := Lib.run_append_nil_zeros (P := P) w t tn ty e ti z k kn ht htn hti hz1 q (by omega) (by omega) (by omega) (by rw [hz3]; omega)
  have : (execOp a.eval ⟨d, .call ⟨.builtin .append, #[x, y], #[t, tn]⟩, ty, ps, af, g⟩).run P w = .ok (.value (.slice (some ⟨w.heap.size, 0, none⟩) q (grownCap w q 0 e))) (w.drew.alloc (.cells (Builtin.zeroCells z.cells q ++ Builtin.zeroCells z.cells (grownCap w q 0 e - q)) e)) := by
    simp [execOp, resolve, invoke, builtin, hr.eval hx, hr.eval hy, hrun]
  rw [this]
  have hge := grownCap_ge w q 0 e
  have hcm : grownCap w q 0 e ≤ maxLen := grownCap_le_maxLen w q 0 e (by simp only [maxLen]; omega)
  have hcells : z.cells = (E.enc z0).toArray := by rw [← hz0]
  have hzsz : z.cells.size = E.sz := by rw [hcells, List.size_toArray, E.len]
  have h1 : (Builtin.zeroCells z.cells q).toList = (List.replicate q z0).flatMap E.enc := by
    have : Builtin.zeroCells z.cells q = madeCells z.cells (q * z.cells.size) := rfl
    rw [this, hzsz, hcells, madeCells_flat E z0 q hE]
  refine ⟨_, ⟨⟨some ⟨w.heap.size, 0, none⟩, q, grownCap w q 0 e⟩, rfl, rfl⟩, ?_⟩
  have hs' : Sat c L w.drew := hs.same rfl rfl rfl rfl
  show Sat c (Asr.of e E _ (List.replicate q z0) :: L) _
  refine hs'.alloc _ fun G => ⟨⟨by rw [flat_len], .inr ⟨w.heap.size, grownCap w q 0 e, _, by simp, Nat.zero_le _, heap_alloc_new w.drew _, by simpa using hge, hcm, ?_, ?_⟩⟩, fun b h => by simpa [Value.ownBlock] using h.symm⟩
  · rw [Array.size_append, size_zeroCells, size_zeroCells, hzsz, ← Nat.add_mul]; congr 1; omega
  · rw [Array.toList_append, h1, List.take_left' (by rw [flat_len])]
theorem Sat.trunc {α : Type} {w : World} {e : TypeId} {E : Enc α} {sv : SlV} {xs : List α} {u : Int} (i : Nat) (hi : L[i]? = some (Asr.of e E sv.v xs)) (h : 0 ≤ (0 : Int) ∧ (0 : Int) ≤ u ∧ u ≤ xs.length) (hs : Sat c L w) : Sat c (L.set i (Asr.of e E (SlV.sub E.sz sv 0 u).v (subL xs 0 u))) w := by
  obtain ⟨F1, G, hp, hdom, _, hput⟩ := hs.zoom hi
  have hlen := subL_length xs 0 u h
  refine hput w F1 _ ⟨⟨by rw [flat_len], ?_⟩, fun b hb => ?_⟩ (fun _ _ _ => rfl) (fun b hb => .inl hb) hdom (Nat.le_refl _) rfl rfl rfl
  · rcases hp.1.2 with ⟨h1, h2⟩ | ⟨g', cap, cur, h1, hb, hg, hnc, hcm, hcs, htake⟩
    · simp only [Value.slice.injEq] at h1
      obtain ⟨a1, a2, a3⟩ := h1
      left
      refine ⟨?_, by omega⟩
      simp only [SlV.sub, SlV.v, a1, a3, Value.slice.injEq]
      refine ⟨by simp, by omega, by simp⟩
    · simp only [Value.slice.injEq] at h1
      obtain ⟨a1, a2, a3⟩ := h1
      right
      refine ⟨g', cap, cur, ?_, hb, hg, by omega, hcm, hcs, ?_⟩
      · simp only [SlV.sub, SlV.v, a1, a3, Value.slice.injEq]
        refine ⟨?_, by omega, by simp⟩
        split
        · rfl
        · simp [add_plain]
      · have hk : (subL xs 0 u).flatMap E.enc = (xs.flatMap E.enc).take (u.toNat * E.sz) := by
          simp only [subL]
          rw [flat_take]
          simp
        rw [hk, hlen, ← htake, List.take_take]
        have : u.toNat * E.sz ≤ xs.length * E.sz := Nat.mul_le_mul_right _ (by omega)
        have e0 : (0 : Int).toNat = 0 := rfl
        congr 1
        simp only [e0, Nat.sub_zero]
        first | rw [Nat.min_eq_left this] | rw [Nat.min_eq_right this] | omega
  · refine hp.2 b ?_
    simp only [SlV.sub, Value.ownBlock] at hb ⊢
    split at hb
    · rename_i q _ _ hq
      simp only [SlV.v, Value.slice.injEq] at hq
      cases ha : sv.a with
      | none => rw [ha] at hq; simp at hq
      | some q' =>
        rw [ha] at hq
        have : q.block = q'.block := by
          have h1 := hq.1
          split at h1
          · exact congrArg Addr.block (Option.some.inj h1).symm
          · simp at h1
            rw [← h1, add_block]
        simp [SlV.v, ha, ← hb, this]
    · cases hb
end
end Go.Eng
