/- Regions that draw their order, where several operations that change something may come in any order: all orders are gone through. -/
import Derived.Test.YtgganckggdjpaaaEngMore
set_option linter.unusedVariables false
namespace Go.Eng
open Go

section
variable {P : Program} {n : Fsz} {c : Ctx} {env : Env} {L : List Asr} {d : Option Tmp} {ty : TypeId} {ps : String} {af : Array Edge} {g : Option (Nat × Bool)}
/-- copy into a whole slice that is owned. -/
theorem MV.copyA {α : Type} {x y : Operand} {t t2 e : TypeId} {ag : Bool} {E : Enc α} {dv : SlV} {xs : List α} {sv : Value} {ys : List α} (ix : Nat) (hi : L[ix]? = some (Asr.of e E dv.v xs)) (hrd : Rdg c L E sv ys) (ht : P.underlying t = some (.slice e)) (he : tk P e = some (ag, E.sz))
    (hx : ev env x = some dv.v) (hy : ev env y = some sv) :
    MV P n c env L ⟨d, .call ⟨.builtin .copy, #[x, y], #[t, t2]⟩, ty, ps, af, g⟩ (fun u L' => u = .int .i64 (cpN 0 (xs.length : Int) ys) ∧ L' = L.set ix (Asr.of e E dv.v (cpL xs 0 (xs.length : Int) ys))) := fun ac w hr hs => by
  obtain ⟨A, m, cp, h1, h2, _⟩ := (Rdg.of ix hi : Rdg c L E dv.v xs) w hs
  have e1 : (SlV.sub E.sz dv 0 (xs.length : Int)).v = dv.v := by
    simp only [SlV.v, Value.slice.injEq] at h1
    obtain ⟨a1, a2, a3⟩ := h1
    have h0 : (0 : Int).toNat = 0 := rfl
    simp only [SlV.sub, SlV.v, h0, Nat.zero_mul, Nat.sub_zero, Value.slice.injEq]
    refine ⟨?_, by omega, trivial⟩
    split
    · rfl
    · cases dv.a with
      | none => rfl
      | some ad =>
        have : ad.add 0 = ad := by unfold Addr.add; split <;> simp_all
        simp [this]
  exact MV.copyO (l := 0) (h := (xs.length : Int)) ix hi hrd ht he (by rw [e1]; exact hx) hy (by omega) ac w hr hs
/-! ### Maps from whole numbers to whole numbers: what was put in, in its order -/
def mpE (k k2 : IntKind) (e : MapEntry) (p : Int × Int) : Prop := e.key = .int k p.1 ∧ e.val = .int k2 p.2
def mpL (k k2 : IntKind) : List MapEntry → List (Int × Int) → Prop
  | [], [] => True
  | e :: es, p :: ps => mpE k k2 e p ∧ mpL k k2 es ps
  | _, _ => False
def Asr.mp (b : Nat) (k k2 : IntKind) (ps : List (Int × Int)) : Asr where
  p w F _ := F b ∧ ∃ es clock, w.heap[b]? = some (.map es clock) ∧ mpL k k2 es.toList ps
  loc w w' F G h hw := ⟨h.1, by rw [hw b (.inl h.1)]; exact h.2⟩
  mono _ _ _ _ h _ := h
theorem own_mp (b : Nat) (k k2 : IntKind) (ps : List (Int × Int)) : (Asr.mp b k k2 ps).own := fun _ _ _ h => h
def lkp (ps : List (Int × Int)) (x : Int) : Int := match ps.find? (fun p => p.1 == x) with
  | some p => p.2
  | none => 0
theorem find_mp {k k2 : IntKind} (x : Int) : ∀ (es : List MapEntry) (ps : List (Int × Int)) (i : Nat), mpL k k2 es ps →
    (∃ j v, Instr.findNow (.int k) (.int k x) es i = some (some (j, .int k2 v)) ∧ lkp ps x = v ∧ (∃ p ∈ ps, p.1 = x)) ∨ (Instr.findNow (.int k) (.int k x) es i = some none ∧ lkp ps x = 0 ∧ ∀ p ∈ ps, p.1 ≠ x)
  | [], [], i, _ => .inr ⟨rfl, rfl, by simp⟩
  | e :: es, p :: ps, i, h => by
    obtain ⟨⟨hk, hv⟩, hr⟩ := h
    by_cases hx : x = p.1
    · subst hx
      refine .inl ⟨i, p.2, ?_, ?_, p, by simp, rfl⟩
      · simp [Instr.findNow, hk, Instr.sameNow, hv]
      · simp [lkp]
    · have hx' : ¬ p.1 = x := fun h => hx h.symm
      have h1 : Instr.findNow (.int k) (.int k x) (e :: es) i = Instr.findNow (.int k) (.int k x) es (i + 1) := by simp [Instr.findNow, hk, Instr.sameNow, show (x == p.1) = false from by simpa using hx]
      have h2 : lkp (p :: ps) x = lkp ps x := by simp [lkp, hx']
      rw [h1, h2]
      rcases find_mp x es ps (i + 1) hr with ⟨j, v, a, b, q, hq, hqx⟩ | ⟨a, b, hall⟩
      · exact .inl ⟨j, v, a, b, q, by simp [hq], hqx⟩
      · exact .inr ⟨a, b, fun q hq => by rcases List.mem_cons.1 hq with rfl | hq; exact hx'; exact hall q hq⟩
  | [], _ :: _, _, h => h.elim
  | _ :: _, [], _, h => h.elim
theorem run_checkKey_int {w : World} {b : Bool} {t : TypeId} {k : IntKind} {x : Int} (ht : P.underlying t = some (.int k)) (d : Nat) : (Instr.checkKey b (d + 1) t (.int k x)).run P w = .ok () w := by
  simp [Instr.checkKey, run_underlying ht]
theorem MV.makeMap {t : TypeId} (k k2 : IntKind) : MV P n c env L ⟨d, .makeMap t none, ty, ps, af, g⟩ (fun v L' => ∃ b, v = .map (some b) ∧ L' = Asr.mp b k k2 [] :: L) := fun a w hr hs => by
  have : (execOp a.eval ⟨d, .makeMap t none, ty, ps, af, g⟩).run P w = .ok (.value (.map (some w.heap.size))) (w.alloc (.map #[] 0)) := by
    rfl
  rw [this]
  exact ⟨_, ⟨w.heap.size, rfl, rfl⟩, hs.alloc _ fun G => ⟨rfl, #[], 0, heap_alloc_new w _, trivial⟩⟩
theorem mpL_snoc {k k2 : IntKind} {e : MapEntry} {p : Int × Int} : ∀ {es : List MapEntry} {ps : List (Int × Int)}, mpL k k2 es ps → mpE k k2 e p → mpL k k2 (es ++ [e]) (ps ++ [p])
  | [], [], _, h => ⟨h, trivial⟩
  | _ :: _, _ :: _, h, he => ⟨h.1, mpL_snoc h.2 he⟩
  | [], _ :: _, h, _ => h.elim
  | _ :: _, [], h, _ => h.elim
theorem setObj_heap (w : World) (b : Nat) (o : Obj) (hb : b < w.heap.size) : (w.heap.setIfInBounds b o)[b]? = some o := by simp [hb]
theorem MV.insert {t kt et : TypeId} {x y z : Operand} {b : Nat} {k k2 : IntKind} {ps' : List (Int × Int)} {p q : Int} (i : Nat) (hi : L[i]? = some (Asr.mp b k k2 ps')) (ht : P.underlying t = some (.map kt et)) (hk : P.underlying kt = some (.int k)) (hx : ev env x = some (.map (some b))) (hy : ev env y = some (.int k p)) (hz : ev env z = some (.int k2 q)) (hn : ps'.all (fun r => !(r.1 == p)) = true) :
    MV P n c env L ⟨none, .insert t x y z, ty, ps, af, g⟩ (fun v L' => v = undef ∧ L' = L.set i (Asr.mp b k k2 (ps' ++ [(p, q)]))) := fun a w hr hs => by
  obtain ⟨F1, G, hp, hdom, _, hput⟩ := hs.zoom hi
  obtain ⟨hF, es, clock, hb, hl⟩ := hp
  have hno : ∀ r ∈ ps', r.1 ≠ p := fun r hr => by simpa using List.all_eq_true.1 hn r hr
  have hbs := hdom b hF
  have hfind : Instr.findNow (.int k) (.int k p) es.toList 0 = some none := by
    rcases find_mp p es.toList ps' 0 hl with ⟨_, _, _, _, r, hr, he⟩ | ⟨h, _⟩
    · exact absurd he (hno r hr)
    · exact h
  have hrun : (execOp a.eval ⟨none, .insert t x y z, ty, ps, af, g⟩).run P w = .ok .skip { w with heap := w.heap.setIfInBounds b (.map (es.push { key := .int k p, val := .int k2 q, born := clock }) (clock + 1)) } := by
    have hc := run_checkKey_int (P := P) (w := w) (b := false) (x := p) hk 9999
    have hgo : (getObj b).run P w = .ok (.map es clock) w := by simp [getObj, Sem.run, hb]
    have hso : ∀ o, (setObj b o).run P w = .ok () { w with heap := w.heap.setIfInBounds b o } := fun o => by simp [setObj, Sem.run, hb]
    simp [execOp, hr.eval hx, hr.eval hy, hr.eval hz, Instr.mapUpdate, run_underlying ht, hgo, hc, Instr.findKey, run_underlying hk, hfind, hso]
  rw [hrun]
  refine ⟨_, ⟨rfl, rfl⟩, hput _ F1 _ ⟨hF, es.push { key := .int k p, val := .int k2 q, born := clock }, clock + 1, setObj_heap w b _ hbs, ?_⟩ (fun j hj hn => ?_) (fun b hb => .inl hb) (fun j hj => by simpa using hdom j hj) (by simp) rfl rfl rfl⟩
  · rw [Array.toList_push]
    exact mpL_snoc hl ⟨rfl, rfl⟩
  · show (w.heap.setIfInBounds b _)[j]? = _
    rw [Array.getElem?_setIfInBounds]
    have : ¬ b = j := fun e => hn (e ▸ hF)
    simp [this]
theorem QV.lookup {t kt et : TypeId} {x y : Operand} {b : Nat} {k k2 : IntKind} {ps' : List (Int × Int)} {p : Int} (i : Nat) (hi : L[i]? = some (Asr.mp b k k2 ps')) (ht : P.underlying t = some (.map kt et)) (hk : P.underlying kt = some (.int k)) (hz : (P.info? et).map (·.zero) = some (some (.int k2 0))) (hx : ev env x = some (.map (some b))) (hy : ev env y = some (.int k p)) :
    QV P n c env L ⟨d, .lookup t x y false, ty, ps, af, g⟩ (.int k2 (lkp ps' p)) := fun a w hr hs => by
  obtain ⟨F, G, ⟨hF, es, clock, hb, hl⟩, _⟩ := hs.get hi
  obtain ⟨ti, hti, hzz⟩ := Option.map_eq_some_iff.1 hz
  have hc := run_checkKey_int (P := P) (w := w) (b := es.isEmpty) (x := p) hk 9999
  have hgo : (getObj b).run P w = .ok (.map es clock) w := by simp [getObj, Sem.run, hb]
  rcases find_mp p es.toList ps' 0 hl with ⟨j, v, h1, h2, _⟩ | ⟨h1, h2, _⟩
  · simp [execOp, hr.eval hx, hr.eval hy, Instr.lookup, run_underlying ht, hgo, hc, Instr.findKey, run_underlying hk, h1, h2]
  · simp [execOp, hr.eval hx, hr.eval hy, Instr.lookup, run_underlying ht, hgo, hc, Instr.findKey, run_underlying hk, h1, h2, zeroValue, typeInfo, hti, hzz]

/-! ### A part of a nested slice -/
theorem zip_sub {Z X : Type} (zs : List Z) (xs : List X) (lo hi : Int) : (subL zs lo hi).zip (subL xs lo hi) = subL (zs.zip xs) lo hi := by
  simp [subL, List.zip_eq_zipWith, List.drop_zipWith, List.take_zipWith]
theorem Drv.subN {Z X : Type} {b : Bool} {K : NE Z X} {sv : SlV} {zs : List Z} {xs : List X} {lo hi : Int} (hd : Drv b L (Asr.vn K sv.v zs xs)) (h : 0 ≤ lo ∧ lo ≤ hi ∧ hi ≤ xs.length) : Drv b L (Asr.vn K (SlV.sub K.E.sz sv lo hi).v (subL zs lo hi) (subL xs lo hi)) := fun w F G hs => by
  obtain ⟨h1, h2, h3⟩ := hd w F G hs
  refine ⟨?_, ?_, fun j z x hz hx => ?_⟩
  · rw [subL_length zs lo hi (by omega), subL_length xs lo hi h]
  · rw [zip_sub]
    have h4 : Drv b [] (Asr.vw K.E sv.v (zs.zip xs)) → True := fun _ => trivial
    have hlen := zip_len h1
    refine ⟨rds_sub h2.1 (by rw [hlen]; exact h), inG_sub h2.2 fun a m cp e => ?_⟩
    obtain ⟨A, m', cp', e', hm, _⟩ := h2.1
    rw [e] at e'
    simp only [Value.slice.injEq] at e'
    omega
  · simp only [subL, List.getElem?_take, List.getElem?_drop] at hz hx
    by_cases hj : j < hi.toNat - lo.toNat
    · rw [if_pos hj] at hz hx
      exact h3 _ z x hz hx
    · rw [if_neg hj] at hz
      cases hz
theorem RdN.sub {Z X : Type} {K : NE Z X} {sv : SlV} {zs : List Z} {xs : List X} {lo hi : Int} (hd : RdN c L K sv.v zs xs) (h : 0 ≤ lo ∧ lo ≤ hi ∧ hi ≤ xs.length) : Rdg c L K.E (SlV.sub K.E.sz sv lo hi).v (subL (zs.zip xs) lo hi) := fun w hs => rds_sub (hd w hs).2.1 (by rw [zip_len (hd w hs).1]; exact h)
theorem QV.sliceN {Z X : Type} {K : NE Z X} {sv : SlV} {zs : List Z} {xs : List X} {x : Operand} {lo hi : Option Operand} {t e : TypeId} {ag : Bool} {l h : Int} (hrd : RdN c L K sv.v zs xs) (ht : P.underlying t = some (.slice e)) (he : tk P e = some (ag, K.E.sz)) (hx : ev env x = some sv.v)
    (hlo : bndE env 0 lo = some l) (hhi : bndE env xs.length hi = some h) (hb : 0 ≤ l ∧ l ≤ h ∧ h ≤ xs.length) : QV P n c env L ⟨d, .slice t x lo hi none, ty, ps, af, g⟩ (SlV.sub K.E.sz sv l h).v := fun a w hr hs => by
  have hl := zip_len (hrd w hs).1
  exact QV.sliceV hrd.rdg ht he hx hlo (by rw [hl]; exact hhi) (by rw [hl]; exact hb) a w hr hs
/-- What is owned is given up to be read, as whatever it can be read as. -/
theorem Sat.shareG {w : World} {A B : Asr} (i : Nat) (hi : L[i]? = some A) (hAB : ∀ w F G, A.p w F G → B.p w noFp (fun b => G b ∨ F b)) (hs : Sat c L w) : Sat c (L.set i B) w := by
  obtain ⟨F, G, ⟨Fs, h1, h2, h3⟩, hg⟩ := hs
  have hl := (List.getElem?_eq_some_iff.1 hi).1
  have hA := h1 i _ hi
  refine ⟨fun b => F b ∧ ¬ Fs i b, fun b => G b ∨ Fs i b, ⟨fun k => if k = i then noFp else Fs k, fun k C hk => ?_, fun k b hk hb => ?_, fun k j b hk hj hne hb hb' => ?_⟩, hg.frm, fun b h k => ?_, fun b h => ?_, fun b h => hg.own b h.1, fun b h => ?_⟩
  · by_cases e : k = i
    · subst e
      rw [List.getElem?_set_self hl] at hk
      obtain rfl := Option.some.inj hk
      simp only [if_true]
      exact hAB _ _ _ hA
    · rw [List.getElem?_set_ne (Ne.symm e)] at hk
      simp only [e, if_false]
      exact C.mono _ _ _ _ (h1 k C hk) (fun b hb => .inl hb)
  · simp only [List.length_set] at hk
    by_cases e : k = i
    · simp only [e, if_true] at hb; exact hb.elim
    · simp only [e, if_false] at hb; exact ⟨h2 k b hk hb, fun h => h3 k i b hk hl e hb h⟩
  · simp only [List.length_set] at hk hj
    by_cases e : k = i
    · simp only [e, if_true] at hb; exact hb.elim
    · by_cases e' : j = i
      · simp only [e', if_true] at hb'; exact hb'.elim
      · simp only [e, if_false] at hb; simp only [e', if_false] at hb'; exact h3 k j b hk hj hne hb hb'
  · exact k.elim (hg.dis b h.1) h.2
  · rcases h with h | h | h
    · exact hg.dom b (.inl h.1)
    · exact hg.dom b (.inr h)
    · exact hg.dom b (.inl (h2 i b hl h))
  · rcases h with h | h
    · exact hg.shr b h
    · exact .inr (hg.own b (h2 i b hl h))
/-- A slice of the call's own that may be read. -/
def Asr.ro {α : Type} (E : Enc α) (sv : Value) (xs : List α) : Asr where
  p w F _ := RdS w E sv xs ∧ inG F sv
  loc _ _ _ _ h hw := ⟨h.1.loc fun ad n c e h0 => hw _ (.inl (h.2 ad n c e h0)), h.2⟩
  mono _ _ _ _ h _ := h
theorem freeze_heap (w : World) (g k : Nat) (cur : Array Value) (t : TypeId) (h : w.heap[g]? = some (.cells cur t (0, 0))) : ∃ z, (w.freeze ⟨g, k, none⟩ 1).heap[g]? = some (.cells cur t z) ∧ (∀ b, b ≠ g → (w.freeze ⟨g, k, none⟩ 1).heap[b]? = w.heap[b]?) ∧ (w.freeze ⟨g, k, none⟩ 1).heap.size = w.heap.size ∧ (w.freeze ⟨g, k, none⟩ 1).os = w.os ∧ (w.freeze ⟨g, k, none⟩ 1).tape = w.tape ∧ (w.freeze ⟨g, k, none⟩ 1).output = w.output := by
  unfold World.freeze
  rw [if_neg (by decide)]
  have hl := (Array.getElem?_eq_some_iff.1 h).1
  have hv := (Array.getElem?_eq_some_iff.1 h).2
  refine ⟨(k, k + 1), ?_, fun b hb => ?_, by simp, rfl, rfl, rfl⟩
  · simp only [Array.getElem?_modify, if_true, h]
    rfl
  · simp only [Array.getElem?_modify]
    rw [if_neg (Ne.symm hb)]
/-- []byte("..") of a constant text: a literal's row is marked; nobody writes it any more. -/
theorem MV.mark {x : Operand} {t e : TypeId} {sv : SlV} {xs : List Int} (i : Nat) (hi : L[i]? = some (Asr.of e (Enc.int .u8) sv.v xs)) (ht : P.underlying t = some (.slice e)) (he : P.underlying e = some (.int .u8)) (hl : xs.length ≠ 0) (hx : ev env x = some sv.v) :
    MV P n c env L ⟨d, .convert t t x, ty, ps, af, g⟩ (fun v L' => v = sv.v ∧ L' = L.set i (Asr.vw (Enc.int .u8) sv.v xs)) := fun a w hr hs => by
  obtain ⟨F1, G, hp, hdom, _, hput⟩ := hs.zoom hi
  have hrd := rds_of hp.1
  rcases hp.1.2 with ⟨_, h0⟩ | ⟨g', cap, cur, hval, hb, hg, hnc, hcm, hcs, htake⟩
  · exact absurd h0 hl
  · simp only [Value.slice.injEq] at hval
    obtain ⟨a1, a2, a3⟩ := hval
    have hF : F1 g' := hp.2 g' (by simp [SlV.v, a1, Value.ownBlock])
    have hsh : w.shape? g' = some (e, cur.size) := by unfold World.shape?; rw [hg]
    obtain ⟨z, z1, z2, z3, z4, z5, z6⟩ := freeze_heap w g' cur.size cur e hg
    have : (execOp a.eval ⟨d, .convert t t x, ty, ps, af, g⟩).run P w = .ok (.value sv.v) (w.freeze ⟨g', cur.size, none⟩ 1) := by
      simp only [SlV.v] at hx
      rw [a1] at hx
      simp [execOp, hr.eval hx, convert, run_underlying ht, run_underlying he, markStringish, hsh, SlV.v, a1]
    rw [this]
    have hcell : ∀ k, (w.freeze ⟨g', cur.size, none⟩ 1).cell? ⟨g', k, none⟩ = w.cell? ⟨g', k, none⟩ := fun k => by simp [World.cell?, z1, hg]
    have hs2 : Sat c (L.set i (Asr.ro (Enc.int .u8) sv.v xs)) (w.freeze ⟨g', cur.size, none⟩ 1) := by
      refine hput _ F1 _ ⟨?_, fun ad m cp e' h0 => ?_⟩ (fun b hb hn => z2 b (fun e => hn (e ▸ hF))) (fun b hb => .inl hb) (fun b hb => by rw [z3]; exact hdom b hb) (by rw [z3]; exact Nat.le_refl _) z4 z5 z6
      · obtain ⟨A, m, cp, h1, h2, h3, h4, h5, h6⟩ := hrd
        refine ⟨A, m, cp, h1, h2, h3, h4, h5, fun ad hA k v hk => ?_⟩
        simp only [Value.slice.injEq] at h1
        have h7 := h6 ad hA k v hk
        rw [← h1.1, a1] at hA
        obtain rfl := Option.some.inj hA
        rw [add_plain] at h7 ⊢
        rw [hcell]
        exact h7
      · simp only [SlV.v, a1, Value.slice.injEq, Option.some.injEq] at e'
        obtain ⟨rfl, _, _⟩ := e'
        exact hF
    have hl2 := (List.getElem?_eq_some_iff.1 hi).1
    refine ⟨_, ⟨rfl, rfl⟩, ?_⟩
    have hs3 := hs2.shareG (A := Asr.ro (Enc.int .u8) sv.v xs) (B := Asr.vw (Enc.int .u8) sv.v xs) i (List.getElem?_set_self hl2) (fun w F G h => ⟨h.1, fun ad n c e h0 => .inr (h.2 ad n c e h0)⟩)
    rwa [List.set_set] at hs3
theorem QV.eqlI {x y : Operand} {t yt : TypeId} {a b : Value} {ms : Array (String × TypeId)} (ht : P.underlying t = some (.interface ms)) (hx : ev env x = some a) (hy : ev env y = some b) (h : a = .nilIface ∨ b = .nilIface) (hk : ((match x with | .const _ => true | _ => false) || (match y with | .const _ => true | _ => false)) = true)
    (r : Bool) (hr : (match a, b with | .nilIface, .nilIface => some true | .nilIface, .iface _ _ => some false | .iface _ _, .nilIface => some false | _, _ => none) = some r) : QV P n c env L ⟨d, .binOp .eql t x y yt, ty, ps, af, g⟩ (.bool r) := fun _ w hre _ => by
  have key : ∀ k, (Op.equalIn (k + 1) t a b).run P w = .ok r w := fun k => by
    cases a <;> cases b <;> simp at hr <;> subst hr <;> simp [Op.equalIn, run_underlying ht]
  refine run_eql_of (hre.eval hx) (hre.eval hy) ?_ ?_ (key 9999)
  · unfold eqGuard
    cases a <;> cases b <;> simp at hr <;> try rfl
    cases x <;> cases y <;> simp at hk <;> rfl
  · cases a <;> cases b <;> simp at hr <;> rfl
theorem QV.neqI {x y : Operand} {t yt : TypeId} {a b : Value} {ms : Array (String × TypeId)} (ht : P.underlying t = some (.interface ms)) (hx : ev env x = some a) (hy : ev env y = some b) (h : a = .nilIface ∨ b = .nilIface) (hk : ((match x with | .const _ => true | _ => false) || (match y with | .const _ => true | _ => false)) = true)
    (r : Bool) (hr : (match a, b with | .nilIface, .nilIface => some true | .nilIface, .iface _ _ => some false | .iface _ _, .nilIface => some false | _, _ => none) = some r) : QV P n c env L ⟨d, .binOp .neq t x y yt, ty, ps, af, g⟩ (.bool (!r)) := fun _ w hre _ => by
  have key : ∀ k, (Op.equalIn (k + 1) t a b).run P w = .ok r w := fun k => by
    cases a <;> cases b <;> simp at hr <;> subst hr <;> simp [Op.equalIn, run_underlying ht]
  refine run_neq_of (hre.eval hx) (hre.eval hy) ?_ ?_ (key 9999)
  · unfold eqGuard
    cases a <;> cases b <;> simp at hr <;> try rfl
    cases x <;> cases y <;> simp at hk <;> rfl
  · cases a <;> cases b <;> simp at hr <;> rfl
def JU (P : Program) (n : Fsz) (c : Ctx) (ops : Array Oper) (K : Kn) (LS : List Asr) (T : Nat → Bool) (fuel : Nat) (listed : Array Bool) (env : Env) (L : List Asr) : Prop :=
  ∀ a w, Rep n env a → Sat c L w → wpAnyT n.rd P .any ops K.q (Sat c LS) T fuel listed a w
theorem JC.regionU {env : Env} {L : List Asr} {K : Kn} {id : Nat} {l : List Oper} (LS : List Asr) (T : Nat → Bool) (k : Nat) (hk : l.toArray.size = k) (hm : P.follows .mixedOrders = true) (hsel : Region.noSelect l.toArray = true)
    (h : Region.noSelect l.toArray = true → JU P n c l.toArray K LS T k (Array.replicate k false) env L) : JC P n c env L (.region id l.toArray true) K := by
  intro a w hr hs
  refine wpIn_region_any hm (wpAny_of_T _ _ _ _ (S := Sat c LS) (T := T) ?_)
  subst hk
  exact h hsel a _ hr (hs.same (w' := { w with drawn := w.drawn + 1 }) rfl rfl rfl rfl)
theorem JU.nil {ops : Array Oper} {env : Env} {L LS : List Asr} {K : Kn} {T : Nat → Bool} {fuel : Nat} {listed : Array Bool} (hrd : (Region.ready .any ops listed).isEmpty = true) (h : QJ n c env L K .normal) : JU P n c ops K LS T fuel listed env L := by
  intro a w hr hs
  rw [List.isEmpty_iff] at hrd
  cases fuel with
  | zero => exact ⟨hrd, h a w hr hs⟩
  | succ fuel => exact ⟨fun _ => h a w hr hs, fun i hi => by rw [hrd] at hi; cases hi⟩
theorem JU.take {ops : Array Oper} {env : Env} {L LS : List Asr} {K : Kn} {T : Nat → Bool} {i : Nat} {oi : Oper} {v : Value} {d fuel : Nat} {listed : Array Bool} (hsel : Region.noSelect ops = true) (hi : ops[i]? = some oi) (htk : takeB ops T listed i = true) (h : QV P n c env LS oi v) (hw : wantE ops env oi = some true)
    (hd : oi.dst = some d) (hkp : K.kp d = false) (hn : Nat.blt d n.n = true) (σ : List Nat) (hσ : nd σ = true) (hLS : Eng.pickL L σ = some LS) (next : JU P n c ops K LS T fuel (listed.setIfInBounds i true) ((d, v) :: env) L) : JU P n c ops K LS T (fuel + 1) listed env L := by
  intro a w hr hs
  simp only [takeB, Bool.and_eq_true, Bool.not_eq_true'] at htk
  obtain ⟨⟨⟨hf, hrd⟩, hTi⟩, hT⟩ := htk
  refine wpAnyT_first hi (Region.noSelect_spec hsel) (fun ch a w h => K.pn ch a w _ _ hkp (by rwa [hd] at h)) (fun j oj hj ht => ?_) hTi _ _ _ _ (Region.free_spec hi hf) (by simpa using hrd) (.inl ⟨hr.wanted hw, fun w' hw' => h a w' hr hw'⟩) (hs.pick σ hσ hLS) ?_
  · have h1 := List.all_eq_true.1 hT j (List.mem_range.2 (Array.getElem?_eq_some_iff.1 hj).1)
    simp only [ht, hj, Bool.not_true, Bool.false_or] at h1
    obtain ⟨e, he, hb⟩ := Array.any_eq_true'.1 h1
    simp only [Bool.and_eq_true, beq_iff_eq] at hb
    exact ⟨e, he, hb⟩
  · rw [hd]
    exact next _ _ (hr.put (Nat.le_of_ble_eq_true hn) v) hs
theorem JU.skip {ops : Array Oper} {env : Env} {L LS : List Asr} {K : Kn} {T : Nat → Bool} {i : Nat} {oi : Oper} {d : Option Tmp} {fuel : Nat} {listed : Array Bool} (hsel : Region.noSelect ops = true) (hi : ops[i]? = some oi) (htk : takeB ops T listed i = true) (hw : wantE ops env oi = some false)
    (hd : oi.dst = d) (hkp : (d.map K.kp).getD false = false) (hn : dstOk n d = true) (σ : List Nat) (hσ : nd σ = true) (hLS : Eng.pickL L σ = some LS) (next : JU P n c ops K LS T fuel (listed.setIfInBounds i true) (bnd d undef env) L) : JU P n c ops K LS T (fuel + 1) listed env L := by
  intro a w hr hs
  simp only [takeB, Bool.and_eq_true, Bool.not_eq_true'] at htk
  obtain ⟨⟨⟨hf, hrd⟩, hTi⟩, hT⟩ := htk
  refine wpAnyT_first (v := undef) hi (Region.noSelect_spec hsel) (fun ch a w h => ?_) (fun j oj hj ht => ?_) hTi _ _ _ _ (Region.free_spec hi hf) (by simpa using hrd) (.inr ⟨hr.wanted hw, rfl⟩) (hs.pick σ hσ hLS) ?_
  · rw [hd] at h
    cases d with
    | none => exact h
    | some d => exact K.pn ch a w _ _ hkp h
  · have h1 := List.all_eq_true.1 hT j (List.mem_range.2 (Array.getElem?_eq_some_iff.1 hj).1)
    simp only [ht, hj, Bool.not_true, Bool.false_or] at h1
    obtain ⟨e, he, hb⟩ := Array.any_eq_true'.1 h1
    simp only [Bool.and_eq_true, beq_iff_eq] at hb
    exact ⟨e, he, hb⟩
  · rw [hd]
    exact next _ _ (hr.bnd hn undef) hs
/-- One of those that may come up. -/
def JUo (P : Program) (n : Fsz) (c : Ctx) (ops : Array Oper) (K : Kn) (LS : List Asr) (T : Nat → Bool) (fuel : Nat) (listed : Array Bool) (env : Env) (L : List Asr) (i : Nat) : Prop :=
  ∀ a w, Rep n env a → Sat c L w → wpOpIn (fen n.rd) 0 P ops K.q i (fun a' w' => (T i = false → Sat c LS w') ∧ wpAnyT n.rd P .any ops K.q (Sat c LS) T fuel (listed.setIfInBounds i true) a' w') a w
def JUs (P : Program) (n : Fsz) (c : Ctx) (ops : Array Oper) (K : Kn) (LS : List Asr) (T : Nat → Bool) (fuel : Nat) (listed : Array Bool) (env : Env) (L : List Asr) : List Nat → Prop
  | [] => True
  | i :: rs => JUo P n c ops K LS T fuel listed env L i ∧ JUs P n c ops K LS T fuel listed env L rs
theorem JUs.get {ops : Array Oper} {env : Env} {L LS : List Asr} {K : Kn} {T : Nat → Bool} {fuel : Nat} {listed : Array Bool} : ∀ {rs : List Nat}, JUs P n c ops K LS T fuel listed env L rs → ∀ i ∈ rs, JUo P n c ops K LS T fuel listed env L i
  | [], _, i, h => by cases h
  | j :: rs, hs, i, h => by
    rcases List.mem_cons.1 h with rfl | h
    · exact hs.1
    · exact JUs.get hs.2 i h
theorem JU.any {ops : Array Oper} {env : Env} {L LS : List Asr} {K : Kn} {T : Nat → Bool} {fuel : Nat} {listed : Array Bool} (rs : List Nat) (hrd : (Region.ready .any ops listed == rs) = true) (hne : rs.isEmpty = false) (hs : JUs P n c ops K LS T fuel listed env L rs) : JU P n c ops K LS T (fuel + 1) listed env L := by
  intro a w hr hst
  have hrd : Region.ready .any ops listed = rs := by simpa using hrd
  refine ⟨fun h => ?_, fun j hj => ?_⟩
  · rw [hrd] at h; subst h; cases hne
  · rw [hrd] at hj
    exact JUs.get hs j hj a w hr hst
theorem JUo.mv {ops : Array Oper} {env : Env} {L LS : List Asr} {K : Kn} {T : Nat → Bool} {i : Nat} {oi : Oper} {R : Value → List Asr → Prop} {d : Option Tmp} {fuel : Nat} {listed : Array Bool} (hi : ops[i]? = some oi) (h : MV P n c env L oi R) (hw : wantE ops env oi = some true)
    (hd : oi.dst = d) (hn : dstOk n d = true) (next : ∀ v L', R v L' → (T i = false → ∃ σ, nd σ = true ∧ Eng.pickL L' σ = some LS) ∧ JU P n c ops K LS T fuel (listed.setIfInBounds i true) (bnd d v env) L') : JUo P n c ops K LS T fuel listed env L i := by
  intro a w hr hs
  unfold wpOpIn
  simp only [hi, hr.wanted hw, if_true]
  subst hd
  refine mv_wpIn (h a w hr hs) fun v L' w' hR hs' => ?_
  obtain ⟨h1, h2⟩ := next v L' hR
  refine ⟨fun ht => ?_, h2 _ _ (hr.bnd hn v) hs'⟩
  obtain ⟨σ, hσ, hp⟩ := h1 ht
  exact hs'.pick σ hσ hp
theorem JUo.skip {ops : Array Oper} {env : Env} {L LS : List Asr} {K : Kn} {T : Nat → Bool} {i : Nat} {oi : Oper} {d : Option Tmp} {fuel : Nat} {listed : Array Bool} (hi : ops[i]? = some oi) (hw : wantE ops env oi = some false)
    (hd : oi.dst = d) (hn : dstOk n d = true) (σ : List Nat) (hσ : nd σ = true) (hLS : Eng.pickL L σ = some LS) (next : JU P n c ops K LS T fuel (listed.setIfInBounds i true) (bnd d undef env) L) : JUo P n c ops K LS T fuel listed env L i := by
  intro a w hr hs
  unfold wpOpIn
  simp only [hi, hr.wanted hw, Bool.false_eq_true, if_false]
  subst hd
  exact ⟨fun _ _ => trivial, fun _ => hs.pick σ hσ hLS, next _ _ (hr.bnd hn undef) hs⟩
theorem JU.ent {ops : Array Oper} {env : Env} {L L' LS : List Asr} {K : Kn} {T : Nat → Bool} {fuel : Nat} {listed : Array Bool} (h : ∀ w, Sat c L w → Sat c L' w) (next : JU P n c ops K LS T fuel listed env L') : JU P n c ops K LS T fuel listed env L := fun a w hr hs => next a w hr (h w hs)
theorem JUo.ent {ops : Array Oper} {env : Env} {L L' LS : List Asr} {K : Kn} {T : Nat → Bool} {fuel i : Nat} {listed : Array Bool} (h : ∀ w, Sat c L w → Sat c L' w) (next : JUo P n c ops K LS T fuel listed env L' i) : JUo P n c ops K LS T fuel listed env L i := fun a w hr hs => next a w hr (h w hs)
end
end Go.Eng
