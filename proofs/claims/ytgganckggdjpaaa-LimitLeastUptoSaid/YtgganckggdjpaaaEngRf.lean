/- A range over a function: the loop's record, its rounds, a call of yield, the function's end. -/
import Derived.Test.YtgganckggdjpaaaEngBld
import Derived.RangeFuncRecord
set_option linter.unusedVariables false
namespace Go.Eng
open Go

/-- A block that holds o. -/
def Asr.obj (b : Nat) (o : Obj) : Asr where
  p w F _ := F b ∧ w.heap[b]? = some o
  loc _ _ _ _ h hw := ⟨h.1, (hw b (.inl h.1)).trans h.2⟩
  mono _ _ _ _ h _ := h

theorem pick_cons (A : Asr) {L : List Asr} : ∀ {σ : List Nat} {R : List Asr}, pickL L σ = some R → pickL (A :: L) (σ.map (· + 1)) = some R
  | [], R, h => h
  | i :: σ, R, h => by
    simp only [pickL, List.map_cons, List.getElem?_cons_succ] at h ⊢
    split at h
    · rename_i B R' hB hR
      rw [hB, pick_cons A hR]
      exact h
    · cases h
theorem pick_all : ∀ (L : List Asr), pickL L (List.range L.length) = some L
  | [] => rfl
  | A :: L => by
    rw [List.length_cons, List.range_succ_eq_map]
    have h := pick_cons A (pick_all L)
    have e : (List.range L.length).map Nat.succ = (List.range L.length).map (· + 1) := rfl
    simp only [pickL, List.getElem?_cons_zero, e, h]
theorem nd_range (k : Nat) : nd (List.range k) = true := nd_of _ List.nodup_range
theorem nd_shift (k : Nat) : nd ((List.range k).map (· + 1) ++ [0]) = true := nd_of _ (by
  rw [List.nodup_append]
  refine ⟨List.pairwise_map.2 (List.nodup_range.imp (fun h e => h (by simpa using e))), by simp, fun a ha b hb => ?_⟩
  simp at ha hb
  omega)
theorem pick_snoc {A : Asr} : ∀ {L : List Asr} {σ : List Nat} {R : List Asr}, pickL L σ = some R → pickL (L ++ [A]) σ = some R
  | L, [], R, h => h
  | L, i :: σ, R, h => by
    simp only [pickL] at h ⊢
    split at h
    · rename_i B R' hB hR
      have hl := (List.getElem?_eq_some_iff.1 hB).1
      rw [List.getElem?_append_left hl, hB, pick_snoc hR]
      exact h
    · cases h
theorem pick_rot (A : Asr) (L : List Asr) : pickL (L ++ [A]) (L.length :: List.range L.length) = some (A :: L) := by
  have h := pick_snoc (A := A) (pick_all L)
  simp only [pickL]
  rw [List.getElem?_append_right (Nat.le_refl _), Nat.sub_self]
  simp only [List.getElem?_cons_zero, h]
theorem nd_rot (k : Nat) : nd (k :: List.range k) = true := nd_of _ (by simp [List.nodup_range])

section
variable {P : Program} {n : Fsz} {c : Ctx} {env : Env} {L : List Asr} {d : Option Tmp} {ty : TypeId} {ps : String} {af : Array Edge} {g : Option (Nat × Bool)}
variable {Z X : Type}
theorem RdN.none_nil {K : NE Z X} {sv : SlV} {zs : List Z} {xs : List X} (h : RdN c L K sv.v zs xs) (hn : sv.a = none) : ∀ w, Sat c L w → zs = [] ∧ xs = [] := fun w hs => by
  have h1 := h.rdg.none_nil hn w hs
  have h2 := (h w hs).1
  have h3 : (zs.zip xs).length = 0 := by rw [h1]; rfl
  rw [List.length_zip, h2, Nat.min_self] at h3
  exact ⟨List.eq_nil_of_length_eq_zero (h2.trans h3), List.eq_nil_of_length_eq_zero h3⟩

/-- What stands ahead is left alone. -/
theorem Sat.head {A : Asr} {w : World} (hs : Sat c (A :: L) w) : ∃ F1 G1, Star L w F1 G1 ∧ (∀ b, F1 b → ¬ G1 b) ∧ (∀ b, F1 b ∨ G1 b → b < w.heap.size) ∧ ∀ w' L', Sat ⟨w, F1, fun b => true = true ∧ G1 b⟩ L' w' → Sat c (A :: L') w' := by
  have h0 : drvL true [A] [] := trivial
  obtain ⟨F1, G1, h1, h2, h3, h4⟩ := hs.around (vw := true) ((List.range L.length).map (· + 1)) [0] (nd_shift _) (pick_cons A (pick_all L)) (Lr := [A]) rfl h0
  rw [List.append_nil] at h1
  exact ⟨F1, G1, h1, h2, h3, fun w' L' h => (h4 w' L' h).pick _ (nd_rot _) (pick_rot A L')⟩
theorem Sat.obj_get {l : Nat} {o : Obj} {w : World} (hs : Sat c (Asr.obj l o :: L) w) : w.heap[l]? = some o := by
  obtain ⟨F, G, h, _⟩ := hs.get (i := 0) rfl
  exact h.2
theorem Sat.putObj {l : Nat} {o o' : Obj} {w : World} (hs : Sat c (Asr.obj l o :: L) w) : Sat c (Asr.obj l o' :: L) (w.putObj l o') := by
  obtain ⟨F1, G, hp, hdom, hdis, hput⟩ := hs.zoom (i := 0) rfl
  have := hput (w.putObj l o') F1 (Asr.obj l o') ⟨hp.1, World.putObj_heap_same (hdom l hp.1)⟩ (fun b hb hn => World.putObj_heap_other (fun e => hn (e ▸ hp.1))) (fun b hb => .inl hb) (fun b hb => by rw [World.putObj_size]; exact hdom b hb) (by rw [World.putObj_size]; exact Nat.le_refl _) rfl rfl rfl
  simpa using this

/-! ### A round -/
def Kn.rbody (c : Ctx) (post : List Asr → Prop) : Kn :=
  ⟨fun e a w => e = .normal ∧ ∃ L', post L' ∧ Sat ⟨c.w0, c.F0, fun b => true = true ∧ c.G0 b⟩ L' w, fun _ => false, fun _ _ _ _ _ _ h => by cases h.1⟩
theorem QJ.rbody {L' : List Asr} {post : List Asr → Prop} (σ : List Nat) (hσ : nd σ = true) (hp : pickL L σ = some L') (hpost : post L') : QJ n c env L (Kn.rbody c post) .normal := fun a w _ hs =>
  ⟨rfl, L', hpost, hs.out (vw := true) σ hσ hp (.inl rfl)⟩
def CtrB (P : Program) (m : Nat) (env : Env) (body : Code) (Lp : List Asr) (post : List Asr → Prop) : Prop :=
  ∀ l c, JC P ⟨m, [], some l⟩ c env Lp body (Kn.rbody c post)

/-- What a call of yield does. -/
def CtrY (P : Program) (l : Nat) (vals : List Value) (Lp : List Asr) (post : List Asr → Prop) : Prop :=
  ∀ w0 F0 G0, Star Lp w0 F0 G0 → (∀ b, F0 b → ¬ G0 b) → (∀ b, F0 b ∨ G0 b → b < w0.heap.size) →
    ∃ f tmps assign body, (Instr.yield l vals.toArray).run P w0 = .ok (.round l f tmps assign body) w0 ∧
      RoundIn (fen none) 0 P l f tmps assign body w0 fun e w' => ∃ L', e = .returned (.bool true) ∧ post L' ∧ Sat ⟨w0, F0, fun b => true = true ∧ G0 b⟩ L' w'
theorem CtrY.intro {l m D f : Nat} {vals : List Value} {Lo : List Asr} {post : List Asr → Prop} {tmps : Array Value} {par : Array Tmp} {assign body : Code} {env0 env1 : Env}
    (hsz : vals.length = par.size) (hrep : Rep ⟨m, [], some l⟩ env0 { tmps := (par.zip vals.toArray).foldl (fun t (q : Tmp × Value) => t.setIfInBounds q.1 q.2) tmps, defers := [] })
    (hassign : ∀ (K : Act → World → Prop) a w, Rep ⟨m, [], some l⟩ env0 a → (∀ a', Rep ⟨m, [], some l⟩ env1 a' → K a' w) → assign.wpIn (fen (some l)) 0 P (Exit.then K (fun _ _ _ => False)) a w)
    (hbody : CtrB P m env1 body Lo post) :
    CtrY P l vals (Asr.obj l (.loop { state := .ready, pending := none, fn := f, tmps, params := par, assign, body, defers := D }) :: Lo)
      (fun L' => ∃ L1, post L1 ∧ L' = Asr.obj l (.loop { state := .ready, pending := none, fn := f, tmps, params := par, assign, body, defers := D }) :: L1) := by
  intro w0 F0 G0 hst hd hdom
  have hs : Sat ⟨w0, F0, G0⟩ _ w0 := ⟨F0, G0, hst, ⟨rfl, rfl, rfl, Nat.le_refl _, fun _ _ _ => rfl⟩, hd, hdom, fun b hb => .inl hb, fun b hb => .inl hb⟩
  have hl := hs.obj_get
  refine ⟨_, _, _, _, run_yield hl (by simpa using hsz), roundIn_of_wpIn trivial ?_⟩
  refine hassign _ _ w0 hrep fun a₁ hr₁ => ⟨_, run_beginRound hl rfl, ?_⟩
  have hs2 := hs.putObj (o' := .loop { state := .busy, pending := none, fn := f, tmps, params := par, assign, body, defers := D })
  obtain ⟨F1, G1, h1, h2, h3, h4⟩ := hs2.head
  have hb := hbody l ⟨_, F1, G1⟩ a₁ _ hr₁ ⟨F1, G1, h1, ⟨rfl, rfl, rfl, Nat.le_refl _, fun _ _ _ => rfl⟩, h2, h3, fun b hb => .inl hb, fun b hb => .inl hb⟩
  refine wpIn_mono hb ?_
  rintro e a w3 ⟨rfl, L', hpost, hs3⟩
  have hs4 := h4 w3 L' hs3
  have hl3 := hs4.obj_get
  refine ⟨_, _, run_endRound none hl3, _, rfl, ⟨L', hpost, rfl⟩, ?_⟩
  have hs5 := hs4.putObj (o' := .loop { state := .ready, pending := none, fn := f, tmps, params := par, assign, body, defers := D })
  obtain ⟨F, G, q1, q2⟩ := hs5
  exact ⟨F, G, q1, ⟨q2.frm.os, q2.frm.tape, q2.frm.output, q2.frm.size, q2.frm.block⟩, q2.dis, q2.dom, q2.own, fun b hb => (q2.shr b hb).imp (fun h => ⟨rfl, h⟩) id⟩
theorem MV.yield {Lo Lr Lv : List Asr} {l : Nat} {x : Operand} {xs : List Operand} {vals : List Value} {ts : Array TypeId} {post : List Asr → Prop} {o : Oper} (hspec : CtrY P l vals (Lo ++ Lv) post)
    (ho : o.op = .call ⟨.value x, xs.toArray, ts⟩) (hx : ev env x = some (.func (.yield l) #[] #[])) (hxs : evs env xs = some vals)
    (σo σr : List Nat) (hσ : nd (σo ++ σr) = true) (hlo : pickL L σo = some Lo) (hlr : pickL L σr = some Lr) (hv : drvL true Lr Lv) : MV P n c env L o (fun v L' => v = .bool true ∧ ∃ L1, post L1 ∧ L' = L1 ++ Lr) := by
  intro a w hr hs
  obtain ⟨F1, G1, h1, h2, h3, h4⟩ := hs.around (vw := true) σo σr hσ hlo hlr hv
  obtain ⟨f, tmps, assign, body, hy, hround⟩ := hspec w F1 G1 h1 h2 h3
  have he : (execOp a.eval o).run P w = .ok (.round l f tmps assign body) w := by
    have := hr.evals hxs
    simp [execOp, ho, resolve, hr.eval hx, Deferred.ofValue, invoke, this, hy]
  rw [he]
  refine RoundIn.mono hround fun e w' he => ?_
  obtain ⟨L', rfl, hp, hs'⟩ := he
  exact ⟨_, _, rfl, ⟨rfl, L', hp, rfl⟩, h4 w' L' hs'⟩

/-! ### The statement -/
theorem Sat.tail {A : Asr} {w : World} (hs : Sat c (A :: L) w) : Sat c L w := by
  obtain ⟨F, G, h, hg⟩ := hs
  exact ⟨F, G, h.tail, hg⟩
theorem drvL_cons {vw : Bool} {A : Asr} : ∀ {Lv : List Asr}, drvL vw L Lv → drvL vw (A :: L) Lv
  | [], _ => trivial
  | B :: Lv, h => ⟨fun w F G hst => h.1 w F G hst.tail, drvL_cons h.2⟩
def mark (D : Nat) : Deferred := { target := .collected D, args := #[] }
theorem JC.rangeFunc {m gf : Nat} {Lo Lr Lv : List Asr} {x : Operand} {par : Array Tmp} {assign body : Code} {K : Kn} {fn : Func} {caps : List Value} {post : List Asr → Prop}
    (hx : ev env x = some (.func (.func gf) #[] caps.toArray)) (hf : P.funcs[gf]? = some fn) (hn : (fn.name == "runtime.NumGoroutine") = false) (hb : fn.body.isNone = false)
    (σo σr : List Nat) (hσ : nd (0 :: σo ++ 1 :: σr) = true) (hlo : ∀ A B, pickL (A :: B :: L) (0 :: σo) = some (A :: Lo)) (hlr : ∀ A B, pickL (A :: B :: L) (1 :: σr) = some (B :: Lr)) (hv : drvL true Lr Lv)
    (hspec : ∀ (l D f : Nat) (tmps : Array Value), tmps.size = m → (∀ t v, get env t = some v → tmps[t]? = some v) → Ctr P true gf (.func (.yield l) #[] #[] :: caps)
      (Asr.obj l (.loop { state := .ready, pending := none, fn := f, tmps, params := par, assign, body, defers := D }) :: (Lo ++ Lv))
      (fun _ L' => ∃ L1, post L1 ∧ L' = Asr.obj l (.loop { state := .ready, pending := none, fn := f, tmps, params := par, assign, body, defers := D }) :: L1))
    (next : ∀ D L1, post L1 → QJ ⟨m, [mark D], none⟩ c env (L1 ++ Asr.obj D (.deferred (some [])) :: Lr) K .normal) : JC P ⟨m, [], none⟩ c env L (.rangeFunc x par assign body) K := by
  intro a w hr hs
  refine wpIn_rangeFunc fun fn' _ => ?_
  have hn' : ¬ fn.name = "runtime.NumGoroutine" := by simpa using hn
  have hb' : ¬ fn.body = none := fun h => by rw [h] at hb; cases hb
  have hs1 := hs.alloc (A := Asr.obj w.heap.size (.deferred (some []))) (.deferred (some [])) fun G => ⟨rfl, World.alloc_heap_new w _⟩
  have hs2 := hs1.alloc (A := Asr.obj (w.heap.size + 1) (.loop { state := .ready, pending := none, fn := fn', tmps := a.tmps, params := par, assign, body, defers := w.heap.size })) (.loop { state := .ready, pending := none, fn := fn', tmps := a.tmps, params := par, assign, body, defers := w.heap.size })
    fun G => ⟨by rw [World.size_alloc], by have := World.alloc_heap_new (w.alloc (.deferred (some []))) (.loop { state := .ready, pending := none, fn := fn', tmps := a.tmps, params := par, assign, body, defers := w.heap.size }); rwa [World.size_alloc] at this⟩
  obtain ⟨W1, hW1⟩ : ∃ W1, (w.alloc (.deferred (some []))).alloc (.loop { state := .ready, pending := none, fn := fn', tmps := a.tmps, params := par, assign, body, defers := w.heap.size }) = W1 := ⟨_, rfl⟩
  rw [hW1] at hs2
  refine ⟨w.heap.size + 1, [mark w.heap.size], W1, { target := .fn (.func gf) caps.toArray, args := #[.func (.yield (w.heap.size + 1)) #[] #[]] }, W1, gf, #[.func (.yield (w.heap.size + 1)) #[] #[]] ++ caps.toArray, W1, by rw [← hW1]; exact run_enterLoop_outer _ _ _ _ _, ?_, fun _ _ => trivial, ?_, (fun h => by cases h), ?_⟩
  · simp only [resolve, hr.eval hx]
    simp [go_sem]
  · simp [invoke, callFunc, hf, hn', hb']
  · have hc := Sat.call (hspec _ w.heap.size fn' a.tmps hr.size fun t v => hr.at_ t v) hs2 (0 :: σo) (1 :: σr) hσ (hlo _ _) (hlr _ _) (drvL_cons hv)
    have ea : (Value.func (.yield (w.heap.size + 1)) #[] #[] :: caps).toArray = #[.func (.yield (w.heap.size + 1)) #[] #[]] ++ caps.toArray := by simp
    rw [ea] at hc
    refine callsIn_fen (hc.mono ?_)
    rintro e w3 ⟨v, L', rfl, ⟨L1, ⟨L2, hp, rfl⟩, rfl⟩, hs3⟩
    have hs3 : Sat c (Asr.obj (w.heap.size + 1) _ :: (L2 ++ Asr.obj w.heap.size (.deferred (some [])) :: Lr)) w3 := hs3
    have hl := hs3.obj_get
    refine ⟨none, _, run_endLoop hl (by simp), ?_⟩
    refine next w.heap.size L2 hp _ _ ⟨hr.size, ?_, hr.at_⟩ (hs3.putObj).tail
    show [mark w.heap.size] ++ a.defers = [mark w.heap.size]
    rw [hr.defers]
    rfl

/-! ### The function's end, with a mark -/
def Kn.bodyM (P : Program) (fn : Func) (c : Ctx) (vw : Bool) (post : Value → List Asr → Prop) : Kn :=
  ⟨fun e a w => (e = .normal ∨ e = .ret) ∧ LeavesInM (fen none) 0 P fn a.tmps (fun e w' => ∃ v L', e = .returned v ∧ post v L' ∧ Sat ⟨c.w0, c.F0, fun b => vw = true ∧ c.G0 b⟩ L' w') a.defers .returning w, fun _ => false, fun _ _ _ _ _ _ h => by rcases h.1 with h | h <;> cases h⟩
theorem Ctr.introM {vw : Bool} {f : FuncId} {args : List Value} {Lp : List Asr} {post : Value → List Asr → Prop} {fn : Func} {code : Code} {n : Nat} {env : Env} (hf : P.funcs[f]? = some fn) (hb : fn.body = some code) (hn' : fn.ntmps = n) (hn : Nat.ble args.length n = true) (henv : argEnv 0 args = env)
    (h : ∀ c, JC P ⟨n, [], none⟩ c env Lp code (Kn.bodyM P fn c vw post)) : Ctr P vw f args Lp post := by
  intro w0 F0 G0 hs hd hdom
  subst hn'
  subst henv
  have h1 := (callsIn_of_wp_marks (F := fen none) (n := 0) (R := fun e w' => ∃ v L', e = .returned v ∧ post v L' ∧ Sat ⟨w0, F0, fun b => vw = true ∧ G0 b⟩ L' w') hf hb trivial (wpIn_mono (h ⟨w0, F0, G0⟩ _ _ (Rep.enter args fn.ntmps (Nat.le_of_ble_eq_true hn)) ⟨F0, G0, hs, ⟨rfl, rfl, rfl, Nat.le_refl _, fun _ _ _ => rfl⟩, hd, hdom, fun b hb => .inl hb, fun b hb => .inl hb⟩) (by rintro e a w ⟨rfl | rfl, hq⟩ <;> exact hq)))
  exact callsIn_wide.1 h1
theorem QJ.bodyM {n D : Nat} {L0 L' : List Asr} {fn : Func} {vw : Bool} {post : Value → List Asr → Prop} {e : Exit} {vs : List Value} (he : e = .normal ∨ e = .ret) (hl : Nat.ble fn.results.toList.length 3 = true) (hres : ResVs P ⟨n, [mark D], none⟩ c env (Asr.obj D (.deferred none) :: L0) fn.results.toList vs)
    (σ : List Nat) (hσ : nd σ = true) (hp : pickL L0 σ = some L') (hown : vw = true ∨ ownL L') (hpost : post (packR vs) L') : QJ ⟨n, [mark D], none⟩ c env (Asr.obj D (.deferred (some [])) :: L0) (Kn.bodyM P fn c vw post) e := by
  intro a w hr hs
  refine ⟨he, ?_⟩
  have hd := hr.defers
  rw [hd]
  have h1 := hs.obj_get
  have hs2 := hs.putObj (o' := .deferred none)
  have hrun := results_run hr hs2 (fn := fn) hl hres
  exact ⟨by simp, .inl ⟨D, _, rfl, run_takeDeferred h1, ⟨_, hrun, _, _, rfl, hpost, hs2.tail.out (vw := vw) σ hσ hp hown⟩⟩⟩

/-! ### A cut with a capacity, of a nested slice -/
theorem QV.slice3L {α : Type} {E : Enc α} {sv : SlV} {xs : List α} {x u y z : Operand} {t e : TypeId} {ag : Bool} {l h m : Int} (hrd : Rdg c L E sv.v xs) (ht : P.underlying t = some (.slice e)) (he : tk P e = some (ag, E.sz)) (hx : ev env x = some sv.v)
    (hlo : bndE env 0 (some u) = some l) (hhi : bndE env xs.length (some y) = some h) (hmx : bndE env xs.length (some z) = some m) (hb : 0 ≤ l ∧ l ≤ h ∧ h ≤ m ∧ m ≤ xs.length) : QV P n c env L ⟨d, .slice t x (some u) (some y) (some z), ty, ps, af, g⟩ (SlV.sub3 E.sz sv l h m).v := fun a w hr hs => by
  obtain ⟨A, ln, cp, hsv, hm, hmc, hm63, hA, _⟩ := hrd w hs
  obtain ⟨_, h2⟩ := run_isAgg (w := w) he
  obtain ⟨sa, sl, sc⟩ := sv
  simp only [Value.slice.injEq] at hsv
  obtain ⟨rfl, rfl, rfl⟩ := hsv
  have hB : ∀ (x : Operand) (i : Int) (y : Nat) (code : BoundsCode), (match ev env x with | some (.int _ i) => some i | _ => none) = some i → 0 ≤ i → i ≤ y → (Instr.sliceBound (a.eval x) y code).run P w = .ok i.toNat w := by
    intro x i y code he h0 hy
    split at he
    · rename_i k j hj
      obtain rfl := Option.some.inj he
      rw [hr.eval hj]
      simp [Instr.sliceBound, asIntOf, h0, hy]
    · cases he
  have key : (Instr.sliceBounds true sl sc (some (a.eval u)) (some (a.eval y)) (some (a.eval z))).run P w = .ok (l.toNat, h.toNat, m.toNat) w := by
    simp [Instr.sliceBounds, hB z m sc .slice3Acap hmx (by omega) (by omega), hB y h m.toNat .slice3B hhi (by omega) (by omega), hB u l h.toNat .slice3C hlo (by omega) (by omega)]
  simp [execOp, Instr.sliceAt, run_underlying ht, hr.eval hx, Instr.slice, key, h2, SlV.sub3]
theorem QV.slice3N {K : NE Z X} {sv : SlV} {zs : List Z} {xs : List X} {x u y z : Operand} {t e : TypeId} {ag : Bool} {l h m : Int} (hrd : RdN c L K sv.v zs xs) (ht : P.underlying t = some (.slice e)) (he : tk P e = some (ag, K.E.sz)) (hx : ev env x = some sv.v)
    (hlo : bndE env 0 (some u) = some l) (hhi : bndE env xs.length (some y) = some h) (hmx : bndE env xs.length (some z) = some m) (hb : 0 ≤ l ∧ l ≤ h ∧ h ≤ m ∧ m ≤ xs.length) : QV P n c env L ⟨d, .slice t x (some u) (some y) (some z), ty, ps, af, g⟩ (SlV.sub3 K.E.sz sv l h m).v := fun a w hr hs => by
  have hl := zip_len (hrd w hs).1
  exact QV.slice3L hrd.rdg ht he hx hlo (by rw [hl]; exact hhi) (by rw [hl]; exact hmx) (by rw [hl]; exact hb) a w hr hs
theorem Drv.sub3N {b : Bool} {K : NE Z X} {sv : SlV} {zs : List Z} {xs : List X} {lo hi mx : Int} (hd : Drv b L (Asr.vn K sv.v zs xs)) (h : 0 ≤ lo ∧ lo ≤ hi ∧ hi ≤ mx ∧ mx ≤ xs.length) : Drv b L (Asr.vn K (SlV.sub3 K.E.sz sv lo hi mx).v (subL zs lo hi) (subL xs lo hi)) := fun w F G hs => by
  obtain ⟨h1, h2, h3⟩ := hd w F G hs
  refine ⟨?_, ?_, fun j z x hz hx => ?_⟩
  · rw [subL_length zs lo hi (by omega), subL_length xs lo hi (by omega)]
  · rw [zip_sub]
    have hlen := zip_len h1
    refine ⟨rds_sub3 h2.1 (by rw [hlen]; exact h), fun ad m cp e h0 => ?_⟩
    obtain ⟨A, l, cp', hsv, hm, hmc, hm63, hAA, hc⟩ := h2.1
    obtain ⟨sa, sl, sc⟩ := sv
    simp only [Value.slice.injEq] at hsv
    obtain ⟨rfl, rfl, rfl⟩ := hsv
    simp only [SlV.sub3, Value.slice.injEq] at e
    obtain ⟨e1, rfl, rfl⟩ := e
    split at e1
    · subst e1; exact h2.2 ad sl sc rfl (by omega)
    · cases sa with
      | none => simp at e1
      | some a0 => simp at e1; subst e1; rw [add_block]; exact h2.2 a0 sl sc rfl (by omega)
  · simp only [subL, List.getElem?_take, List.getElem?_drop] at hz hx
    by_cases hj : j < hi.toNat - lo.toNat
    · rw [if_pos hj] at hz hx
      exact h3 _ z x hz hx
    · rw [if_neg hj] at hz
      cases hz

/-! ### What stands ahead of a round: one parameter, one assignment -/
theorem Rep.par1 {tmps : Array Value} {m t : Nat} {r : Option Nat} {v : Value} (hsz : tmps.size = m) (hat : ∀ t v, get env t = some v → tmps[t]? = some v) (ht : Nat.blt t m = true) :
    Rep ⟨m, [], r⟩ ((t, v) :: env) { tmps := ((#[t] : Array Tmp).zip [v].toArray).foldl (fun u (q : Tmp × Value) => u.setIfInBounds q.1 q.2) tmps, defers := [] } := by
  have h0 : Rep ⟨m, [], r⟩ env { tmps, defers := [] } := ⟨hsz, rfl, hat⟩
  have h1 := h0.put (d := t) (Nat.le_of_ble_eq_true ht) v
  have e : ((#[t] : Array Tmp).zip [v].toArray).foldl (fun u (q : Tmp × Value) => u.setIfInBounds q.1 q.2) tmps = tmps.setIfInBounds t v := by simp
  rw [e]
  exact h1
theorem assign1 {l m t t' id : Nat} {env0 : Env} {v : Value} (h0 : get env0 t = some v) (ht : Nat.blt t' m = true) (K : Act → World → Prop) (a : Act) (w : World) (hr : Rep ⟨m, [], some l⟩ env0 a) (hk : ∀ a', Rep ⟨m, [], some l⟩ ((t', v) :: env0) a' → K a' w) :
    (Code.region id #[⟨some t', .assign (.tmp t), ty, ps, #[], none⟩] false).wpIn (fen (some l)) 0 P (Exit.then K (fun _ _ _ => False)) a w := by
  refine wpIn_region_lit (l := [_]) ?_
  unfold wpListIn
  rw [if_pos (hr.wanted (b := true) rfl)]
  have he := hr.eval (x := .tmp t) h0
  refine qv_wpIn (v := v) (by simp [execOp, he]) ?_
  exact hk _ (hr.put (Nat.le_of_ble_eq_true ht) v)
end
end Go.Eng
