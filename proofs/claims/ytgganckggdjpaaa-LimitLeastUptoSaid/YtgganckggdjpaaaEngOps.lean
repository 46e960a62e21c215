/- Judgements for operations, calls by contract, regions that draw their order. -/
import Derived.Test.YtgganckggdjpaaaEngCore
import Derived.KernelRfl
namespace Go.Eng
open Go

section
variable {P : Program} {n : Fsz} {c : Ctx}

/-! ### An operation within a round -/
theorem semAt_ok {r : Option Nat} {ρ : Operand → Value} {o : Oper} {w : World} (h : ∀ d w', (execOp ρ o).run P w ≠ .ok (.defer d) w') (h' : ∀ x w', (execOp ρ o).run P w ≠ .halt x w') : (o.semAt r ρ).run P w = (execOp ρ o).run P w := by
  by_cases hc : ∃ c, o.op = .defer c
  · obtain ⟨c, ho⟩ := hc
    exfalso
    have e : execOp ρ o = (do let d ← resolve ρ c o.type; pure (.defer d)) := by unfold execOp; rw [ho]
    rw [e] at h h'
    cases hr : (resolve ρ c o.type).run P w with
    | ok d w' => exact h d w' (by simp [Sem.run_bind, hr, Result.andThen])
    | halt x w' => exact h' x w' (by simp [Sem.run_bind, hr, Result.andThen])
  · rw [Oper.semAt_eq r ρ o fun c ho => hc ⟨c, ho⟩]
theorem semAt_put {r : Option Nat} {ops : Array Oper} (o : Oper) (hs : ∀ cs b, o.op ≠ .select cs b) (a : Act) (dst : Option Tmp) (v : Value) (h : ∀ d, dst = some d → d ∉ o.looksAt ops) : o.semAt r (a.put dst v).eval = o.semAt r a.eval := by
  have h1 := execOp_put (ops := ops) o hs a dst v h
  have h2 : ∀ x ∈ o.op.operands, (a.put dst v).eval x = a.eval x := fun x hx => Act.eval_put fun d hd hxd => h d hd (by
    subst hxd
    exact List.mem_append_left _ (List.mem_filterMap.2 ⟨.tmp d, by simpa using hx, rfl⟩))
  unfold Oper.semAt
  cases r with
  | none => exact h1
  | some l =>
    cases ho : o.op <;> simp only [] <;> first | exact h1 | skip
    rename_i c
    rw [resolve_congr c o.type fun x hx => h2 x (by rw [ho]; simpa [Op.operands] using hx)]

theorem callsIn_fen {r : Option Nat} {k : Nat} {f : FuncId} {args : Array Value} {w : World} {R : Ending → World → Prop} (h : Calls P f args w R) : CallsIn (fen r) k P f args w R := callsIn_wide.2 h

/-- The operation yields v and leaves the world alone. -/
def QV (P : Program) (n : Fsz) (c : Ctx) (env : Env) (L : List Asr) (o : Oper) (v : Value) : Prop :=
  ∀ a w, Rep n env a → Sat c L w → (execOp a.eval o).run P w = .ok (.value v) w

def mvUpon (P : Program) (c : Ctx) (R : Value → List Asr → Prop) : Result Next → Prop
  | .ok (.value v) w' => ∃ L', R v L' ∧ Sat c L' w'
  | .ok .skip w' => ∃ L', R undef L' ∧ Sat c L' w'
  | .ok (.enter f args) w' => Calls P f args w' fun e w'' => ∃ v L', e = .returned v ∧ R v L' ∧ Sat c L' w''
  | .ok (.round l f tmps assign body) w' => RoundIn (fen none) 0 P l f tmps assign body w' fun e w'' => ∃ v L', e = .returned v ∧ R v L' ∧ Sat c L' w''
  | _ => False
/-- The operation yields a value and new assertions. -/
def MV (P : Program) (n : Fsz) (c : Ctx) (env : Env) (L : List Asr) (o : Oper) (R : Value → List Asr → Prop) : Prop :=
  ∀ a w, Rep n env a → Sat c L w → mvUpon P c R ((execOp a.eval o).run P w)

theorem mv_wpIn {r : Option Nat} {R : Value → List Asr → Prop} {o : Oper} {a : Act} {w : World} {next : Act → World → Prop} {Q : Exit → Act → World → Prop} (h1 : mvUpon P c R ((execOp a.eval o).run P w))
    (fin : ∀ v L' w', R v L' → Sat c L' w' → next (a.put o.dst v) w') : o.wpIn (fen r) 0 P a w next Q := by
  refine ⟨fun _ _ => trivial, ?_⟩
  rw [semAt_ok (fun d w' h => by rw [h] at h1; exact h1) (fun x w' h => by rw [h] at h1; exact h1)]
  generalize (execOp a.eval o).run P w = r at h1 ⊢
  cases r with
  | halt x w' => exact h1.elim
  | ok x w' =>
    cases x <;> simp only [mvUpon] at h1 <;> simp only [Oper.uponIn]
    case value v =>
      obtain ⟨L', hR, hs'⟩ := h1
      exact fin v L' w' hR hs'
    case skip =>
      obtain ⟨L', hR, hs'⟩ := h1
      exact fin undef L' w' hR hs'
    case enter f args =>
      refine ⟨fun h => (by cases h), callsIn_fen (h1.mono fun e w'' he => ?_)⟩
      obtain ⟨v, L', rfl, hR, hs'⟩ := he
      exact fin v L' w'' hR hs'
    case round l f tmps assign body =>
      refine ⟨fun h => (by cases h), RoundIn.mono h1 fun e w'' he => ?_⟩
      obtain ⟨v, L', rfl, hR, hs'⟩ := he
      exact fin v L' w'' hR hs'
theorem qv_wpIn {r : Option Nat} {o : Oper} {a : Act} {w : World} {v : Value} {next : Act → World → Prop} {Q : Exit → Act → World → Prop} (h1 : (execOp a.eval o).run P w = .ok (.value v) w) (h : next (a.put o.dst v) w) : o.wpIn (fen r) 0 P a w next Q := by
  refine ⟨fun _ _ => trivial, ?_⟩
  rw [semAt_ok (fun d w' h => by rw [h1] at h; cases h) (fun x w' h => by rw [h1] at h; cases h), h1]
  exact h

def bnd : Option Tmp → Value → Env → Env
  | some d, v, e => (d, v) :: e
  | none, _, e => e
def dstOk (n : Fsz) : Option Tmp → Bool
  | some d => Nat.blt d n.n
  | none => true
theorem Rep.bnd {env : Env} {a : Act} (h : Rep n env a) {d : Option Tmp} (hd : dstOk n d = true) (v : Value) : Rep n (Eng.bnd d v env) (a.put d v) := by
  cases d with
  | none => exact h
  | some d => exact h.put (Nat.le_of_ble_eq_true hd) v

/-- Is it carried out? Its guard. -/
def wantE (ops : Array Oper) (env : Env) (o : Oper) : Option Bool :=
  match o.guard with
  | none => some true
  | some (j, want) => match (ops[j]?).bind (·.dst) with
    | some d => match get env d with
      | some (.bool b) => some (b == want)
      | some (.tuple _) => some false
      | _ => none
    | none => none
theorem Rep.wanted {env : Env} {a : Act} (h : Rep n env a) {ops : Array Oper} {o : Oper} {b : Bool} (hb : wantE ops env o = some b) : Region.wanted o (yielded ops a.tmps) = b := by
  unfold wantE at hb
  unfold Region.wanted
  split at hb
  · rename_i hg; rw [hg]; exact Option.some.inj hb
  · rename_i j want hg
    rw [hg]
    split at hb
    · rename_i d hd
      split at hb
      · rename_i b' hb'
        obtain rfl := Option.some.inj hb
        have := h.at_ d _ hb'
        simp only [yielded, hd, Option.bind_some, this]
        cases b' <;> cases want <;> rfl
      · rename_i b' hb'
        obtain rfl := Option.some.inj hb
        have := h.at_ d _ hb'
        simp only [yielded, hd, Option.bind_some, this]
        cases want <;> rfl
      · cases hb
    · cases hb

def JL (P : Program) (n : Fsz) (c : Ctx) (ops : Array Oper) (env : Env) (L : List Asr) (l : List Oper) (K : Kn) : Prop :=
  ∀ a w, Rep n env a → Sat c L w → wpListIn (fen n.rd) 0 P ops K.q l a w

theorem JC.region {env : Env} {L : List Asr} {K : Kn} {id : Nat} {l : List Oper} (h : JL P n c l.toArray env L l K) : JC P n c env L (.region id l.toArray false) K :=
  fun a w hr hs => wpIn_region_lit (h a w hr hs)
theorem JL.nil {ops : Array Oper} {env : Env} {L : List Asr} {K : Kn} (h : QJ n c env L K .normal) : JL P n c ops env L [] K := h
theorem JL.sub {ops : Array Oper} {env : Env} {L : List Asr} {l : List Oper} {K : Kn} (env' : Env) (L' : List Asr) (σ : List Nat) (he : Sub env' env) (hσ : nd σ = true) (hp : pickL L σ = some L') (h : JL P n c ops env' L' l K) : JL P n c ops env L l K :=
  fun a w hr hs => h a w (hr.sub he) (hs.pick σ hσ hp)
theorem JL.pickL {ops : Array Oper} {env : Env} {L : List Asr} {l : List Oper} {K : Kn} (σ : List Nat) {L' : List Asr} (hp : Eng.pickL L σ = some L') (hσ : nd σ = true) (h : JL P n c ops env L' l K) : JL P n c ops env L l K :=
  fun a w hr hs => h a w hr (hs.pick σ hσ hp)

theorem JL.val {ops : Array Oper} {env : Env} {L : List Asr} {o : Oper} {rest : List Oper} {K : Kn} {v : Value} {d : Nat} (h : QV P n c env L o v) (hw : wantE ops env o = some true) (hd : o.dst = some d) (hn : Nat.blt d n.n = true)
    (next : JL P n c ops ((d, v) :: env) L rest K) : JL P n c ops env L (o :: rest) K := by
  intro a w hr hs
  unfold wpListIn
  rw [if_pos (hr.wanted hw)]
  refine qv_wpIn (h a w hr hs) ?_
  rw [hd]
  exact next _ _ (hr.put (Nat.le_of_ble_eq_true hn) v) hs
theorem JL.mv {ops : Array Oper} {env : Env} {L : List Asr} {o : Oper} {rest : List Oper} {K : Kn} {R : Value → List Asr → Prop} {d : Option Tmp} (h : MV P n c env L o R) (hw : wantE ops env o = some true) (hd : o.dst = d) (hn : dstOk n d = true)
    (next : ∀ v L', R v L' → JL P n c ops (bnd d v env) L' rest K) : JL P n c ops env L (o :: rest) K := by
  intro a w hr hs
  unfold wpListIn
  rw [if_pos (hr.wanted hw)]
  subst hd
  exact mv_wpIn (h a w hr hs) fun v L' w' hR hs' => next v L' hR _ _ (hr.bnd hn v) hs'
theorem JL.skip {ops : Array Oper} {env : Env} {L : List Asr} {o : Oper} {rest : List Oper} {K : Kn} {d : Option Tmp} (hw : wantE ops env o = some false) (hd : o.dst = d) (hn : dstOk n d = true)
    (next : JL P n c ops (bnd d undef env) L rest K) : JL P n c ops env L (o :: rest) K := by
  intro a w hr hs
  unfold wpListIn
  rw [if_neg (by rw [hr.wanted hw]; simp), hd]
  exact ⟨fun _ _ => trivial, next _ _ (hr.bnd hn undef) hs⟩

/-! ### Regions that draw their order -/
theorem yieldsIf_wpOpIn {r : Option Nat} {ops : Array Oper} {Q : Exit → Act → World → Prop} {S : World → Prop} {i : Nat} {o : Oper} {v : Value} {a : Act} (hi : ops[i]? = some o) (hy : YieldsIf P ops S o v a)
    {K : Act → World → Prop} {w : World} (hS : S w) (h : K (a.put o.dst v) w) : wpOpIn (fen r) 0 P ops Q i K a w := by
  unfold Go.wpOpIn
  simp only [hi]
  rcases hy with ⟨hw, hv⟩ | ⟨hw, rfl⟩
  · simp only [hw, if_true]; exact qv_wpIn (hv w hS) h
  · simp only [hw, Bool.false_eq_true, if_false]; exact ⟨fun _ _ => trivial, h⟩
theorem wpOpIn_putIf {r : Option Nat} {ops : Array Oper} {Q : Exit → Act → World → Prop} {S : World → Prop} {j : Nat} {oi oj : Oper} {v : Value} (hj : ops[j]? = some oj) (hap : oi.apart ops oj = true)
    (hsi : ∀ cs b, oi.op ≠ .select cs b) (hsj : ∀ cs b, oj.op ≠ .select cs b)
    (hQ : ∀ c a w, Q (.panic c) (a.put oi.dst v) w → Q (.panic c) a w) {K : Act → World → Prop} {a : Act} {w : World}
    (hy : YieldsIf P ops S oi v a) (h : wpOpIn (fen r) 0 P ops Q j K (a.put oi.dst v) w) :
    wpOpIn (fen r) 0 P ops Q j (fun a' w' => YieldsIf P ops S oi v a' ∧ K (a'.put oi.dst v) w') a w := by
  obtain ⟨h1, h2, h3⟩ := Oper.apart_spec hap
  have keep : ∀ (a : Act), YieldsIf P ops S oi v a → ∀ u, YieldsIf P ops S oi v (a.put oj.dst u) := fun a hy u =>
    hy.of_same (execOp_put oi hsi a oj.dst u h3) (wanted_put oi a oj.dst u h3)
  have keepD : ∀ d, YieldsIf P ops S oi v { a with defers := d :: a.defers } := fun d => hy.of_same rfl rfl
  unfold wpOpIn at *
  simp only [hj] at *
  rw [wanted_put oj a oi.dst v h1] at h
  split
  · rename_i hw
    simp only [hw, if_true] at h
    unfold Oper.wpIn at *
    refine ⟨fun _ _ => trivial, ?_⟩
    have h := h.2
    rw [semAt_put oj hsj a oi.dst v h1] at h
    generalize (oj.semAt (fen r).round a.eval).run P w = x at *
    cases x with
    | ok n w' =>
      cases n <;> simp only [Oper.uponIn] at h ⊢
      case value u => exact ⟨keep a hy u, by rw [← Act.put_comm a v u h2]; exact h⟩
      case skip => exact ⟨keep a hy _, by rw [← Act.put_comm a v undef h2]; exact h⟩
      case defer d =>
        refine ⟨keep _ (keepD d) _, ?_⟩
        rw [← Act.put_comm _ v undef h2, ← Act.put_defers]
        exact h
      case enter f args =>
        refine ⟨h.1, CallsIn.mono h.2 fun e w'' he => ?_⟩
        cases e with
        | returned u => exact ⟨keep a hy u, by rw [← Act.put_comm a v u h2]; exact he⟩
        | panicked c => exact hQ _ _ _ he
        | outgrown => exact he
      case row row args => exact ⟨h.1, RowsIn.mono h.2 fun u w'' he => ⟨keep a hy u, by rw [← Act.put_comm a v u h2]; exact he⟩⟩
      case round l f tmps assign body =>
        refine ⟨h.1, RoundIn.mono h.2 fun e w'' he => ?_⟩
        cases e with
        | returned u => exact ⟨keep a hy u, by rw [← Act.put_comm a v u h2]; exact he⟩
        | panicked c => exact hQ _ _ _ he
        | outgrown => exact he
    | halt x w' =>
      cases x <;> simp only [Oper.uponIn] at h ⊢
      case panic u => exact hQ _ _ _ h
  · rename_i hw
    simp only [hw] at h
    exact ⟨fun _ _ => trivial, keep a hy _, by rw [← Act.put_comm a v undef h2]; exact h.2⟩

def wpAnyT (r : Option Nat) (P : Program) (md : Region.Mode) (ops : Array Oper) (Q : Exit → Act → World → Prop) (S : World → Prop) (T : Nat → Bool) : Nat → Array Bool → Act → World → Prop
  | 0, listed, a, w => Region.ready md ops listed = [] ∧ Q .normal a w
  | fuel + 1, listed, a, w =>
    (Region.ready md ops listed = [] → Q .normal a w) ∧
    ∀ i ∈ Region.ready md ops listed, wpOpIn (fen r) 0 P ops Q i (fun a' w' => (T i = false → S w') ∧ wpAnyT r P md ops Q S T fuel (listed.setIfInBounds i true) a' w') a w
theorem wpAny_of_T {r : Option Nat} {md : Region.Mode} {ops : Array Oper} {Q : Exit → Act → World → Prop} {S : World → Prop} {T : Nat → Bool} : ∀ (fuel : Nat) (listed : Array Bool) (a : Act) (w : World), wpAnyT r P md ops Q S T fuel listed a w → wpAnyIn (fen r) 0 P md ops Q fuel listed a w
  | 0, _, _, _, h => h
  | fuel + 1, _, _, _, h => ⟨h.1, fun i hi => wpOpIn_mono (fun a' w' h' => wpAny_of_T fuel _ a' w' h'.2) (h.2 i hi)⟩
theorem wpAnyT_first {r : Option Nat} {md : Region.Mode} {ops : Array Oper} {Q : Exit → Act → World → Prop} {S : World → Prop} {T : Nat → Bool} {i : Nat} {oi : Oper} {v : Value} (hi : ops[i]? = some oi) (hsel : ∀ (j : Nat) (o : Oper) cs b, ops[j]? = some o → o.op ≠ .select cs b)
    (hQ : ∀ c a w, Q (.panic c) (a.put oi.dst v) w → Q (.panic c) a w)
    (hT : ∀ j oj, ops[j]? = some oj → T j = true → ∃ e ∈ oj.after, Region.binds md e = true ∧ e.on = i) (hTi : T i = false) :
    ∀ (fuel : Nat) (listed : Array Bool) (a : Act) (w : World),
      (∀ j oj, ops[j]? = some oj → j ≠ i → listed.getD j true = false → (∀ e ∈ oj.after, Region.binds md e = true → e.on ≠ i) → oi.apart ops oj = true) →
      i ∈ Region.ready md ops listed → YieldsIf P ops S oi v a → S w →
      wpAnyT r P md ops Q S T fuel (listed.setIfInBounds i true) (a.put oi.dst v) w → wpAnyT r P md ops Q S T (fuel + 1) listed a w := by
  intro fuel
  induction fuel with
  | zero =>
    intro listed a w _ hr hy hS H
    refine ⟨fun h => (by rw [h] at hr; cases hr), fun j hj => ?_⟩
    by_cases hji : j = i
    · subst hji; exact yieldsIf_wpOpIn hi hy hS ⟨fun _ => hS, H⟩
    · have := ready_mono hj hji
      rw [H.1] at this
      cases this
  | succ fuel ih =>
    intro listed a w hfree hr hy hS H
    refine ⟨fun h => (by rw [h] at hr; cases hr), fun j hj => ?_⟩
    by_cases hji : j = i
    · subst hji; exact yieldsIf_wpOpIn hi hy hS ⟨fun _ => hS, H⟩
    · have h1 := H.2 j (ready_mono hj hji)
      obtain ⟨hjun, oj, hoj, hall⟩ := mem_ready.1 hj
      have hnot : ∀ e ∈ oj.after, Region.binds md e = true → e.on ≠ i := fun e he hb heq => by
        have h1 := hall e he hb
        have h0 := (mem_ready.1 hr).1
        rw [heq] at h1
        rcases Nat.lt_or_ge i listed.size with h' | h'
        · simp [h'] at h0 h1; rw [h0] at h1; cases h1
        · simp [Array.getElem?_eq_none h'] at h1
      have hTj : T j = false := by
        cases hb : T j with
        | false => rfl
        | true =>
          obtain ⟨e, he, hbind, hon⟩ := hT j oj hoj hb
          exact absurd hon (hnot e he hbind)
      have h2 := wpOpIn_putIf hoj (hfree j oj hoj hji hjun hnot) (fun cs b => hsel i oi cs b hi) (fun cs b => hsel j oj cs b hoj) hQ hy h1
      have hfree' : ∀ k ok, ops[k]? = some ok → k ≠ i → (listed.setIfInBounds j true).getD k true = false →
          (∀ e ∈ ok.after, Region.binds md e = true → e.on ≠ i) → oi.apart ops ok = true := fun k ok hk hki hun hno => by
        refine hfree k ok hk hki ?_ hno
        by_cases hjk : j = k
        · subst hjk; exact hjun
        · rw [getD_set_ne true hjk] at hun; exact hun
      refine wpOpIn_mono (fun a' w' h3 => ⟨h3.2.1, ih (listed.setIfInBounds j true) a' w' hfree' (ready_mono hr (Ne.symm hji)) h3.1 (h3.2.1 hTj) ?_⟩) h2
      rw [Array.setIfInBounds_comm _ _ hji]
      exact h3.2.2

/-- Number i may be taken first: as a Bool. -/
def takeB (ops : Array Oper) (T : Nat → Bool) (listed : Array Bool) (i : Nat) : Bool :=
  Region.free .any ops listed i && (Region.ready .any ops listed).contains i && !T i &&
    (List.range ops.size).all fun j => !T j || match ops[j]? with
      | some oj => oj.after.any fun e => Region.binds .any e && e.on == i
      | none => true
/-- A plan: which one is taken first (true), which one is the only one that may come up (false). -/
def planB (ops : Array Oper) (T : Nat → Bool) : List (Nat × Bool) → Array Bool → Bool
  | [], listed => (Region.ready .any ops listed).isEmpty
  | (i, true) :: p, listed => takeB ops T listed i && planB ops T p (listed.setIfInBounds i true)
  | (i, false) :: p, listed => (Region.ready .any ops listed == [i]) && planB ops T p (listed.setIfInBounds i true)

def JT (P : Program) (n : Fsz) (c : Ctx) (ops : Array Oper) (K : Kn) (LS : List Asr) (T : Nat → Bool) (plan : List (Nat × Bool)) (env : Env) (L : List Asr) : Prop :=
  ∀ listed a w, planB ops T plan listed = true → Rep n env a → Sat c L w → wpAnyT n.rd P .any ops K.q (Sat c LS) T plan.length listed a w

theorem JC.regionT {env : Env} {L : List Asr} {K : Kn} {id : Nat} {l : List Oper} (LS : List Asr) (T : Nat → Bool) (plan : List (Nat × Bool)) (hm : P.follows .mixedOrders = true) (hsel : Region.noSelect l.toArray = true)
    (hp : planB l.toArray T plan (Array.replicate l.toArray.size false) = true) (hlen : plan.length = l.toArray.size) (h : Region.noSelect l.toArray = true → JT P n c l.toArray K LS T plan env L) : JC P n c env L (.region id l.toArray true) K := by
  intro a w hr hs
  refine wpIn_region_any hm (wpAny_of_T _ _ _ _ (S := Sat c LS) (T := T) ?_)
  have := h hsel _ a _ hp hr (hs.same (w' := { w with drawn := w.drawn + 1 }) rfl rfl rfl rfl)
  rw [hlen] at this
  exact this
theorem JT.nil {ops : Array Oper} {env : Env} {L LS : List Asr} {K : Kn} {T : Nat → Bool} (h : QJ n c env L K .normal) : JT P n c ops K LS T [] env L := by
  intro listed a w hp hr hs
  simp only [planB, List.isEmpty_iff] at hp
  exact ⟨hp, h a w hr hs⟩
theorem JT.take {ops : Array Oper} {env : Env} {L LS : List Asr} {K : Kn} {T : Nat → Bool} {i : Nat} {oi : Oper} {v : Value} {d : Nat} {plan : List (Nat × Bool)} (hsel : Region.noSelect ops = true) (hi : ops[i]? = some oi) (h : QV P n c env LS oi v) (hw : wantE ops env oi = some true)
    (hd : oi.dst = some d) (hkp : K.kp d = false) (hn : Nat.blt d n.n = true) (σ : List Nat) (hσ : nd σ = true) (hLS : Eng.pickL L σ = some LS) (next : JT P n c ops K LS T plan ((d, v) :: env) L) : JT P n c ops K LS T ((i, true) :: plan) env L := by
  intro listed a w hp hr hs
  simp only [planB, takeB, Bool.and_eq_true, Bool.not_eq_true'] at hp
  obtain ⟨⟨⟨⟨hf, hrd⟩, hTi⟩, hT⟩, hp⟩ := hp
  refine wpAnyT_first hi (Region.noSelect_spec hsel) (fun ch a w h => K.pn ch a w _ _ hkp (by rwa [hd] at h)) (fun j oj hj ht => ?_) hTi _ _ _ _ (Region.free_spec hi hf) (by simpa using hrd) (.inl ⟨hr.wanted hw, fun w' hw' => h a w' hr hw'⟩) (hs.pick σ hσ hLS) ?_
  · have h1 := List.all_eq_true.1 hT j (List.mem_range.2 (Array.getElem?_eq_some_iff.1 hj).1)
    simp only [ht, hj, Bool.not_true, Bool.false_or] at h1
    obtain ⟨e, he, hb⟩ := Array.any_eq_true'.1 h1
    simp only [Bool.and_eq_true, beq_iff_eq] at hb
    exact ⟨e, he, hb⟩
  · rw [hd]
    exact next _ _ _ hp (hr.put (Nat.le_of_ble_eq_true hn) v) hs
theorem JT.skip {ops : Array Oper} {env : Env} {L LS : List Asr} {K : Kn} {T : Nat → Bool} {i : Nat} {oi : Oper} {d : Option Tmp} {plan : List (Nat × Bool)} (hsel : Region.noSelect ops = true) (hi : ops[i]? = some oi) (hw : wantE ops env oi = some false)
    (hd : oi.dst = d) (hkp : (d.map K.kp).getD false = false) (hn : dstOk n d = true) (σ : List Nat) (hσ : nd σ = true) (hLS : Eng.pickL L σ = some LS) (next : JT P n c ops K LS T plan (bnd d undef env) L) : JT P n c ops K LS T ((i, true) :: plan) env L := by
  intro listed a w hp hr hs
  simp only [planB, takeB, Bool.and_eq_true, Bool.not_eq_true'] at hp
  obtain ⟨⟨⟨⟨hf, hrd⟩, hTi⟩, hT⟩, hp⟩ := hp
  refine wpAnyT_first (v := undef) hi (Region.noSelect_spec hsel) (fun ch a w h => ?_) (fun j oj hj ht => ?_) hTi _ _ _ _ (Region.free_spec hi hf) (by simpa using hrd) (.inr ⟨hr.wanted hw, rfl⟩) (hs.pick σ hσ hLS) ?_
  · rw [hd] at h
    cases d with
    | none => exact h
    | some d => exact K.pn ch a w _ _ hkp h
  · have h1 := List.all_eq_true.1 hT j (List.mem_range.2 (Array.getElem?_eq_some_iff.1 hj).1)
    simp only [ht, hj, Bool.not_true, Bool.false_or] at h1
    obtain ⟨e, he, hb⟩ := Array.any_eq_true'.1 h1
    simp only [Bool.and_eq_true, beq_iff_eq] at hb
    exact ⟨e, he, hb⟩
  · rw [hd]
    exact next _ _ _ hp (hr.bnd hn undef) hs
/-- The only one that may come up. -/
theorem JT.only {ops : Array Oper} {env : Env} {L LS : List Asr} {K : Kn} {T : Nat → Bool} {i : Nat} {oi : Oper} {R : Value → List Asr → Prop} {d : Option Tmp} {plan : List (Nat × Bool)} (hi : ops[i]? = some oi) (h : MV P n c env L oi R) (hw : wantE ops env oi = some true)
    (hd : oi.dst = d) (hn : dstOk n d = true) (next : ∀ v L', R v L' → (T i = false → ∃ σ, nd σ = true ∧ Eng.pickL L' σ = some LS) ∧ JT P n c ops K LS T plan (bnd d v env) L') : JT P n c ops K LS T ((i, false) :: plan) env L := by
  intro listed a w hp hr hs
  simp only [planB, Bool.and_eq_true, beq_iff_eq] at hp
  obtain ⟨hrd, hp⟩ := hp
  refine ⟨fun h0 => (by rw [hrd] at h0; cases h0), fun j hj => ?_⟩
  rw [hrd] at hj
  obtain rfl : j = i := by simpa using hj
  unfold wpOpIn
  simp only [hi, hr.wanted hw, if_true]
  subst hd
  refine mv_wpIn (h a w hr hs) fun v L' w' hR hs' => ?_
  obtain ⟨h2, h3⟩ := next v L' hR
  exact ⟨fun ht => by obtain ⟨σ, hσ, hpk⟩ := h2 ht; exact hs'.pick σ hσ hpk, h3 _ _ _ hp (hr.bnd hn v) hs'⟩
theorem JT.skipO {ops : Array Oper} {env : Env} {L LS : List Asr} {K : Kn} {T : Nat → Bool} {i : Nat} {oi : Oper} {d : Option Tmp} {plan : List (Nat × Bool)} (hi : ops[i]? = some oi) (hw : wantE ops env oi = some false)
    (hd : oi.dst = d) (hn : dstOk n d = true) (σ : List Nat) (hσ : nd σ = true) (hLS : Eng.pickL L σ = some LS) (next : JT P n c ops K LS T plan (bnd d undef env) L) : JT P n c ops K LS T ((i, false) :: plan) env L := by
  intro listed a w hp hr hs
  simp only [planB, Bool.and_eq_true, beq_iff_eq] at hp
  obtain ⟨hrd, hp⟩ := hp
  refine ⟨fun h0 => (by rw [hrd] at h0; cases h0), fun j hj => ?_⟩
  rw [hrd] at hj
  obtain rfl : j = i := by simpa using hj
  unfold wpOpIn
  simp only [hi, hr.wanted hw, Bool.false_eq_true, if_false]
  subst hd
  exact ⟨fun _ _ => trivial, fun _ => hs.pick σ hσ hLS, next _ _ _ hp (hr.bnd hn undef) hs⟩

theorem wpAnyT_mono {r : Option Nat} {md : Region.Mode} {ops : Array Oper} {Q : Exit → Act → World → Prop} {S S' : World → Prop} {T : Nat → Bool} (hS : ∀ w, S' w → S w) : ∀ (fuel : Nat) (listed : Array Bool) (a : Act) (w : World), wpAnyT r P md ops Q S' T fuel listed a w → wpAnyT r P md ops Q S T fuel listed a w
  | 0, _, _, _, h => h
  | fuel + 1, _, _, _, h => ⟨h.1, fun i hi => wpOpIn_mono (fun a' w' h' => ⟨fun ht => hS _ (h'.1 ht), wpAnyT_mono hS fuel _ a' w' h'.2⟩) (h.2 i hi)⟩
/-- From here on more may be read. -/
theorem JT.grow {ops : Array Oper} {env : Env} {L LS : List Asr} {K : Kn} {T : Nat → Bool} {plan : List (Nat × Bool)} (LS' : List Asr) (σ : List Nat) (hσ : nd σ = true) (hp : Eng.pickL LS' σ = some LS) (next : JT P n c ops K LS' T plan env L) : JT P n c ops K LS T plan env L :=
  fun listed a w h hr hs => wpAnyT_mono (fun _ hw' => hw'.pick σ hσ hp) _ _ _ _ (next listed a w h hr hs)

/-! ### Contracts -/
def noFp : Fp := fun _ => False
def Ctr (P : Program) (vw : Bool) (f : FuncId) (args : List Value) (Lp : List Asr) (post : Value → List Asr → Prop) : Prop :=
  ∀ w0 F0 G0, Star Lp w0 F0 G0 → (∀ b, F0 b → ¬ G0 b) → (∀ b, F0 b ∨ G0 b → b < w0.heap.size) →
    Calls P f args.toArray w0 fun e w' => ∃ v L', e = .returned v ∧ post v L' ∧ Sat ⟨w0, F0, fun b => vw = true ∧ G0 b⟩ L' w'

def Asr.own (A : Asr) : Prop := ∀ w F G, A.p w F G → A.p w F noFp
def ownL : List Asr → Prop
  | [] => True
  | A :: L => A.own ∧ ownL L
theorem ownL.get {L : List Asr} (h : ownL L) : ∀ {i : Nat} {A : Asr}, L[i]? = some A → A.own := by
  induction L with
  | nil => intro i A hi; simp at hi
  | cons B L ih =>
    intro i A hi
    cases i with
    | zero => simp at hi; subst hi; exact h.1
    | succ i => simp at hi; exact ih h.2 hi

def argEnv : Nat → List Value → Env
  | _, [] => []
  | k, v :: vs => (k, v) :: argEnv (k + 1) vs
theorem get_argEnv : ∀ {vs : List Value} {k t : Nat} {v : Value}, get (argEnv k vs) t = some v → k ≤ t ∧ vs[t - k]? = some v
  | [], k, t, v, h => by simp [argEnv, get] at h
  | u :: vs, k, t, v, h => by
    simp only [argEnv, get] at h
    by_cases e : k = t
    · subst e
      simp at h
      subst h
      simp
    · rw [beq_false e] at h
      obtain ⟨h1, h2⟩ := get_argEnv h
      refine ⟨by omega, ?_⟩
      have : t - k = (t - (k + 1)) + 1 := by omega
      rw [this]
      simpa using h2
theorem Rep.enter (vs : List Value) (n : Nat) (hn : vs.length ≤ n) : Rep ⟨n, [], none⟩ (argEnv 0 vs) { tmps := vs.toArray ++ Array.replicate (n - vs.toArray.size) undef, defers := [] } := by
  refine ⟨by simp; omega, rfl, fun t v ht => ?_⟩
  obtain ⟨_, h2⟩ := get_argEnv ht
  simp only [Nat.sub_zero] at h2
  have hl := (List.getElem?_eq_some_iff.1 h2).1
  rw [Array.getElem?_append_left (by simpa using hl)]
  simpa using h2

/-- What is asked at a function's end. -/
def Kn.body (P : Program) (fn : Func) (c : Ctx) (vw : Bool) (post : Value → List Asr → Prop) : Kn :=
  ⟨bodyPost P fn fun e w' => ∃ v L', e = .returned v ∧ post v L' ∧ Sat ⟨c.w0, c.F0, fun b => vw = true ∧ c.G0 b⟩ L' w', fun _ => false, fun _ _ _ _ _ _ h => h⟩
theorem Ctr.intro {vw : Bool} {f : FuncId} {args : List Value} {Lp : List Asr} {post : Value → List Asr → Prop} {fn : Func} {code : Code} {n : Nat} {env : Env} (hf : P.funcs[f]? = some fn) (hb : fn.body = some code) (hn' : fn.ntmps = n) (hn : Nat.ble args.length n = true) (henv : argEnv 0 args = env)
    (h : ∀ c, JC P ⟨n, [], none⟩ c env Lp code (Kn.body P fn c vw post)) : Ctr P vw f args Lp post := by
  intro w0 F0 G0 hs hd hdom
  subst hn'
  subst henv
  refine calls_of_wp hf hb (wpIn_wide.1 <| h ⟨w0, F0, G0⟩ _ _ (Rep.enter args fn.ntmps (Nat.le_of_ble_eq_true hn)) ⟨F0, G0, hs, ⟨rfl, rfl, rfl, Nat.le_refl _, fun _ _ _ => rfl⟩, hd, hdom, fun b hb => .inl hb, fun b hb => .inl hb⟩)

def resOne (tmps : Array Value) : ResultVar → Sem Value
  | .tmp t => pure (tmps.getD t undef)
  | .cell a t => do loadVar t (← asAddr (tmps.getD a undef))
def packR : List Value → Value
  | [v] => v
  | vs => .tuple vs.toArray
/-- A result: what it is when the body ends. -/
def ResV (P : Program) (n : Fsz) (c : Ctx) (env : Env) (L : List Asr) (r : ResultVar) (v : Value) : Prop :=
  ∀ a w, Rep n env a → Sat c L w → (resOne a.tmps r).run P w = .ok v w
theorem ResV.tmp {env : Env} {L : List Asr} {t : Nat} {v : Value} (h : get env t = some v) : ResV P n c env L (.tmp t) v := fun a w hr _ => by
  have := hr.at_ t v h
  simp [resOne, this]
theorem ResV.cell {env : Env} {L : List Asr} {t : Nat} {T ty : TypeId} {v : Value} {d : Option Tmp} {ps : String} {af : Array Edge} {g : Option (Nat × Bool)} {ad : Addr} (h0 : get env t = some (.pointer (some ad))) (h : QV P n c env L ⟨d, .load T (.tmp t), ty, ps, af, g⟩ v) : ResV P n c env L (.cell t T) v := fun a w hr hs => by
  have h1 := h a w hr hs
  have h2 := hr.at_ t _ h0
  simp [execOp, Act.eval, h2, Instr.loadAt, Instr.sureAddr] at h1
  simp [resOne, h2, asAddr]
  cases h3 : (loadVar T ad).run P w with
  | halt x w' => simp [h3] at h1
  | ok x w' =>
    simp [h3] at h1
    rw [h1.1, h1.2]
def ResVs (P : Program) (n : Fsz) (c : Ctx) (env : Env) (L : List Asr) : List ResultVar → List Value → Prop
  | [], [] => True
  | r :: rs, v :: vs => ResV P n c env L r v ∧ ResVs P n c env L rs vs
  | _, _ => False
theorem ResVs.nil {env : Env} {L : List Asr} : ResVs P n c env L [] [] := trivial
theorem ResVs.cons {env : Env} {L : List Asr} {r : ResultVar} {v : Value} {rs : List ResultVar} {vs : List Value} (h : ResV P n c env L r v) (hs : ResVs P n c env L rs vs) : ResVs P n c env L (r :: rs) (v :: vs) := ⟨h, hs⟩
theorem results_run {env : Env} {a : Act} {L : List Asr} {w : World} (h : Rep n env a) (hs : Sat c L w) {fn : Func} {vs : List Value} (hl : Nat.ble fn.results.toList.length 3 = true) (e : ResVs P n c env L fn.results.toList vs) :
    (results fn a.tmps).run P w = .ok (packR vs) w := by
  have hl := Nat.le_of_ble_eq_true hl
  have hdef : ∀ rs : List ResultVar, fn.results = rs.toArray → results fn a.tmps = (do let vs ← rs.toArray.mapM (resOne a.tmps); pure (if h : vs.size = 1 then vs[0] else .tuple vs)) := fun rs hrs => by
    unfold results; rw [hrs]; rfl
  obtain ⟨rs, hrs⟩ : ∃ rs, fn.results.toList = rs := ⟨_, rfl⟩
  have hr : fn.results = rs.toArray := by rw [← hrs]
  rw [hdef rs hr]
  rw [hrs] at e hl
  match rs, vs, hl, e with
  | [], [], _, _ => simp [packR]
  | [r], [v], _, e =>
    have h1 := e.1 a w h hs
    simp [packR, h1]
  | [r, s], [v, u], _, e =>
    have h1 := e.1 a w h hs
    have h2 := e.2.1 a w h hs
    simp [packR, h1, h2]
  | [r, s, q], [v, u, x], _, e =>
    have h1 := e.1 a w h hs
    have h2 := e.2.1 a w h hs
    have h3 := e.2.2.1 a w h hs
    simp [packR, h1, h2, h3]
  | _ :: _ :: _ :: _ :: _, _, hl, _ => simp at hl

/-- The end of a body whose results own what they lead to. -/
theorem QJ.body {n : Nat} {env : Env} {L L' : List Asr} {fn : Func} {c : Ctx} {vw : Bool} {post : Value → List Asr → Prop} {e : Exit} {vs : List Value} (he : e = .ret ∨ e = .normal) (hl : Nat.ble fn.results.toList.length 3 = true) (hres : ResVs P ⟨n, [], none⟩ c env L fn.results.toList vs)
    (σ : List Nat) (hσ : nd σ = true) (hp : pickL L σ = some L') (hown : vw = true ∨ ownL L') (hpost : post (packR vs) L') : QJ ⟨n, [], none⟩ c env L (Kn.body P fn c vw post) e := by
  intro a w hr hs
  have hd := hr.defers
  obtain ⟨F, G, hst, hg⟩ := hs.pick σ hσ hp
  have key : Sat ⟨c.w0, c.F0, fun b => vw = true ∧ c.G0 b⟩ L' w := by
    cases vw with
    | true => exact ⟨F, G, hst, ⟨hg.frm.os, hg.frm.tape, hg.frm.output, hg.frm.size, hg.frm.block⟩, hg.dis, hg.dom, hg.own, fun b hb => (hg.shr b hb).imp (fun h => ⟨rfl, h⟩) id⟩
    | false =>
      have hown := hown.resolve_left (by simp)
      obtain ⟨Fs, h1, h2, h3⟩ := hst
      exact ⟨F, noFp, ⟨Fs, fun i A hi => hown.get hi _ _ _ (h1 i A hi), h2, h3⟩, ⟨hg.frm.os, hg.frm.tape, hg.frm.output, hg.frm.size, hg.frm.block⟩, fun _ _ h => h, fun b hb => hg.dom b (.inl (hb.resolve_right id)), hg.own, fun b hb => hb.elim⟩
  have hrun := results_run hr hs (fn := fn) hl hres
  rcases he with rfl | rfl <;> exact ⟨hd, _, hrun, _, _, rfl, hpost, key⟩

/-! ### A call by its contract -/
def evs (env : Env) : List Operand → Option (List Value)
  | [] => some []
  | x :: xs => match ev env x, evs env xs with
    | some v, some vs => some (v :: vs)
    | _, _ => none
theorem Rep.evals {env : Env} {a : Act} (h : Rep n env a) : ∀ {xs : List Operand} {vs : List Value}, evs env xs = some vs → xs.map a.eval = vs
  | [], vs, e => by simp only [evs] at e; obtain rfl := Option.some.inj e; rfl
  | x :: xs, vs, e => by
    simp only [evs] at e
    split at e
    · rename_i v vs' hv hvs
      obtain rfl := Option.some.inj e
      rw [List.map_cons, h.eval hv, h.evals hvs]
    · cases e
theorem run_call_func {P : Program} {ρ : Operand → Value} {w : World} {o : Oper} {f : FuncId} {xs : List Operand} {ts : Array TypeId} {fn : Func} (ho : o.op = .call ⟨.value (.func f), xs.toArray, ts⟩) (hρ : ρ (.func f) = .func (.func f) #[] #[])
    (hf : P.funcs[f]? = some fn) (hn : (fn.name == "runtime.NumGoroutine") = false) (hb : fn.body.isNone = false) : (execOp ρ o).run P w = .ok (.enter f (xs.map ρ).toArray) w := by
  have hn' : ¬ fn.name = "runtime.NumGoroutine" := by simpa using hn
  have hb' : ¬ fn.body = none := fun h => by rw [h] at hb; cases hb
  simp [execOp, ho, resolve, hρ, Deferred.ofValue, invoke, callFunc, hf, hn', hb']

/-- What can be read out of the rest of the assertions. -/
def Drv (vw : Bool) (Lr : List Asr) (A : Asr) : Prop := ∀ w F G, Star Lr w F G → A.p w noFp (fun b => (vw = false ∧ F b) ∨ G b)
def drvL (vw : Bool) (Lr : List Asr) : List Asr → Prop
  | [] => True
  | A :: L => Drv vw Lr A ∧ drvL vw Lr L
theorem drvL.star {vw : Bool} {Lr Lv : List Asr} (h : drvL vw Lr Lv) {w : World} {F G : Fp} (hs : Star Lr w F G) : Star Lv w noFp (fun b => (vw = false ∧ F b) ∨ G b) := by
  refine ⟨fun _ => noFp, fun i A hi => ?_, fun _ _ _ h => h, fun _ _ _ _ _ _ h => h.elim⟩
  induction Lv generalizing i with
  | nil => simp at hi
  | cons B L ih =>
    cases i with
    | zero => simp at hi; subst hi; exact h.1 w F G hs
    | succ i => simp at hi; exact ih h.2 i hi

theorem Sat.call {L Lo Lr Lv : List Asr} {w : World} {vw : Bool} {f : FuncId} {args : List Value} {post : Value → List Asr → Prop} (hspec : Ctr P vw f args (Lo ++ Lv) post) (hs : Sat c L w)
    (σo σr : List Nat) (hσ : nd (σo ++ σr) = true) (ho : pickL L σo = some Lo) (hr : pickL L σr = some Lr) (hv : drvL vw Lr Lv) :
    Calls P f args.toArray w fun e w' => ∃ v L', e = .returned v ∧ (∃ L1, post v L1 ∧ L' = L1 ++ Lr) ∧ Sat c L' w' := by
  obtain ⟨F, G, hst, hg⟩ := hs
  obtain ⟨F1, F2, s1, s2, hF1, hF2, hd⟩ := hst.split σo σr hσ ho hr
  have sv := hv.star s2
  have s1' : Star Lo w F1 (fun b => (vw = false ∧ F2 b) ∨ G b) := s1.mono (fun _ h => h) (fun _ h => .inr h)
  have spre : Star (Lo ++ Lv) w F1 (fun b => (vw = false ∧ F2 b) ∨ G b) := s1'.append sv (fun _ _ h => h) (fun _ h => h) (fun _ h => h.elim)
  refine (hspec w F1 _ spre (fun b h1 h2 => h2.elim (fun h => hd b h1 h.2) (fun h => hg.dis b (hF1 b h1) h)) (fun b h => h.elim (fun h => hg.dom b (.inl (hF1 b h))) (fun h => h.elim (fun h => hg.dom b (.inl (hF2 b h.2))) (fun h => hg.dom b (.inr h))))).mono ?_
  rintro e w' ⟨v, L', rfl, hpost, F', G', st', hg'⟩
  refine ⟨v, L' ++ Lr, rfl, ⟨L', hpost, rfl⟩, fun b => F' b ∨ F2 b, fun b => G' b ∨ G b, ?_, ?_⟩
  · have hkeep : ∀ b, F2 b ∨ G b → w'.heap[b]? = w.heap[b]? := fun b hb => hg'.frm.block b (hb.elim (fun h => hg.dom b (.inl (hF2 b h))) (fun h => hg.dom b (.inr h))) (fun h1 => hb.elim (fun h => hd b h1 h) (fun h => hg.dis b (hF1 b h1) h))
    refine (st'.mono (fun _ h => h) (fun _ h => .inl h)).append ((s2.loc hkeep).mono (fun _ h => h) (fun _ h => .inr h)) (fun b h1 h2 => ?_) (fun _ h => .inl h) (fun _ h => .inr h)
    rcases hg'.own b h1 with h | h
    · exact hd b h h2
    · have := hg.dom b (.inl (hF2 b h2)); simp only at h; omega
  · have hsh : ∀ b, G' b → (vw = true ∧ ((vw = false ∧ F2 b) ∨ G b)) ∨ F1 b ∨ w.heap.size ≤ b := hg'.shr
    refine ⟨⟨hg'.frm.os.trans hg.frm.os, hg'.frm.tape.trans hg.frm.tape, hg'.frm.output.trans hg.frm.output, Nat.le_trans hg.frm.size hg'.frm.size, fun b hb hn => ?_⟩, ?_, ?_, ?_, ?_⟩
    · have h1 : ¬ F1 b := fun h => (hg.own b (hF1 b h)).elim hn (fun h => by omega)
      have hsz := hg.frm.size
      exact (hg'.frm.block b (Nat.lt_of_lt_of_le hb hsz) h1).trans (hg.frm.block b hb hn)
    · rintro b (h | h) (k | k)
      · exact hg'.dis b h k
      · rcases hg'.own b h with h | h
        · exact hg.dis b (hF1 b h) k
        · have := hg.dom b (.inr k); simp only at h; omega
      · rcases hsh b k with k | k | k
        · rcases k.2 with k' | k'
          · rw [k.1] at k'; cases k'.1
          · exact hg.dis b (hF2 b h) k'
        · exact hd b k h
        · have := hg.dom b (.inl (hF2 b h)); omega
      · exact hg.dis b (hF2 b h) k
    · have hsz := hg'.frm.size
      rintro b ((h | h) | (h | h))
      · exact hg'.dom b (.inl h)
      · exact Nat.lt_of_lt_of_le (hg.dom b (.inl (hF2 b h))) hsz
      · exact hg'.dom b (.inr h)
      · exact Nat.lt_of_lt_of_le (hg.dom b (.inr h)) hsz
    · rintro b (h | h)
      · rcases hg'.own b h with h | h
        · exact hg.own b (hF1 b h)
        · exact .inr (Nat.le_trans hg.frm.size h)
      · exact hg.own b (hF2 b h)
    · rintro b (h | h)
      · rcases hsh b h with h | h | h
        · rcases h.2 with h' | h'
          · rw [h.1] at h'; cases h'.1
          · exact hg.shr b h'
        · exact .inr (hg.own b (hF1 b h))
        · exact .inr (.inr (Nat.le_trans hg.frm.size h))
      · exact hg.shr b h

theorem MV.call {env : Env} {L Lo Lr Lv : List Asr} {vw : Bool} {f : FuncId} {vals : List Value} {post : Value → List Asr → Prop} {o : Oper} {xs : List Operand} {ts : Array TypeId} {fn : Func} (hspec : Ctr P vw f vals (Lo ++ Lv) post)
    (ho : o.op = .call ⟨.value (.func f), xs.toArray, ts⟩) (hf : P.funcs[f]? = some fn) (hn : (fn.name == "runtime.NumGoroutine") = false) (hb : fn.body.isNone = false) (hx : evs env xs = some vals)
    (σo σr : List Nat) (hσ : nd (σo ++ σr) = true) (hlo : pickL L σo = some Lo) (hlr : pickL L σr = some Lr) (hv : drvL vw Lr Lv) : MV P n c env L o (fun v L' => ∃ L1, post v L1 ∧ L' = L1 ++ Lr) := by
  intro a w hr hs
  rw [run_call_func ho rfl hf hn hb, hr.evals hx]
  exact Sat.call hspec hs σo σr hσ hlo hlr hv
end
end Go.Eng
