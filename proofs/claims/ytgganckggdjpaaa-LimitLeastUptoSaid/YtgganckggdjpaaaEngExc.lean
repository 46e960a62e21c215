/- Functions that may panic with a value of their own; a deferred function that recovers. -/
import Derived.Test.YtgganckggdjpaaaEngOwn
import Derived.Recover
import Derived.WalkSmall
set_option linter.unusedVariables false
namespace Go.Eng
open Go

section
variable {P : Program} {n : Fsz} {c : Ctx} {env : Env} {L : List Asr} {d : Option Tmp} {ty : TypeId} {ps : String} {af : Array Edge} {g : Option (Nat × Bool)}
abbrev pnc (v : Value) : List PanicEntry := [{ v, recovered := false }]
/-- How it ends: with a value, or thrown. -/
def ends (b : Bool) (v : Value) : Ending := match b with | true => .panicked (pnc v) | false => .returned v
def mvUponE (P : Program) (c : Ctx) (R : Bool → Value → List Asr → Prop) : Result Next → Prop
  | .ok (.value v) w' => ∃ L', R false v L' ∧ Sat c L' w'
  | .ok .skip w' => ∃ L', R false undef L' ∧ Sat c L' w'
  | .ok (.enter f args) w' => Calls P f args w' fun e w'' => ∃ b v L', e = ends b v ∧ R b v L' ∧ Sat c L' w''
  | .halt (.panic v) w' => ∃ L', R true v L' ∧ Sat c L' w'
  | _ => False
def MVE (P : Program) (n : Fsz) (c : Ctx) (env : Env) (L : List Asr) (o : Oper) (R : Bool → Value → List Asr → Prop) : Prop :=
  ∀ a w, Rep n env a → Sat c L w → mvUponE P c R ((execOp a.eval o).run P w)

theorem mvE_wpIn {R : Bool → Value → List Asr → Prop} {o : Oper} {a : Act} {w : World} {next : Act → World → Prop} {Q : Exit → Act → World → Prop} (h1 : mvUponE P c R ((execOp a.eval o).run P w))
    (fin : ∀ v L' w', R false v L' → Sat c L' w' → next (a.put o.dst v) w') (pan : ∀ v L' w', R true v L' → Sat c L' w' → Q (.panic (pnc v)) a w') : o.wpIn (fen none) 0 P a w next Q := by
  refine ⟨fun _ _ => trivial, ?_⟩
  show o.uponIn _ _ P a next Q ((execOp a.eval o).run P w)
  generalize (execOp a.eval o).run P w = r at h1 ⊢
  cases r with
  | halt x w' =>
    cases x <;> simp only [mvUponE] at h1 <;> simp only [Oper.uponIn]
    case panic v =>
      obtain ⟨L', hR, hs'⟩ := h1
      exact pan v L' w' hR hs'
  | ok x w' =>
    cases x <;> simp only [mvUponE] at h1 <;> simp only [Oper.uponIn]
    case value v =>
      obtain ⟨L', hR, hs'⟩ := h1
      exact fin v L' w' hR hs'
    case skip =>
      obtain ⟨L', hR, hs'⟩ := h1
      exact fin undef L' w' hR hs'
    case enter f args =>
      refine ⟨fun h => (by cases h), callsIn_fen (h1.mono fun e w'' he => ?_)⟩
      obtain ⟨b, v, L', rfl, hR, hs'⟩ := he
      cases b with
      | false => exact fin v L' w'' hR hs'
      | true => exact pan v L' w'' hR hs'
theorem JL.mvE {ops : Array Oper} {o : Oper} {rest : List Oper} {K : Kn} {R : Bool → Value → List Asr → Prop} {d : Option Tmp} (h : MVE P n c env L o R) (hw : wantE ops env o = some true) (hd : o.dst = d) (hn : dstOk n d = true)
    (next : ∀ v L', R false v L' → JL P n c ops (bnd d v env) L' rest K) (pan : ∀ v L', R true v L' → QJ n c env L' K (.panic (pnc v))) (hrd : n.rd = none := by rfl) : JL P n c ops env L (o :: rest) K := by
  intro a w hr hs
  unfold wpListIn
  rw [if_pos (hr.wanted hw)]
  subst hd
  rw [hrd]
  refine mvE_wpIn (h a w hr hs) (fun v L' w' hR hs' => ?_) fun v L' w' hR hs' => pan v L' hR a w' hr hs'
  have := next v L' hR _ _ (hr.bnd hn v) hs'
  rwa [hrd] at this
theorem JL.mvR {ops : Array Oper} {o : Oper} {rest : List Oper} {K : Kn} {R : Bool → Value → List Asr → Prop} {d : Option Tmp} (h : MVE P n c env L o R) (hw : wantE ops env o = some true) (hd : o.dst = d) (hn : dstOk n d = true)
    (no : ∀ v L', ¬ R true v L') (next : ∀ v L', R false v L' → JL P n c ops (bnd d v env) L' rest K) (hrd : n.rd = none := by rfl) : JL P n c ops env L (o :: rest) K := JL.mvE h hw hd hn next (fun v L' hR => absurd hR (no v L')) hrd
theorem JL.mvP {ops : Array Oper} {o : Oper} {rest : List Oper} {K : Kn} {R : Bool → Value → List Asr → Prop} {d : Option Tmp} (h : MVE P n c env L o R) (hw : wantE ops env o = some true) (hd : o.dst = d) (hn : dstOk n d = true)
    (no : ∀ v L', ¬ R false v L') (next : ∀ v L', R true v L' → QJ n c env L' K (.panic (pnc v))) (hrd : n.rd = none := by rfl) : JL P n c ops env L (o :: rest) K := JL.mvE h hw hd hn (fun v L' hR => absurd hR (no v L')) next hrd
/-- The only one that may come up, in a region that draws: it may throw. -/
theorem JT.onlyE {ops : Array Oper} {LS : List Asr} {K : Kn} {T : Nat → Bool} {i : Nat} {oi : Oper} {R : Bool → Value → List Asr → Prop} {d : Option Tmp} {plan : List (Nat × Bool)} (hi : ops[i]? = some oi) (h : MVE P n c env L oi R) (hw : wantE ops env oi = some true)
    (hd : oi.dst = d) (hn : dstOk n d = true) (pan : ∀ v L', R true v L' → QJ n c env L' K (.panic (pnc v))) (next : ∀ v L', R false v L' → (T i = false → ∃ σ, nd σ = true ∧ Eng.pickL L' σ = some LS) ∧ JT P n c ops K LS T plan (bnd d v env) L') (hrd' : n.rd = none := by rfl) : JT P n c ops K LS T ((i, false) :: plan) env L := by
  intro listed a w hp hr hs
  simp only [planB, Bool.and_eq_true, beq_iff_eq] at hp
  obtain ⟨hrd, hp⟩ := hp
  refine ⟨fun h0 => (by rw [hrd] at h0; cases h0), fun j hj => ?_⟩
  rw [hrd] at hj
  obtain rfl : j = i := by simpa using hj
  unfold wpOpIn
  simp only [hi, hr.wanted hw, if_true]
  subst hd
  rw [hrd']
  refine mvE_wpIn (h a w hr hs) (fun v L' w' hR hs' => ?_) fun v L' w' hR hs' => pan v L' hR a w' hr hs'
  obtain ⟨h2, h3⟩ := next v L' hR
  have h3 := h3 _ _ _ hp (hr.bnd hn v) hs'
  rw [hrd'] at h3
  exact ⟨fun ht => by obtain ⟨σ, hσ, hpk⟩ := h2 ht; exact hs'.pick σ hσ hpk, h3⟩
theorem JT.onlyR {ops : Array Oper} {LS : List Asr} {K : Kn} {T : Nat → Bool} {i : Nat} {oi : Oper} {R : Bool → Value → List Asr → Prop} {d : Option Tmp} {plan : List (Nat × Bool)} (hi : ops[i]? = some oi) (h : MVE P n c env L oi R) (hw : wantE ops env oi = some true)
    (hd : oi.dst = d) (hn : dstOk n d = true) (no : ∀ v L', ¬ R true v L') (next : ∀ v L', R false v L' → (T i = false → ∃ σ, nd σ = true ∧ Eng.pickL L' σ = some LS) ∧ JT P n c ops K LS T plan (bnd d v env) L') (hrd' : n.rd = none := by rfl) : JT P n c ops K LS T ((i, false) :: plan) env L := JT.onlyE hi h hw hd hn (fun v L' hR => absurd hR (no v L')) next hrd'
theorem JT.onlyP {ops : Array Oper} {LS : List Asr} {K : Kn} {T : Nat → Bool} {i : Nat} {oi : Oper} {R : Bool → Value → List Asr → Prop} {d : Option Tmp} {plan : List (Nat × Bool)} (hi : ops[i]? = some oi) (h : MVE P n c env L oi R) (hw : wantE ops env oi = some true)
    (hd : oi.dst = d) (hn : dstOk n d = true) (no : ∀ v L', ¬ R false v L') (next : ∀ v L', R true v L' → QJ n c env L' K (.panic (pnc v))) (hrd' : n.rd = none := by rfl) : JT P n c ops K LS T ((i, false) :: plan) env L := JT.onlyE hi h hw hd hn next (fun v L' hR => absurd hR (no v L')) hrd'
theorem MVE.panic {x : Operand} {t : TypeId} {v : Value} (hx : ev env x = some (.iface t v)) : MVE P n c env L ⟨d, .panic x, ty, ps, af, g⟩ (fun b u L' => b = true ∧ u = .iface t v ∧ L' = L) := fun a w hr hs => by
  simp only [execOp, hr.eval hx, Sem.run_bind, run_panic_iface, mvUponE]
  exact ⟨L, ⟨trivial, rfl, rfl⟩, hs⟩

/-! ### Contracts of functions that may throw -/
def CtrE (P : Program) (vw : Bool) (f : FuncId) (args : List Value) (Lp : List Asr) (post : Bool → Value → List Asr → Prop) : Prop :=
  ∀ w0 F0 G0, Star Lp w0 F0 G0 → (∀ b, F0 b → ¬ G0 b) → (∀ b, F0 b ∨ G0 b → b < w0.heap.size) →
    Calls P f args.toArray w0 fun e w' => ∃ b v L', e = ends b v ∧ post b v L' ∧ Sat ⟨w0, F0, fun b => vw = true ∧ G0 b⟩ L' w'
def Kn.bodyE (P : Program) (fn : Func) (c : Ctx) (vw : Bool) (post : Bool → Value → List Asr → Prop) : Kn :=
  ⟨bodyPost P fn fun e w' => ∃ b v L', e = ends b v ∧ post b v L' ∧ Sat ⟨c.w0, c.F0, fun b => vw = true ∧ c.G0 b⟩ L' w', fun _ => false, fun _ _ _ _ _ _ h => h⟩
theorem CtrE.intro {vw : Bool} {f : FuncId} {args : List Value} {Lp : List Asr} {post : Bool → Value → List Asr → Prop} {fn : Func} {code : Code} {n : Nat} {env : Env} (hf : P.funcs[f]? = some fn) (hb : fn.body = some code) (hn' : fn.ntmps = n) (hn : Nat.ble args.length n = true) (henv : argEnv 0 args = env)
    (h : ∀ c, JC P ⟨n, [], none⟩ c env Lp code (Kn.bodyE P fn c vw post)) : CtrE P vw f args Lp post := by
  intro w0 F0 G0 hs hd hdom
  subst hn'
  subst henv
  exact calls_of_wp hf hb (wpIn_wide.1 <| h ⟨w0, F0, G0⟩ _ _ (Rep.enter args fn.ntmps (Nat.le_of_ble_eq_true hn)) ⟨F0, G0, hs, ⟨rfl, rfl, rfl, Nat.le_refl _, fun _ _ _ => rfl⟩, hd, hdom, fun b hb => .inl hb, fun b hb => .inl hb⟩)
theorem Sat.out {c : Ctx} {L L' : List Asr} {w : World} {vw : Bool} (hs : Sat c L w) (σ : List Nat) (hσ : nd σ = true) (hp : pickL L σ = some L') (hown : vw = true ∨ ownL L') : Sat ⟨c.w0, c.F0, fun b => vw = true ∧ c.G0 b⟩ L' w := by
  obtain ⟨F, G, hst, hg⟩ := hs.pick σ hσ hp
  cases vw with
  | true => exact ⟨F, G, hst, ⟨hg.frm.os, hg.frm.tape, hg.frm.output, hg.frm.size, hg.frm.block⟩, hg.dis, hg.dom, hg.own, fun b hb => (hg.shr b hb).imp (fun h => ⟨rfl, h⟩) id⟩
  | false =>
    have hown := hown.resolve_left (by simp)
    obtain ⟨Fs, h1, h2, h3⟩ := hst
    exact ⟨F, noFp, ⟨Fs, fun i A hi => hown.get hi _ _ _ (h1 i A hi), h2, h3⟩, ⟨hg.frm.os, hg.frm.tape, hg.frm.output, hg.frm.size, hg.frm.block⟩, fun _ _ h => h, fun b hb => hg.dom b (.inl (hb.resolve_right id)), hg.own, fun b hb => hb.elim⟩
theorem QJ.bodyE {n : Nat} {L' : List Asr} {fn : Func} {vw : Bool} {post : Bool → Value → List Asr → Prop} {e : Exit} {vs : List Value} (he : e = .ret ∨ e = .normal) (hl : Nat.ble fn.results.toList.length 3 = true) (hres : ResVs P ⟨n, [], none⟩ c env L fn.results.toList vs)
    (σ : List Nat) (hσ : nd σ = true) (hp : pickL L σ = some L') (hown : vw = true ∨ ownL L') (hpost : post false (packR vs) L') : QJ ⟨n, [], none⟩ c env L (Kn.bodyE P fn c vw post) e := by
  intro a w hr hs
  have hd := hr.defers
  have hrun := results_run hr hs (fn := fn) hl hres
  have key := hs.out (vw := vw) σ hσ hp hown
  rcases he with rfl | rfl <;> exact ⟨hd, _, hrun, false, _, _, rfl, hpost, key⟩
theorem QJ.bodyP {n : Nat} {L' : List Asr} {fn : Func} {vw : Bool} {post : Bool → Value → List Asr → Prop} {v : Value}
    (σ : List Nat) (hσ : nd σ = true) (hp : pickL L σ = some L') (hown : vw = true ∨ ownL L') (hpost : post true v L') : QJ ⟨n, [], none⟩ c env L (Kn.bodyE P fn c vw post) (.panic (pnc v)) := by
  intro a w hr hs
  exact ⟨hr.defers, true, v, _, rfl, hpost, hs.out (vw := vw) σ hσ hp hown⟩
/-- What a call leaves alone. -/
theorem Sat.around {L Lo Lr Lv : List Asr} {w : World} {vw : Bool} (hs : Sat c L w) (σo σr : List Nat) (hσ : nd (σo ++ σr) = true) (ho : pickL L σo = some Lo) (hr : pickL L σr = some Lr) (hv : drvL vw Lr Lv) :
    ∃ F1 G1, Star (Lo ++ Lv) w F1 G1 ∧ (∀ b, F1 b → ¬ G1 b) ∧ (∀ b, F1 b ∨ G1 b → b < w.heap.size) ∧ ∀ w' L', Sat ⟨w, F1, fun b => vw = true ∧ G1 b⟩ L' w' → Sat c (L' ++ Lr) w' := by
  obtain ⟨F, G, hst, hg⟩ := hs
  obtain ⟨F1, F2, s1, s2, hF1, hF2, hd⟩ := hst.split σo σr hσ ho hr
  have sv := hv.star s2
  have s1' : Star Lo w F1 (fun b => (vw = false ∧ F2 b) ∨ G b) := s1.mono (fun _ h => h) (fun _ h => .inr h)
  have spre : Star (Lo ++ Lv) w F1 (fun b => (vw = false ∧ F2 b) ∨ G b) := s1'.append sv (fun _ _ h => h) (fun _ h => h) (fun _ h => h.elim)
  refine ⟨F1, _, spre, fun b h1 h2 => h2.elim (fun h => hd b h1 h.2) (fun h => hg.dis b (hF1 b h1) h), fun b h => h.elim (fun h => hg.dom b (.inl (hF1 b h))) (fun h => h.elim (fun h => hg.dom b (.inl (hF2 b h.2))) (fun h => hg.dom b (.inr h))), ?_⟩
  rintro w' L' ⟨F', G', st', hg'⟩
  refine ⟨fun b => F' b ∨ F2 b, fun b => G' b ∨ G b, ?_, ?_⟩
  · have hkeep : ∀ b, F2 b ∨ G b → w'.heap[b]? = w.heap[b]? := fun b hb => hg'.frm.block b (hb.elim (fun h => hg.dom b (.inl (hF2 b h))) (fun h => hg.dom b (.inr h))) (fun h1 => hb.elim (fun h => hd b h1 h) (fun h => hg.dis b (hF1 b h1) h))
    refine (st'.mono (fun _ h => h) (fun _ h => .inl h)).append ((s2.loc hkeep).mono (fun _ h => h) (fun _ h => .inr h)) (fun b h1 h2 => ?_) (fun _ h => .inl h) (fun _ h => .inr h)
    rcases hg'.own b h1 with h | h
    · exact hd b h h2
    · have := hg.dom b (.inl (hF2 b h2)); simp only at h; omega
  · have hsh : ∀ b, G' b → (vw = true ∧ ((vw = false ∧ F2 b) ∨ G b)) ∨ F1 b ∨ w.heap.size ≤ b := hg'.shr
    refine ⟨⟨hg'.frm.os.trans hg.frm.os, hg'.frm.tape.trans hg.frm.tape, hg'.frm.output.trans hg.frm.output, Nat.le_trans hg.frm.size hg'.frm.size, fun b hb hn => ?_⟩, ?_, ?_, ?_, ?_⟩
    · have h1 : ¬ F1 b := fun h => (hg.own b (hF1 b h)).elim hn (fun h => by omega)
      have hsz := hg.frm.size
      exact (hg'.frm.block b (Nat.lt_of_lt_of_le hb hsz) h1).trans (hg.frm.block b hb hn)
    · rintro b (h | h) (k | k)
      · exact hg'.dis b h k
      · rcases hg'.own b h with h | h
        · exact hg.dis b (hF1 b h) k
        · have := hg.dom b (.inr k); simp only at h; omega
      · rcases hsh b k with k | k | k
        · rcases k.2 with k' | k'
          · rw [k.1] at k'; cases k'.1
          · exact hg.dis b (hF2 b h) k'
        · exact hd b k h
        · have := hg.dom b (.inl (hF2 b h)); omega
      · exact hg.dis b (hF2 b h) k
    · have hsz := hg'.frm.size
      rintro b ((h | h) | (h | h))
      · exact hg'.dom b (.inl h)
      · exact Nat.lt_of_lt_of_le (hg.dom b (.inl (hF2 b h))) hsz
      · exact hg'.dom b (.inr h)
      · exact Nat.lt_of_lt_of_le (hg.dom b (.inr h)) hsz
    · rintro b (h | h)
      · rcases hg'.own b h with h | h
        · exact hg.own b (hF1 b h)
        · exact .inr (Nat.le_trans hg.frm.size h)
      · exact hg.own b (hF2 b h)
    · rintro b (h | h)
      · rcases hsh b h with h | h | h
        · rcases h.2 with h' | h'
          · rw [h.1] at h'; cases h'.1
          · exact hg.shr b h'
        · exact .inr (hg.own b (hF1 b h))
        · exact .inr (.inr (Nat.le_trans hg.frm.size h))
      · exact hg.shr b h
theorem Sat.callE {Lo Lr Lv : List Asr} {w : World} {vw : Bool} {f : FuncId} {args : List Value} {post : Bool → Value → List Asr → Prop} (hspec : CtrE P vw f args (Lo ++ Lv) post) (hs : Sat c L w)
    (σo σr : List Nat) (hσ : nd (σo ++ σr) = true) (ho : pickL L σo = some Lo) (hr : pickL L σr = some Lr) (hv : drvL vw Lr Lv) :
    Calls P f args.toArray w fun e w' => ∃ b v L', e = ends b v ∧ (∃ L1, post b v L1 ∧ L' = L1 ++ Lr) ∧ Sat c L' w' := by
  obtain ⟨F1, G1, h1, h2, h3, h4⟩ := hs.around σo σr hσ ho hr hv
  refine (hspec w F1 G1 h1 h2 h3).mono ?_
  rintro e w' ⟨b, v, L', rfl, hpost, hsat⟩
  exact ⟨b, v, L' ++ Lr, rfl, ⟨L', hpost, rfl⟩, h4 w' L' hsat⟩
theorem MVE.call {Lo Lr Lv : List Asr} {vw : Bool} {f : FuncId} {vals : List Value} {post : Bool → Value → List Asr → Prop} {o : Oper} {xs : List Operand} {ts : Array TypeId} {fn : Func} (hspec : CtrE P vw f vals (Lo ++ Lv) post)
    (ho : o.op = .call ⟨.value (.func f), xs.toArray, ts⟩) (hf : P.funcs[f]? = some fn) (hn : (fn.name == "runtime.NumGoroutine") = false) (hb : fn.body.isNone = false) (hx : evs env xs = some vals)
    (σo σr : List Nat) (hσ : nd (σo ++ σr) = true) (hlo : pickL L σo = some Lo) (hlr : pickL L σr = some Lr) (hv : drvL vw Lr Lv) : MVE P n c env L o (fun b v L' => ∃ L1, post b v L1 ∧ L' = L1 ++ Lr) := by
  intro a w hr hs
  rw [run_call_func ho rfl hf hn hb, hr.evals hx]
  exact Sat.callE hspec hs σo σr hσ hlo hlr hv

/-! ### What is deferred -/
def dfr (f : FuncId) (caps : List Value) : Deferred := { target := .fn (.func f) caps.toArray, args := #[] }
theorem JL.defer {ops : Array Oper} {rest : List Oper} {K : Kn} {m : Nat} {ds : List Deferred} {x : Operand} {f : FuncId} {caps : List Value} {o : Oper} (ho : o.op = .defer ⟨.value x, #[], #[]⟩) (hd : o.dst = none) (hx : ev env x = some (.func (.func f) #[] caps.toArray)) (hw : wantE ops env o = some true)
    (next : JL P ⟨m, dfr f caps :: ds, none⟩ c ops env L rest K) : JL P ⟨m, ds, none⟩ c ops env L (o :: rest) K := by
  intro a w hr hs
  unfold wpListIn
  rw [if_pos (hr.wanted hw)]
  have h : (execOp a.eval o).run P w = .ok (.defer (dfr f caps)) w := by
    simp [execOp, ho, resolve, hr.eval hx, Deferred.ofValue, dfr]
  refine ⟨fun _ _ => trivial, ?_⟩
  show o.uponIn _ _ P a _ _ ((execOp a.eval o).run P w)
  rw [h, Oper.uponIn_defer, hd]
  exact next _ _ ⟨hr.size, by simp [Act.put, hr.defers], hr.at_⟩ hs
def modeIn : Option Value → FrameMode
  | none => .returning
  | some v => .panicking (pnc v)
def modeOut : Option Value → FrameMode
  | none => .returning
  | some v => .panicking [{ v, recovered := true }]
def recV : Option Value → Value
  | none => .nilIface
  | some v => v
/-- A deferred function that recovers, called where its caller returns, or throws a value. -/
def CtrD (P : Program) (f : FuncId) (caps : List Value) (pv : Option Value) (Lp : List Asr) (post : List Asr → Prop) : Prop :=
  ∀ w0 F0 G0, Star Lp w0 F0 G0 → (∀ b, F0 b → ¬ G0 b) → (∀ b, F0 b ∨ G0 b → b < w0.heap.size) →
    CallsD P f caps.toArray (modeIn pv) w0 fun e u' w' => (∃ v, e = .returned v) ∧ u' = modeOut pv ∧ ∃ L', post L' ∧ Sat ⟨w0, F0, fun b => false = true ∧ G0 b⟩ L' w'
theorem CtrD.intro {f : FuncId} {caps : List Value} {pv : Option Value} {Lp : List Asr} {post : List Asr → Prop} {fn : Func} {rest : Code} {n id t : Nat} {o : Oper} {ts : Array TypeId} {env : Env} (hf : P.funcs[f]? = some fn) (hb : fn.body = some (.seq (.region id #[o] false) rest)) (hn' : fn.ntmps = n) (hn : Nat.ble caps.length n = true) (henv : argEnv 0 caps = env)
    (ho : o.op = .call ⟨.builtin .recover, #[], ts⟩) (hdst : o.dst = some t) (hg : o.guard = none) (hts : ts = #[]) (ht : Nat.blt t n = true) (h : ∀ c, JC P ⟨n, [], none⟩ c ((t, recV pv) :: env) Lp rest (Kn.body P fn c false (fun _ L' => post L'))) : CtrD P f caps pv Lp post := by
  intro w0 F0 G0 hs hd hdom
  subst hn'
  subst henv
  subst hts
  refine callsD_of_wpS hf hb fun c₀ cs hm => ?_
  refine wpS_seq (wpS_region ?_)
  have hrep := (Rep.enter caps fn.ntmps (Nat.le_of_ble_eq_true hn)).put (Nat.le_of_ble_eq_true ht) (recV pv)
  have hrun : ∀ ρ, (execOp ρ o).run P w0 = .ok .recover w0 := fun ρ => by
    have hb : ∀ ty, builtin .recover #[] ty #[] #[] = pure .recover := fun _ => rfl
    simp [execOp, ho, resolve, invoke, hb]
  have hwant : ∀ tmps, Region.wanted o (yielded #[o] tmps) = true := fun tmps => by unfold Region.wanted; rw [hg]
  have fin : ∀ cs', cs' = { c₀ with mode := modeOut pv } :: cs → rest.wpS P (bodyPostS P fn c₀ cs fun e u' w' => (∃ v, e = .returned v) ∧ u' = modeOut pv ∧ ∃ L', post L' ∧ Sat ⟨w0, F0, fun b => false = true ∧ G0 b⟩ L' w')
      (Act.put { tmps := caps.toArray ++ Array.replicate (fn.ntmps - caps.toArray.size) undef, defers := [] } (some t) (recV pv)) cs' w0 := by
    rintro cs' rfl
    have h1 := h ⟨w0, F0, G0⟩ _ w0 hrep ⟨F0, G0, hs, ⟨rfl, rfl, rfl, Nat.le_refl _, fun _ _ _ => rfl⟩, hd, hdom, fun b hb => .inl hb, fun b hb => .inl hb⟩
    refine wpS_of_wp (wp_mono (wpIn_wide.1 h1) fun e a' w' hq => ?_)
    cases e with
    | normal =>
      obtain ⟨h2, v, h3, v', L', h4, h5, h6⟩ := hq
      exact ⟨h2, _, rfl, v, h3, ⟨v, rfl⟩, rfl, L', h5, h6⟩
    | ret =>
      obtain ⟨h2, v, h3, v', L', h4, h5, h6⟩ := hq
      exact ⟨h2, _, rfl, v, h3, ⟨v, rfl⟩, rfl, L', h5, h6⟩
    | panic ch =>
      obtain ⟨_, v, L', h4, _⟩ := hq
      cases h4
    | exit id => exact hq.elim
    | goto l => exact hq.elim
    | outgrown =>
      obtain ⟨v, L', h4, _⟩ := hq
      cases h4
  show wpOpsS P #[o] _ [0] _ _ _
  unfold wpOpsS
  simp only [List.getElem?_toArray, List.getElem?_cons_zero, hwant, if_true, hrun, hdst]
  cases pv with
  | none =>
    have hrc : recoverD (c₀ :: cs) = none := by obtain ⟨f1, f2, f3, f4, f5, f6, f7⟩ := c₀; simp only [modeIn] at hm; subst hm; rfl
    rw [hrc]
    exact fin _ (by cases c₀; simp only [modeIn] at hm; subst hm; rfl)
  | some v =>
    have hrc : recoverD (c₀ :: cs) = some (v, { c₀ with mode := .panicking [{ v, recovered := true }] } :: cs) := by obtain ⟨f1, f2, f3, f4, f5, f6, f7⟩ := c₀; simp only [modeIn] at hm; subst hm; rfl
    rw [hrc]
    exact fin _ rfl
/-- A body whose deferred functions are called behind it. -/
def slotOf : ResultVar → Nat
  | .tmp t => t
  | .cell a _ => a
def keepR (fn : Func) (d : Nat) : Bool := fn.results.toList.any (fun r => slotOf r == d)
theorem results_keep {fn : Func} {tmps tmps' : Array Value} (h : ∀ r ∈ fn.results.toList, tmps.getD (slotOf r) undef = tmps'.getD (slotOf r) undef) : results fn tmps = results fn tmps' := by
  have e : ∀ r ∈ fn.results.toList, resOne tmps r = resOne tmps' r := fun r hr => by
    have := h r hr
    cases r with
    | tmp t => simp only [slotOf] at this; simp only [resOne, this]
    | cell a t => simp only [slotOf] at this; simp only [resOne, this]
  have hdef : ∀ tmps, results fn tmps = (do let vs ← fn.results.mapM (resOne tmps); pure (if h : vs.size = 1 then vs[0] else .tuple vs)) := fun tmps => rfl
  rw [hdef, hdef]
  congr 1
  obtain ⟨rs, hrs⟩ : ∃ rs, fn.results = rs := ⟨_, rfl⟩
  rw [hrs] at e ⊢
  obtain ⟨l⟩ := rs
  simp only [List.mapM_toArray] at e ⊢
  congr 1
  clear hrs h
  induction l with
  | nil => rfl
  | cons r l ih =>
    simp only [List.mapM_cons]
    rw [e r (by simp), ih (fun s hs => e s (by simp at hs ⊢; exact .inr hs))]
theorem leaves_keep {fn : Func} {tmps tmps' : Array Value} {R : Ending → World → Prop} (h : results fn tmps = results fn tmps') : ∀ (ds : List Deferred) (u : FrameMode) (w : World), Leaves P fn tmps R ds u w → Leaves P fn tmps' R ds u w
  | [], .returning, w, hl => by unfold Leaves at hl ⊢; rw [← h]; exact hl
  | [], .panicking ch, w, hl => hl
  | [], .run, w, hl => hl
  | dd :: ds, u, w, hl => by
    unfold Leaves at hl ⊢
    obtain ⟨h1, fv, cap, f, args, h2, h3, h4⟩ := hl
    refine ⟨h1, fv, cap, f, args, h2, h3, h4.mono fun e u' w' he => ?_⟩
    cases e with
    | returned v => exact leaves_keep h ds _ _ he
    | panicked ch => exact leaves_keep h ds _ _ he
    | outgrown => exact he
def Kn.bodyD (P : Program) (fn : Func) (c : Ctx) (vw : Bool) (post : Value → List Asr → Prop) : Kn :=
  ⟨bodyPostD P fn fun e w' => ∃ v L', e = .returned v ∧ post v L' ∧ Sat ⟨c.w0, c.F0, fun b => vw = true ∧ c.G0 b⟩ L' w', keepR fn, fun ch a w d v hk h => by
    refine leaves_keep (results_keep fun r hr => ?_) _ _ _ h
    have hne : slotOf r ≠ d := fun e => by
      have : keepR fn d = true := List.any_eq_true.2 ⟨r, hr, by simp [e]⟩
      rw [hk] at this; cases this
    simp only [Act.put]
    rw [Array.getD_eq_getD_getElem?, Array.getD_eq_getD_getElem?, Array.getElem?_setIfInBounds_ne (Ne.symm hne)]⟩
theorem Ctr.introD {vw : Bool} {f : FuncId} {args : List Value} {Lp : List Asr} {post : Value → List Asr → Prop} {fn : Func} {code : Code} {n : Nat} {env : Env} (hf : P.funcs[f]? = some fn) (hb : fn.body = some code) (hn' : fn.ntmps = n) (hn : Nat.ble args.length n = true) (henv : argEnv 0 args = env)
    (h : ∀ c, JC P ⟨n, [], none⟩ c env Lp code (Kn.bodyD P fn c vw post)) : Ctr P vw f args Lp post := by
  intro w0 F0 G0 hs hd hdom
  subst hn'
  subst henv
  exact calls_of_wp_defers hf hb (wpIn_wide.1 <| h ⟨w0, F0, G0⟩ _ _ (Rep.enter args fn.ntmps (Nat.le_of_ble_eq_true hn)) ⟨F0, G0, hs, ⟨rfl, rfl, rfl, Nat.le_refl _, fun _ _ _ => rfl⟩, hd, hdom, fun b hb => .inl hb, fun b hb => .inl hb⟩)
/-- Nothing was deferred yet. -/
theorem QJ.bodyD0 {m : Nat} {fn : Func} {vw : Bool} {post : Value → List Asr → Prop} {e : Exit} (he : e = .ret ∨ e = .normal) (h : QJ ⟨m, [], none⟩ c env L (Kn.body P fn c vw post) e) : QJ ⟨m, [], none⟩ c env L (Kn.bodyD P fn c vw post) e := by
  intro a w hr hs
  have h1 := h a w hr hs
  have hd : a.defers = [] := hr.defers
  rcases he with rfl | rfl
  · obtain ⟨_, v, h2, h3⟩ := h1
    show Leaves P fn a.tmps _ a.defers .returning w
    rw [hd]
    exact ⟨v, h2, h3⟩
  · obtain ⟨_, v, h2, h3⟩ := h1
    show Leaves P fn a.tmps _ a.defers .returning w
    rw [hd]
    exact ⟨v, h2, h3⟩
/-- One that recovers was deferred. -/
theorem QJ.bodyD1 {m f : Nat} {fn fg : Func} {caps : List Value} {vw : Bool} {post : Value → List Asr → Prop} {postD : List Asr → Prop} {e : Exit} {Lo Lr : List Asr} (pv : Option Value) (he : (match pv with | none => e = .ret ∨ e = .normal | some v => e = .panic (pnc v))) (hD : CtrD P f caps pv Lo postD)
    (hf : P.funcs[f]? = some fg) (hn : (fg.name == "runtime.NumGoroutine") = false) (hb : fg.body.isNone = false)
    (σo σr : List Nat) (hσ : nd (σo ++ σr) = true) (hlo : pickL L σo = some Lo) (hlr : pickL L σr = some Lr) (next : ∀ L1, postD L1 → QJ ⟨m, [], none⟩ c env (L1 ++ Lr) (Kn.body P fn c vw post) .ret) : QJ ⟨m, [dfr f caps], none⟩ c env L (Kn.bodyD P fn c vw post) e := by
  intro a w hr hs
  have hn' : ¬ fg.name = "runtime.NumGoroutine" := by simpa using hn
  have hb' : ¬ fg.body = none := fun h => by rw [h] at hb; cases hb
  have hdf : a.defers = [dfr f caps] := hr.defers
  have main : Leaves P fn a.tmps (fun e w' => ∃ v L', e = .returned v ∧ post v L' ∧ Sat ⟨c.w0, c.F0, fun b => vw = true ∧ c.G0 b⟩ L' w') a.defers (modeIn pv) w := by
    rw [hdf]
    obtain ⟨F1, G1, h1, h2, h3, h4⟩ := hs.around (vw := false) (Lv := []) σo σr hσ hlo hlr trivial
    rw [List.append_nil] at h1
    refine leaves_cons (by cases pv <;> simp [modeIn]) (f := f) (args := caps.toArray) (by simp [invoke, callFunc, hf, hn', hb']) ((hD w F1 G1 h1 h2 h3).mono ?_)
    rintro e u' w' ⟨⟨v, rfl⟩, rfl, L', hp, hsat⟩
    have hset : settle (modeOut pv) = .returning := by cases pv <;> rfl
    have hs2 := h4 w' L' hsat
    obtain ⟨_, v2, h5, h6⟩ := next L' hp { a with defers := [] } w' ⟨hr.size, rfl, hr.at_⟩ hs2
    show Leaves P fn a.tmps _ [] (settle (modeOut pv)) w'
    rw [hset]
    exact ⟨v2, h5, h6⟩
  cases pv with
  | none =>
    simp only at he
    rcases he with rfl | rfl <;> exact main
  | some v =>
    simp only at he
    subst he
    exact main

theorem one_slN {Z X : Type} {K : NE Z X} {sv : Value} {zs : List Z} {xs : List X} (h : RdN c L K sv zs xs) {w : World} (hs : Sat c L w) : ∀ u ∈ (Seg.c sv).cs, u.oneCell' = true := by
  obtain ⟨A, l, cp, rfl, _⟩ := (h w hs).2.1
  exact one_c rfl
theorem cells_slN {Z X : Type} {K : NE Z X} {sv : Value} {zs : List Z} {xs : List X} (h : RdN c L K sv zs xs) {w : World} (hs : Sat c L w) : sv.cells.toList = flat [Seg.c sv] := by
  obtain ⟨A, l, cp, rfl, _⟩ := (h w hs).2.1
  rfl
/-! ### A type assertion that tells whether it holds; a cut with a capacity -/
theorem QV.asrtT {x : Operand} {xt t : TypeId} {v : Value} {u : TypeDesc} (ht : P.underlying t = some u) (hi : (match u with | .interface _ => true | _ => false) = false) (hx : ev env x = some (.iface t v)) : QV P n c env L ⟨d, .typeAssert x xt t true, ty, ps, af, g⟩ (.tuple #[v, .bool true]) := fun a w hr _ => by
  cases u <;> simp at hi <;> simp [execOp, Instr.typeAssert, hr.eval hx, run_underlying ht]
def SlV.sub3 (sz : Nat) (s : SlV) (lo hi mx : Int) : SlV := ⟨if mx.toNat = lo.toNat then s.a else s.a.map (·.add (lo.toNat * sz)), hi.toNat - lo.toNat, mx.toNat - lo.toNat⟩
theorem QV.slice3 {α : Type} {E : Enc α} {sv : SlV} {xs : List α} {x y z : Operand} {t e : TypeId} {ag : Bool} {h m : Int} (hrd : Rdg c L E sv.v xs) (ht : P.underlying t = some (.slice e)) (he : tk P e = some (ag, E.sz)) (hx : ev env x = some sv.v)
    (hhi : bndE env xs.length (some y) = some h) (hmx : bndE env xs.length (some z) = some m) (hb : 0 ≤ h ∧ h ≤ m ∧ m ≤ xs.length) : QV P n c env L ⟨d, .slice t x none (some y) (some z), ty, ps, af, g⟩ (SlV.sub3 E.sz sv 0 h m).v := fun a w hr hs => by
  obtain ⟨A, l, cp, hsv, hm, hmc, hm63, hA, _⟩ := hrd w hs
  obtain ⟨_, h2⟩ := run_isAgg (w := w) he
  obtain ⟨sa, sl, sc⟩ := sv
  simp only [Value.slice.injEq] at hsv
  obtain ⟨rfl, rfl, rfl⟩ := hsv
  have hB : ∀ (x : Operand) (i : Int) (y : Nat) (code : BoundsCode), (match ev env x with | some (.int _ i) => some i | _ => none) = some i → 0 ≤ i → i ≤ y → (Instr.sliceBound (a.eval x) y code).run P w = .ok i.toNat w := by
    intro x i y code he h0 hy
    split at he
    · rename_i k j hj
      obtain rfl := Option.some.inj he
      rw [hr.eval hj]
      simp [Instr.sliceBound, asIntOf, h0, hy]
    · cases he
  have key : (Instr.sliceBounds true sl sc none (some (a.eval y)) (some (a.eval z))).run P w = .ok (0, h.toNat, m.toNat) w := by
    simp [Instr.sliceBounds, hB z m sc .slice3Acap hmx (by omega) (by omega), hB y h m.toNat .slice3B hhi (by omega) (by omega)]
  simp [execOp, Instr.sliceAt, run_underlying ht, hr.eval hx, Instr.slice, key, h2, SlV.sub3]
theorem rds_sub3 {α : Type} {w : World} {E : Enc α} {sv : SlV} {xs : List α} {lo hi mx : Int} (hrd : RdS w E sv.v xs) (h : 0 ≤ lo ∧ lo ≤ hi ∧ hi ≤ mx ∧ mx ≤ xs.length) : RdS w E (SlV.sub3 E.sz sv lo hi mx).v (subL xs lo hi) := by
  have h0 := rds_sub hrd (lo := lo) (hi := hi) (by omega)
  obtain ⟨A, l, cp, hsv, hm, hmc, hm63, hA, hc⟩ := hrd
  obtain ⟨sa, sl, sc⟩ := sv
  simp only [Value.slice.injEq] at hsv
  obtain ⟨rfl, rfl, rfl⟩ := hsv
  have hlen := subL_length xs lo hi (by omega)
  refine ⟨if mx.toNat = lo.toNat then sa else sa.map (·.add (lo.toNat * E.sz)), hi.toNat - lo.toNat, mx.toNat - lo.toNat, rfl, hlen.symm, by omega, by omega, fun e => ?_, fun ad e k v hv => ?_⟩
  · split at e
    · have := hA e; omega
    · cases sa with
      | none => have := hA rfl; omega
      | some a => simp at e
  · have hk : (subL xs lo hi).flatMap E.enc = ((xs.flatMap E.enc).drop (lo.toNat * E.sz)).take ((hi.toNat - lo.toNat) * E.sz) := by rw [subL, flat_take, flat_drop]
    by_cases hz : mx.toNat = lo.toNat
    · rw [hk, List.getElem?_take] at hv
      split at hv
      · rename_i hlt
        rw [show hi.toNat - lo.toNat = 0 by omega, Nat.zero_mul] at hlt
        omega
      · cases hv
    · rw [if_neg hz] at e
      obtain ⟨A', l', cp', hsv', _, _, _, _, hc'⟩ := h0
      simp only [subS, Value.slice.injEq] at hsv'
      obtain ⟨e1, rfl, rfl⟩ := hsv'
      rw [if_neg (by omega)] at e1
      exact hc' ad (e1.symm.trans e) k v hv
theorem Drv.sub3V {α : Type} {b : Bool} {E : Enc α} {sv : SlV} {xs : List α} {lo hi mx : Int} (hd : Drv b L (Asr.vw E sv.v xs)) (h : 0 ≤ lo ∧ lo ≤ hi ∧ hi ≤ mx ∧ mx ≤ xs.length) : Drv b L (Asr.vw E (SlV.sub3 E.sz sv lo hi mx).v (subL xs lo hi)) := fun w F G hs => by
  have hA := hd w F G hs
  refine ⟨rds_sub3 hA.1 h, fun ad m cp e h0 => ?_⟩
  obtain ⟨A, l, cp', hsv, hm, hmc, hm63, hAA, hc⟩ := hA.1
  obtain ⟨sa, sl, sc⟩ := sv
  simp only [Value.slice.injEq] at hsv
  obtain ⟨rfl, rfl, rfl⟩ := hsv
  simp only [SlV.sub3, Value.slice.injEq] at e
  obtain ⟨e1, rfl, rfl⟩ := e
  split at e1
  · subst e1; exact hA.2 ad sl sc rfl (by omega)
  · cases sa with
    | none => simp at e1
    | some a0 => simp at e1; subst e1; rw [add_block]; exact hA.2 a0 sl sc rfl (by omega)
end
end Go.Eng
