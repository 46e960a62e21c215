/- More rules: recursion, nested slices shared, arrays, copies, interfaces, functions as values. -/
import Derived.Test.YtgganckggdjpaaaEngNest
import Derived.Laws.CopyRow
import Derived.Lib.ConvBytes
import Derived.ChangeKeysEq
import Derived.Laws.StructEq
set_option linter.unusedVariables false
namespace Go.Eng
open Go

/-! ### Recursion: a value that stays, from some depth on -/
open Classical in
noncomputable def evt {R : Type} (g : Nat → Option R) : Option R := if h : ∃ r n, ∀ k, n ≤ k → g k = some r then some h.choose else none
theorem evt_is {R : Type} {g : Nat → Option R} {r : R} (n : Nat) (h : ∀ k, n ≤ k → g k = some r) : evt g = some r := by
  unfold evt
  have hh : ∃ r n, ∀ k, n ≤ k → g k = some r := ⟨r, n, h⟩
  rw [dif_pos hh]
  obtain ⟨m, hm⟩ := hh.choose_spec
  have h1 := hm (max n m) (Nat.le_max_right _ _)
  rw [h _ (Nat.le_max_left _ _)] at h1
  exact h1.symm
theorem evt_some {R : Type} {g : Nat → Option R} {r : R} (h : evt g = some r) : ∃ n, g n = some r := by
  unfold evt at h
  split at h
  · rename_i hh
    obtain rfl := Option.some.inj h
    obtain ⟨n, hn⟩ := hh.choose_spec
    exact ⟨n, hn n (Nat.le_refl _)⟩
  · cases h

section
variable {P : Program} {n : Fsz} {c : Ctx} {env : Env} {L : List Asr} {d : Option Tmp} {ty : TypeId} {ps : String} {af : Array Edge} {g : Option (Nat × Bool)}

/-- What is owned, with what its elements lead to, is given up to be read. -/
theorem Sat.shareN {Z X : Type} {w : World} {e : TypeId} {K : NE Z X} {sv : Value} {zs : List Z} {xs : List X} (i : Nat) (hi : L[i]? = some (Asr.on true e K sv zs xs)) (hs : Sat c L w) : Sat c (L.set i (Asr.vn K sv zs xs)) w := by
  obtain ⟨F, G, ⟨Fs, h1, h2, h3⟩, hg⟩ := hs
  have hl := (List.getElem?_eq_some_iff.1 hi).1
  have hA := h1 i _ hi
  refine ⟨fun b => F b ∧ ¬ Fs i b, fun b => G b ∨ Fs i b, ⟨fun k => if k = i then noFp else Fs k, fun k B hk => ?_, fun k b hk hb => ?_, fun k j b hk hj hne hb hb' => ?_⟩, hg.frm, fun b h k => ?_, fun b h => ?_, fun b h => hg.own b h.1, fun b h => ?_⟩
  · by_cases e : k = i
    · subst e
      rw [List.getElem?_set_self hl] at hk
      obtain rfl := Option.some.inj hk
      refine ⟨hA.1, ⟨rds_of hA.2.1.1, fun ad m cp hsv _ => .inr (hA.2.1.2 ad.block (by rw [hsv]; rfl))⟩, fun j z x hz hx => K.mono _ _ _ _ _ (hA.2.2 j z x hz hx) (fun b hb => hb.elim .inr (fun h => .inl h.2))⟩
    · rw [List.getElem?_set_ne (Ne.symm e)] at hk
      simp only [e, if_false]
      exact B.mono _ _ _ _ (h1 k B hk) (fun b hb => .inl hb)
  · simp only [List.length_set] at hk
    by_cases e : k = i
    · simp only [e, if_true] at hb; exact hb.elim
    · simp only [e, if_false] at hb; exact ⟨h2 k b hk hb, fun h => h3 k i b hk hl e hb h⟩
  · simp only [List.length_set] at hk hj
    by_cases e : k = i
    · simp only [e, if_true] at hb; exact hb.elim
    · by_cases e' : j = i
      · simp only [e', if_true] at hb'; exact hb'.elim
      · simp only [e, if_false] at hb; simp only [e', if_false] at hb'; exact h3 k j b hk hj hne hb hb'
  · exact k.elim (hg.dis b h.1) h.2
  · rcases h with h | h | h
    · exact hg.dom b (.inl h.1)
    · exact hg.dom b (.inr h)
    · exact hg.dom b (.inl (h2 i b hl h))
  · rcases h with h | h
    · exact hg.shr b h
    · exact .inr (hg.own b (h2 i b hl h))

/-! ### copy -/
/-- The places from l up to h are overwritten by ys, as far as it goes. -/
def cpL {α : Type} (xs : List α) (l h : Int) (ys : List α) : List α := xs.take l.toNat ++ (ys.take (h.toNat - l.toNat) ++ xs.drop (l.toNat + min ys.length (h.toNat - l.toNat)))
def cpN {α : Type} (l h : Int) (ys : List α) : Int := ((min ys.length (h.toNat - l.toNat) : Nat) : Int)
theorem cpL_length {α : Type} (xs : List α) (l h : Int) (ys : List α) (hb : 0 ≤ l ∧ l ≤ h ∧ h ≤ xs.length) : (cpL xs l h ys).length = xs.length := by
  simp [cpL]; omega
def Arr.cp {α : Type} {n : Nat} (a : Arr α n) (l h : Int) (ys : List α) : Arr α n := if hb : 0 ≤ l ∧ l ≤ h ∧ h ≤ a.l.length then ⟨cpL a.l l h ys, by rw [cpL_length _ _ _ _ hb, a.h]⟩ else a
theorem Arr.cp_l {α : Type} {n : Nat} (a : Arr α n) (l h : Int) (ys : List α) (hb : 0 ≤ l ∧ l ≤ h ∧ h ≤ n) : (a.cp l h ys).l = cpL a.l l h ys := by
  unfold Arr.cp; rw [dif_pos (by rw [a.h]; exact hb)]
theorem tk_size {t : TypeId} {ag : Bool} {s : Nat} (h : tk P t = some (ag, s)) : ∃ i, P.info? t = some i ∧ i.size = s := by
  unfold tk at h
  split at h
  · rename_i dd i hd hi
    simp only [Option.some.injEq, Prod.mk.injEq] at h
    exact ⟨i, hi, h.2⟩
  · cases h
theorem run_copyC {w : World} {dT sT ty elem : TypeId} {ag : Bool} {sz g o dLen dCap sLen sCap : Nat} {A : Option Addr} {cur cs : List Value} {t : TypeId} (hu : P.underlying dT = some (.slice elem)) (he : tk P elem = some (ag, sz))
    (hg : w.heap[g]? = some (.cells cur.toArray t (0, 0))) (hn : cs.length = Nat.min sLen dLen * sz) (hA : A = none → sLen = 0) (hsrc : ∀ a, A = some a → ∀ (j : Nat) (v : Value), cs[j]? = some v → w.cell? (a.add j) = some v) (hfit : o + cs.length ≤ cur.length) (h1 : ∀ v ∈ cs, v.oneCell' = true) :
    (Builtin.copy_ #[dT, sT] ty #[.slice (some ⟨g, o, none⟩) dLen dCap, .slice A sLen sCap]).run P w = .ok (.int .i64 ((Nat.min sLen dLen : Nat) : Int)) (w.setRow g (cur.take o ++ cs ++ cur.drop (o + cs.length)).toArray) := by
  obtain ⟨i, hi, hs⟩ := tk_size he
  have hst := run_storeCells_at P g o t cs 0 cur.toArray w hg (by simpa using hfit) h1
  have hf : (Builtin.firstCells sz (Nat.min sLen dLen) (.slice A sLen sCap)).run P w = .ok cs.toArray w := by
    cases A with
    | none =>
      have h0 := hA rfl
      subst h0
      have : cs = [] := List.eq_nil_of_length_eq_zero (by rw [hn]; simp)
      subst this
      simp [Builtin.firstCells]
    | some a =>
      have := run_loadCells_list (P := P) w a cs (hsrc a rfl)
      simp [Builtin.firstCells, ← hn, this]
  simp only [Nat.add_zero] at hst
  subst hs
  simp [Builtin.copy_, run_underlying hu, Builtin.lenOf, sizeOf, typeInfo, hi, hf, hst, goInt]
theorem src_cells {α : Type} {w : World} {E : Enc α} {sv : Value} {ys : List α} (h : RdS w E sv ys) (q : Nat) : ∃ A m cp, sv = .slice A m cp ∧ m = ys.length ∧ (A = none → m = 0) ∧ ∀ a, A = some a → ∀ (j : Nat) (v : Value), ((ys.take q).flatMap E.enc)[j]? = some v → w.cell? (a.add j) = some v := by
  obtain ⟨A, m, cp, h1, h2, _, _, h3, h4⟩ := h
  refine ⟨A, m, cp, h1, h2, fun e => (h3 e).1, fun a e j v hv => h4 a e j v ?_⟩
  rw [flat_take, List.getElem?_take] at hv
  split at hv
  · exact hv
  · cases hv
theorem flat_cpL {α : Type} (E : Enc α) (xs ys : List α) (l h : Int) (hb : 0 ≤ l ∧ l ≤ h ∧ h ≤ xs.length) :
    (cpL xs l h ys).flatMap E.enc = (xs.flatMap E.enc).take (l.toNat * E.sz) ++ (ys.take (h.toNat - l.toNat)).flatMap E.enc ++ (xs.flatMap E.enc).drop (l.toNat * E.sz + ((ys.take (h.toNat - l.toNat)).flatMap E.enc).length) := by
  unfold cpL
  rw [List.flatMap_append, List.flatMap_append, flat_take, List.append_assoc]
  congr 2
  rw [flat_drop, flat_len, List.length_take, ← Nat.add_mul, Nat.min_comm]
/-- copy into an array in a block. -/
theorem MV.copyB {α : Type} {x y : Operand} {t t2 e : TypeId} {ag : Bool} {b o : Nat} {T : TypeId} {ss : List Seg} {E : Enc α} {m : Nat} {xs : Arr α m} {l h : Int} {sv : Value} {ys : List α} (ix j : Nat) (hi : L[ix]? = some (Asr.blk b T ss)) (hrd : Rdg c L E sv ys) (ht : P.underlying t = some (.slice e)) (he : tk P e = some (ag, E.sz))
    (hx : ev env x = some (SlV.sub E.sz ⟨some ⟨b, o, none⟩, m, m⟩ l h).v) (hy : ev env y = some sv) (ho : size (ss.take j) = o) (hj : (ss.drop j).take 1 = [Seg.of (Enc.arr m E) xs]) (hb : 0 ≤ l ∧ l ≤ h ∧ h ≤ m) :
    MV P n c env L ⟨d, .call ⟨.builtin .copy, #[x, y], #[t, t2]⟩, ty, ps, af, g⟩ (fun u L' => u = .int .i64 (cpN l h ys) ∧ L' = L.set ix (Asr.blk b T (ss.take j ++ ([Seg.of (Enc.arr m E) (xs.cp l h ys)] ++ ss.drop (j + 1))))) := fun ac w hr hs => by
  obtain ⟨A, sm, scp, rfl, hsm, hA, hsrc⟩ := src_cells (hrd w hs) (h.toNat - l.toNat)
  obtain ⟨F1, G, hp, hdom, _, hput⟩ := hs.zoom hi
  have hxl := xs.h
  have hXl : (xs.l.flatMap E.enc).length = m * E.sz := by rw [flat_len, xs.h]
  have e0 : flat ss = flat (ss.take j) ++ (xs.l.flatMap E.enc ++ flat (ss.drop (j + 1))) := by
    have e1 : flat ss = flat (ss.take j) ++ (flat ((ss.drop j).take 1) ++ flat (ss.drop (j + 1))) := by
      rw [← flat_append, ← flat_append]
      congr 1
      rw [← List.drop_drop, List.take_append_drop, List.take_append_drop]
    rw [e1, hj]; rfl
  have hAl : (flat (ss.take j)).length = o := by rw [flat_length, ho]
  have hcl : ((ys.take (h.toNat - l.toNat)).flatMap E.enc).length = Nat.min sm (h.toNat - l.toNat) * E.sz := by
    rw [flat_len, List.length_take, hsm]
    congr 1
    exact Nat.min_comm _ _
  have hmul : (l.toNat + Nat.min sm (h.toNat - l.toNat)) * E.sz ≤ m * E.sz := Nat.mul_le_mul_right _ (by
    have : Nat.min sm (h.toNat - l.toNat) ≤ h.toNat - l.toNat := Nat.min_le_right _ _
    omega)
  rw [Nat.add_mul] at hmul
  -- where the cells go: at a cut's front, or nowhere
  have hrun : (Builtin.copy_ #[t, t2] ty #[(SlV.sub E.sz ⟨some ⟨b, o, none⟩, m, m⟩ l h).v, .slice A sm scp]).run P w = .ok (.int .i64 (cpN l h ys)) (w.setRow b ((flat ss).take (o + l.toNat * E.sz) ++ (ys.take (h.toNat - l.toNat)).flatMap E.enc ++ (flat ss).drop (o + l.toNat * E.sz + ((ys.take (h.toNat - l.toNat)).flatMap E.enc).length)).toArray) := by
    have hcp : ((Nat.min sm (h.toNat - l.toNat) : Nat) : Int) = cpN l h ys := by unfold cpN; rw [hsm]
    by_cases hc : m = l.toNat
    · -- an empty cut at the end
      have h0 : h.toNat - l.toNat = 0 := by omega
      have hv : (SlV.sub E.sz ⟨some ⟨b, o, none⟩, m, m⟩ l h).v = .slice (some ⟨b, o, none⟩) (h.toNat - l.toNat) (m - l.toNat) := by simp [SlV.sub, hc]
      have := run_copyC (P := P) (sT := t2) (ty := ty) (o := o) (dCap := m - l.toNat) (sCap := scp) (cur := flat ss) (cs := (ys.take (h.toNat - l.toNat)).flatMap E.enc) ht he hp.2 hcl hA hsrc (by rw [hcl, h0, e0]; simp [hAl]) (flat_one E _)
      rw [hv, this, hcp]
      have e1 : (ys.take (h.toNat - l.toNat)).flatMap E.enc = [] := by rw [h0]; rfl
      rw [e1]
      simp
    · have hv : (SlV.sub E.sz ⟨some ⟨b, o, none⟩, m, m⟩ l h).v = .slice (some ⟨b, o + l.toNat * E.sz, none⟩) (h.toNat - l.toNat) (m - l.toNat) := by simp [SlV.sub, hc, add_plain]
      have := run_copyC (P := P) (sT := t2) (ty := ty) (o := o + l.toNat * E.sz) (dCap := m - l.toNat) (sCap := scp) (cur := flat ss) (cs := (ys.take (h.toNat - l.toNat)).flatMap E.enc) ht he hp.2 hcl hA hsrc (by rw [hcl, e0]; simp only [List.length_append, hAl, hXl]; omega) (flat_one E _)
      rw [hv, this, hcp]
  have : (execOp ac.eval ⟨d, .call ⟨.builtin .copy, #[x, y], #[t, t2]⟩, ty, ps, af, g⟩).run P w = .ok (.value (.int .i64 (cpN l h ys))) (w.setRow b ((flat ss).take (o + l.toNat * E.sz) ++ (ys.take (h.toNat - l.toNat)).flatMap E.enc ++ (flat ss).drop (o + l.toNat * E.sz + ((ys.take (h.toNat - l.toNat)).flatMap E.enc).length)).toArray) := by
    simp only [SlV.v] at hrun hx
    simp [execOp, resolve, invoke, builtin, hr.eval hx, hr.eval hy, hrun]
  rw [this]
  refine ⟨_, ⟨rfl, rfl⟩, hput _ F1 _ ⟨hp.1, ?_⟩ (fun k hk hn => setRow_other w b k _ (fun e => hn (e ▸ hp.1))) (fun b hb => .inl hb) (fun k hk => by simpa [World.setRow] using hdom k hk) (by simp [World.setRow]) rfl rfl rfl⟩
  rw [setRow_heap w b _ _ T (0, 0) hp.2, flat_append, flat_append]
  have h3 : flat [Seg.of (Enc.arr m E) (xs.cp l h ys)] = (cpL xs.l l h ys).flatMap E.enc := by
    show (xs.cp l h ys).l.flatMap E.enc = _
    rw [Arr.cp_l _ _ _ _ hb]
  rw [h3, flat_cpL E xs.l ys l h (by rw [xs.h]; exact hb)]
  congr 3
  have h1 : (flat ss).take (o + l.toNat * E.sz) = flat (ss.take j) ++ (xs.l.flatMap E.enc).take (l.toNat * E.sz) := by
    rw [e0, ← hAl, List.take_length_add_append, List.take_append_of_le_length (by rw [hXl]; omega)]
  have h2 : (flat ss).drop (o + l.toNat * E.sz + ((ys.take (h.toNat - l.toNat)).flatMap E.enc).length) = (xs.l.flatMap E.enc).drop (l.toNat * E.sz + ((ys.take (h.toNat - l.toNat)).flatMap E.enc).length) ++ flat (ss.drop (j + 1)) := by
    rw [e0, Nat.add_assoc, ← hAl, List.drop_length_add_append, List.drop_append_of_le_length (by rw [hXl, hcl]; omega)]
  rw [h1, h2]
  simp

/-- copy into a slice that is owned, or a part of it. -/
theorem MV.copyO {α : Type} {x y : Operand} {t t2 e : TypeId} {ag : Bool} {E : Enc α} {dv : SlV} {xs : List α} {l h : Int} {sv : Value} {ys : List α} (ix : Nat) (hi : L[ix]? = some (Asr.of e E dv.v xs)) (hrd : Rdg c L E sv ys) (ht : P.underlying t = some (.slice e)) (he : tk P e = some (ag, E.sz))
    (hx : ev env x = some (SlV.sub E.sz dv l h).v) (hy : ev env y = some sv) (hb : 0 ≤ l ∧ l ≤ h ∧ h ≤ xs.length) :
    MV P n c env L ⟨d, .call ⟨.builtin .copy, #[x, y], #[t, t2]⟩, ty, ps, af, g⟩ (fun u L' => u = .int .i64 (cpN l h ys) ∧ L' = L.set ix (Asr.of e E dv.v (cpL xs l h ys))) := fun ac w hr hs => by
  obtain ⟨A, sm, scp, rfl, hsm, hA, hsrc⟩ := src_cells (hrd w hs) (h.toNat - l.toNat)
  obtain ⟨F1, G, hp, hdom, _, hput⟩ := hs.zoom hi
  have hcl : ((ys.take (h.toNat - l.toNat)).flatMap E.enc).length = Nat.min sm (h.toNat - l.toNat) * E.sz := by
    rw [flat_len, List.length_take, hsm]
    congr 1
    exact Nat.min_comm _ _
  have hcp : ((Nat.min sm (h.toNat - l.toNat) : Nat) : Int) = cpN l h ys := by unfold cpN; rw [hsm]
  have hmul : (l.toNat + Nat.min sm (h.toNat - l.toNat)) * E.sz ≤ xs.length * E.sz := Nat.mul_le_mul_right _ (by
    have : Nat.min sm (h.toNat - l.toNat) ≤ h.toNat - l.toNat := Nat.min_le_right _ _
    omega)
  rw [Nat.add_mul] at hmul
  have hxv : ∀ r w', (Builtin.copy_ #[t, t2] ty #[(SlV.sub E.sz dv l h).v, .slice A sm scp]).run P w = .ok r w' → (execOp ac.eval ⟨d, .call ⟨.builtin .copy, #[x, y], #[t, t2]⟩, ty, ps, af, g⟩).run P w = .ok (.value r) w' := fun r w' hrun => by
    simp only [SlV.v] at hrun hx
    simp [execOp, resolve, invoke, builtin, hr.eval hx, hr.eval hy, hrun]
  have hlen := cpL_length xs l h ys hb
  obtain ⟨hlen0, hrow⟩ := hp.1
  rcases hrow with ⟨hnil, h0⟩ | ⟨g', cap, cur, hval, hbb, hg, hnc, hcm, hcs, htake⟩
  · -- nil: nothing is written
    simp only [Value.slice.injEq] at hnil
    obtain ⟨a1, a2, a3⟩ := hnil
    obtain ⟨i, hti, hsz⟩ := tk_size he
    have hh0 : h.toNat - l.toNat = 0 := by omega
    have hll : l.toNat = 0 := by omega
    have hv : (SlV.sub E.sz dv l h).v = .slice none 0 0 := by simp [SlV.sub, SlV.v, a1, a3, hh0]
    have hrun : (Builtin.copy_ #[t, t2] ty #[(SlV.sub E.sz dv l h).v, .slice A sm scp]).run P w = .ok (.int .i64 (cpN l h ys)) w := by
      rw [hv]
      cases A with
      | none => simp [Builtin.copy_, run_underlying ht, Builtin.lenOf, sizeOf, typeInfo, hti, goInt, Builtin.firstCells, cpN, hh0]
      | some a => simp [Builtin.copy_, run_underlying ht, Builtin.lenOf, sizeOf, typeInfo, hti, goInt, Builtin.firstCells, cpN, hh0, loadCells, loadCellsFrom]
    rw [hxv _ _ hrun]
    have hxs : xs = [] := List.eq_nil_of_length_eq_zero (by omega)
    refine ⟨_, ⟨rfl, rfl⟩, hput _ F1 _ ⟨⟨by rw [flat_len], ?_⟩, hp.2⟩ (fun _ _ _ => rfl) (fun b hb => .inl hb) hdom (Nat.le_refl _) rfl rfl rfl⟩
    left
    exact ⟨by simp [SlV.v, a1, a2, a3], by rw [hlen]; exact h0⟩
  · simp only [Value.slice.injEq] at hval
    obtain ⟨a1, a2, a3⟩ := hval
    have hF : F1 g' := hp.2 g' (by simp [SlV.v, a1, Value.ownBlock])
    have hmul2 : xs.length * E.sz ≤ cap * E.sz := Nat.mul_le_mul_right _ hnc
    have hcurl : cur.toList.length = cap * E.sz := by simp [hcs]
    have hrun : (Builtin.copy_ #[t, t2] ty #[(SlV.sub E.sz dv l h).v, .slice A sm scp]).run P w = .ok (.int .i64 (cpN l h ys)) (w.setRow g' (cur.toList.take (l.toNat * E.sz) ++ (ys.take (h.toNat - l.toNat)).flatMap E.enc ++ cur.toList.drop (l.toNat * E.sz + ((ys.take (h.toNat - l.toNat)).flatMap E.enc).length)).toArray) := by
      by_cases hc : cap = l.toNat
      · have h0 : h.toNat - l.toNat = 0 := by omega
        have hv : (SlV.sub E.sz dv l h).v = .slice (some ⟨g', 0, none⟩) (h.toNat - l.toNat) (cap - l.toNat) := by simp [SlV.sub, SlV.v, a1, a3, hc]
        have := run_copyC (P := P) (sT := t2) (ty := ty) (o := 0) (dCap := cap - l.toNat) (sCap := scp) (cur := cur.toList) (cs := (ys.take (h.toNat - l.toNat)).flatMap E.enc) ht he (by simpa using hg) hcl hA hsrc (by rw [hcl, h0]; simp) (flat_one E _)
        rw [hv, this, hcp]
        have e1 : (ys.take (h.toNat - l.toNat)).flatMap E.enc = [] := by rw [h0]; rfl
        rw [e1]
        simp
      · have hv : (SlV.sub E.sz dv l h).v = .slice (some ⟨g', l.toNat * E.sz, none⟩) (h.toNat - l.toNat) (cap - l.toNat) := by simp [SlV.sub, SlV.v, a1, a3, hc, add_plain]
        have := run_copyC (P := P) (sT := t2) (ty := ty) (o := l.toNat * E.sz) (dCap := cap - l.toNat) (sCap := scp) (cur := cur.toList) (cs := (ys.take (h.toNat - l.toNat)).flatMap E.enc) ht he (by simpa using hg) hcl hA hsrc (by rw [hcl, hcurl]; omega) (flat_one E _)
        rw [hv, this, hcp]
    rw [hxv _ _ hrun]
    refine ⟨_, ⟨rfl, rfl⟩, hput _ F1 _ ⟨⟨by rw [flat_len], .inr ⟨g', cap, _, by simp only [SlV.v, a1, a3, hlen]; rw [← a2], hbb, setRow_heap w g' cur _ e (0, 0) hg, by rw [hlen]; exact hnc, hcm, ?_, ?_⟩⟩, fun b h => hp.2 b h⟩ (fun j hj hn => setRow_other w g' j _ (fun e => hn (e ▸ hF))) (fun b hb => .inl hb) (fun j hj => by simpa [World.setRow] using hdom j hj) (by simp [World.setRow]) rfl rfl rfl⟩
    · simp only [List.size_toArray, List.length_append, List.length_take, List.length_drop, hcurl, hcl]; omega
    · have hc2 : cur.toList = xs.flatMap E.enc ++ cur.toList.drop (xs.length * E.sz) := by conv => lhs; rw [← List.take_append_drop (xs.length * E.sz) cur.toList, htake]
      have hfl := flat_len E xs
      rw [flat_cpL E xs ys l h hb, hlen]
      have h1 : cur.toList.take (l.toNat * E.sz) = (xs.flatMap E.enc).take (l.toNat * E.sz) := by rw [hc2, List.take_append_of_le_length (by rw [hfl]; omega)]
      have h2 : cur.toList.drop (l.toNat * E.sz + ((ys.take (h.toNat - l.toNat)).flatMap E.enc).length) = (xs.flatMap E.enc).drop (l.toNat * E.sz + ((ys.take (h.toNat - l.toNat)).flatMap E.enc).length) ++ cur.toList.drop (xs.length * E.sz) := by conv => lhs; rw [hc2, List.drop_append_of_le_length (by rw [hfl, hcl]; omega)]
      rw [h1, h2, ← List.append_assoc, List.take_left']
      simp only [List.length_append, List.length_take, List.length_drop, hfl, hcl]
      omega

/-! ### A string's bytes -/
def bytesL (s : ByteArray) : List Int := s.data.toList.map (fun b => (b.toNat : Int))
theorem MV.bytes {x : Operand} {src dst e : TypeId} {s : ByteArray} {u : TypeDesc} (hs : P.underlying src = some u) (hd : P.underlying dst = some (.slice e)) (he : P.underlying e = some (.int .u8)) (hl : s.size ≤ 140737488355328) (hx : ev env x = some (.string s)) :
    MV P n c env L ⟨d, .convert src dst x, ty, ps, af, g⟩ (fun v L' => ∃ sv : SlV, v = sv.v ∧ L' = Asr.vw (Enc.int .u8) sv.v (bytesL s) :: L) := fun a w hr hst => by
  have hrun := Lib.run_convert_string_bytes (P := P) w src dst e s hs hd he
  have : (execOp a.eval ⟨d, .convert src dst x, ty, ps, af, g⟩).run P w = .ok (.value (.slice (some ⟨w.heap.size, 0, none⟩) s.size (grownCap w s.size 0 e))) (Lib.bytesWorld w e s) := by
    simp [execOp, hr.eval hx, hrun]
  rw [this]
  refine ⟨_, ⟨⟨some ⟨w.heap.size, 0, none⟩, s.size, grownCap w s.size 0 e⟩, rfl, rfl⟩, ?_⟩
  obtain ⟨F, G, hsr, hg⟩ := hst
  have hsz := Lib.bytesWorld_size w e s
  have hold : ∀ b, b < w.heap.size → (Lib.bytesWorld w e s).heap[b]? = w.heap[b]? := fun b hb => Lib.bytesWorld_at_old w e s b hb
  have hs' : Star L (Lib.bytesWorld w e s) F (fun b => G b ∨ b = w.heap.size) := (hsr.loc fun b hb => hold b (hg.dom b hb)).mono (fun _ h => h) (fun _ h => .inl h)
  have hge := grownCap_ge w s.size 0 e
  have hbl : (bytesL s).length = s.size := by simp [bytesL]
  have hA : Star [Asr.vw (Enc.int .u8) (SlV.v ⟨some ⟨w.heap.size, 0, none⟩, s.size, grownCap w s.size 0 e⟩) (bytesL s)] (Lib.bytesWorld w e s) noFp (fun b => G b ∨ b = w.heap.size) := ⟨fun _ => noFp, fun i B hi => by
    cases i with
    | zero =>
      simp at hi
      subst hi
      refine ⟨⟨_, _, _, rfl, hbl.symm, hge, by show s.size ≤ _; omega, (fun h => nomatch h), fun ad e' k v hk => ?_⟩, fun ad m cp e' h0 => ?_⟩
      · obtain rfl := Option.some.inj e'
        rw [enc_bytes] at hk
        have hk' := (List.getElem?_eq_some_iff.1 hk).1
        rw [List.length_map, hbl] at hk'
        have h2 := Lib.bytesWorld_cell w e s k hk'
        rw [add_plain, Nat.zero_add, h2]
        rw [List.getElem?_map, bytesL, List.getElem?_map] at hk
        have hk2 : k < s.data.toList.length := hk'
        rw [List.getElem?_eq_getElem hk2] at hk
        simp only [Option.map_some, Option.some.injEq] at hk
        rw [← hk]
        simp [List.getD, List.getElem?_eq_getElem hk2]
      · simp only [Value.slice.injEq, Option.some.injEq] at e'
        obtain ⟨rfl, _, _⟩ := e'
        exact .inr rfl
    | succ i => simp at hi, fun _ _ _ h => h, fun _ _ _ _ _ _ h => h.elim⟩
  refine ⟨F, fun b => G b ∨ b = w.heap.size, ?_, ?_⟩
  · have := hA.append hs' (fun _ h => h.elim) (F := F) (fun _ h => h.elim) (fun _ h => h)
    simpa using this
  · refine ⟨⟨hg.frm.os, hg.frm.tape, hg.frm.output, by rw [hsz]; have := hg.frm.size; omega, fun b hb hn => ?_⟩, fun b h k => ?_, fun b h => ?_, hg.own, fun b h => ?_⟩
    · have := hg.frm.size
      rw [hold b (by omega)]
      exact hg.frm.block b hb hn
    · rcases k with k | rfl
      · exact hg.dis b h k
      · have := hg.dom _ (.inl h); omega
    · rw [hsz]
      rcases h with h | h | rfl
      · have := hg.dom b (.inl h); omega
      · have := hg.dom b (.inr h); omega
      · omega
    · rcases h with h | rfl
      · exact hg.shr b h
      · have := hg.frm.size; exact .inr (.inr this)

/-! ### Equal structs, equal arrays -/
instance {α : Type} [DecidableEq α] {n : Nat} : DecidableEq (Arr α n) := fun a b => if h : a.l = b.l then isTrue (by cases a; cases b; simp at h; subst h; rfl) else isFalse (fun e => h (by rw [e]))
def vOf (ag : Bool) (cs : List Value) : Value := if ag then .agg cs.toArray else cs.headD undef
def EqE {α : Type} (P : Program) (dd : Nat) (t : TypeId) (ag : Bool) (E : Enc α) : Prop := ∀ (w : World) (a b : α), ∃ r : Bool, (Op.equalIn dd t (vOf ag (E.enc a)) (vOf ag (E.enc b))).run P w = .ok r w ∧ (r = true ↔ a = b)
theorem EqE.int {t : TypeId} {k : IntKind} (dd : Nat) (ht : P.underlying t = some (.int k)) : EqE P (dd + 1) t false (Enc.int k) := fun w a b => ⟨a == b, by simp [vOf, Enc.int, Op.equalIn, run_underlying ht], by simp⟩
theorem EqE.bool {t : TypeId} (dd : Nat) (ht : P.underlying t = some .bool) : EqE P (dd + 1) t false Enc.bool := fun w a b => ⟨a == b, by simp [vOf, Enc.bool, Op.equalIn, run_underlying ht], by simp⟩
theorem run_part {w : World} {e : TypeId} {ag : Bool} {s off : Nat} {xs cs : List Value} (h : tk P e = some (ag, s)) (hc : (xs.drop off).take s = cs) (hl : cs.length = s) (h1 : ag = false → s = 1) : (part e xs.toArray off).run P w = .ok (vOf ag cs) w := by
  obtain ⟨h2, h3⟩ := run_isAgg (w := w) h
  cases ag with
  | true =>
    have : (xs.toArray.extract off (off + s)) = cs.toArray := by
      apply Array.ext'
      rw [Array.toList_extract]
      simp [List.extract, hc]
    simp only [part, Sem.run_bind, h2, h3, Result.andThen_ok, vOf, if_true, this]
    rfl
  | false =>
    have hs := h1 rfl
    subst hs
    have hx : xs[off]? = some (cs.headD undef) := by
      have h4 : ((xs.drop off).take 1)[0]? = cs[0]? := by rw [hc]
      rw [List.getElem?_take, if_pos (by omega), List.getElem?_drop] at h4
      simp at h4
      rw [h4]
      cases cs with
      | nil => simp at hl
      | cons a r => rfl
    simp [part, h2, vOf, hx]
theorem flat_chunk {α : Type} (E : Enc α) (xs : List α) (i : Nat) (h : i < xs.length) : ((xs.flatMap E.enc).drop (i * E.sz)).take E.sz = E.enc xs[i] := by
  rw [← flat_drop, List.drop_eq_getElem_cons h, List.flatMap_cons, List.take_left' (E.len _)]
theorem EqE.arr {α : Type} {t e : TypeId} {m dd : Nat} {ag : Bool} {E : Enc α} (ht : P.underlying t = some (.array m e)) (he : tk P e = some (ag, E.sz)) (h1 : ag = false → E.sz = 1) (h : EqE P dd e ag E) : EqE P (dd + 1) t true (Enc.arr m E) := fun w a b => by
  obtain ⟨i, hi, hsz⟩ := tk_size he
  have hco : P.cellsOf e = E.sz := by simp [Program.cellsOf, hi, hsz]
  have key : ∀ is : List Nat, (∀ j ∈ is, j < m) → ∃ r : Bool, (Op.eqItems dd e E.sz (a.l.flatMap E.enc).toArray (b.l.flatMap E.enc).toArray is).run P w = .ok r w ∧ (r = true ↔ ∀ j ∈ is, a.l[j]? = b.l[j]?) := by
    intro is
    induction is with
    | nil => intro _; exact ⟨true, by simp [Op.eqItems], by simp⟩
    | cons j is ih =>
      intro hj
      obtain ⟨r, hr, hri⟩ := ih (fun k hk => hj k (by simp [hk]))
      have hjm := hj j (by simp)
      have hja : j < a.l.length := by rw [a.h]; exact hjm
      have hjb : j < b.l.length := by rw [b.h]; exact hjm
      have pa := run_part (P := P) (w := w) (off := j * E.sz) (xs := a.l.flatMap E.enc) he (flat_chunk E a.l j hja) (E.len _) h1
      have pb := run_part (P := P) (w := w) (off := j * E.sz) (xs := b.l.flatMap E.enc) he (flat_chunk E b.l j hjb) (E.len _) h1
      obtain ⟨q, hq, hqi⟩ := h w a.l[j] b.l[j]
      have e1 : a.l[j]? = b.l[j]? ↔ a.l[j] = b.l[j] := by rw [List.getElem?_eq_getElem hja, List.getElem?_eq_getElem hjb]; simp
      cases q with
      | false =>
        refine ⟨false, by simp [Op.eqItems, pa, pb, hq], ?_⟩
        simp only [Bool.false_eq_true, false_iff]
        intro hall
        have := e1.1 (hall j (by simp))
        rw [← hqi] at this
        cases this
      | true =>
        refine ⟨r, by simp [Op.eqItems, pa, pb, hq, hr], ?_⟩
        rw [hri]
        simp [e1, hqi.1 rfl]
  obtain ⟨r, hr, hri⟩ := key (List.range m) (fun j hj => by simpa using hj)
  refine ⟨r, ?_, ?_⟩
  · have := run_equalIn_array (P := P) w dd (a.l.flatMap E.enc).toArray (b.l.flatMap E.enc).toArray ht hi
    simp only [vOf, if_true]
    show (Op.equalIn (dd + 1) t (.agg (a.l.flatMap E.enc).toArray) (.agg (b.l.flatMap E.enc).toArray)).run P w = _
    rw [this, hco, hr]
  · rw [hri]
    constructor
    · intro hall
      cases a with | mk la ha => cases b with | mk lb hb =>
      have : la = lb := List.ext_getElem? fun j => by
        by_cases hj : j < m
        · exact hall j (by simpa using hj)
        · rw [List.getElem?_eq_none (by omega), List.getElem?_eq_none (by omega)]
      subst this
      rfl
    · rintro rfl j _; rfl
/-- Fields, one behind the other. -/
def EqFs {α : Type} (P : Program) (dd : Nat) (fs : List Field) (o : Nat) (E : Enc α) : Prop := ∀ (w : World) (xs ys : List Value) (a b : α), (xs.drop o).take E.sz = E.enc a → (ys.drop o).take E.sz = E.enc b → ∃ r : Bool, (Op.eqFields dd xs.toArray ys.toArray fs).run P w = .ok r w ∧ (r = true ↔ a = b)
theorem EqFs.step {α : Type} {dd : Nat} {f : Field} {fs : List Field} {o : Nat} {ag : Bool} {A : Enc α} (ho : f.offset = o) (hnm : (f.name == "_") = false) (hc : tk P f.type = some (ag, A.sz)) (h1 : ag = false → A.sz = 1) (h : EqE P dd f.type ag A) (w : World) (xs ys : List Value) (a b : α) (ha : (xs.drop o).take A.sz = A.enc a) (hb : (ys.drop o).take A.sz = A.enc b)
    (q : Bool) (Q : Prop) (hr : (Op.eqFields dd xs.toArray ys.toArray fs).run P w = .ok q w) (hq : q = true ↔ Q) : ∃ r : Bool, (Op.eqFields dd xs.toArray ys.toArray (f :: fs)).run P w = .ok r w ∧ (r = true ↔ a = b ∧ Q) := by
  subst ho
  have pa := run_part (P := P) (w := w) (off := f.offset) (xs := xs) hc ha (A.len _) h1
  have pb := run_part (P := P) (w := w) (off := f.offset) (xs := ys) hc hb (A.len _) h1
  obtain ⟨r, hr1, hri⟩ := h w a b
  have hn : f.name ≠ "_" := by simpa using hnm
  cases r with
  | false =>
    refine ⟨false, by simp [Op.eqFields, hn, pa, pb, hr1], ?_⟩
    simp only [Bool.false_eq_true, false_iff]
    rintro ⟨e, _⟩
    rw [← hri] at e
    cases e
  | true => exact ⟨q, by simp [Op.eqFields, hn, pa, pb, hr1, hr], by simp [hq, hri.1 rfl]⟩
theorem EqFs.one {α : Type} {dd : Nat} {f : Field} {o : Nat} {ag : Bool} {A : Enc α} (ho : f.offset = o) (hnm : (f.name == "_") = false) (hc : tk P f.type = some (ag, A.sz)) (h1 : ag = false → A.sz = 1) (h : EqE P dd f.type ag A) : EqFs P dd [f] o A := fun w xs ys a b ha hb => by
  obtain ⟨r, h2, h3⟩ := EqFs.step (fs := []) ho hnm hc h1 h w xs ys a b ha hb true True (by simp [Op.eqFields]) (by simp)
  exact ⟨r, h2, by simpa using h3⟩
theorem EqFs.cons {α β : Type} {dd : Nat} {f : Field} {fs : List Field} {o : Nat} {ag : Bool} {A : Enc α} {B : Enc β} (ho : f.offset = o) (hnm : (f.name == "_") = false) (hc : tk P f.type = some (ag, A.sz)) (h1 : ag = false → A.sz = 1) (h : EqE P dd f.type ag A) (hr : EqFs P dd fs (o + A.sz) B) : EqFs P dd (f :: fs) o (Enc.pair A B) := fun w xs ys a b ha hb => by
  have split : ∀ (xs : List Value) (a : α × β), (xs.drop o).take (A.sz + B.sz) = A.enc a.1 ++ B.enc a.2 → (xs.drop o).take A.sz = A.enc a.1 ∧ (xs.drop (o + A.sz)).take B.sz = B.enc a.2 := fun xs a h => by
    rw [List.take_add, List.drop_drop] at h
    have hlen : ((xs.drop o).take A.sz).length = (A.enc a.1).length := by
      have := congrArg List.length h
      simp only [List.length_append, List.length_take, List.length_drop, A.len, B.len] at this ⊢
      omega
    exact List.append_inj h hlen
  obtain ⟨xa, xb⟩ := split xs a ha
  obtain ⟨ya, yb⟩ := split ys b hb
  obtain ⟨q, h2, h3⟩ := hr w xs ys a.2 b.2 xb yb
  obtain ⟨r, h4, h5⟩ := EqFs.step ho hnm hc h1 h w xs ys a.1 b.1 xa ya q _ h2 h3
  exact ⟨r, h4, h5.trans (by rw [Prod.ext_iff])⟩
theorem EqE.struct {α : Type} {t : TypeId} {dd : Nat} {fs : Array Field} {E : Enc α} (ht : P.underlying t = some (.struct fs)) (hp : P.stoodInHeld t = false) (h : EqFs P dd fs.toList 0 E) : EqE P (dd + 1) t true E := fun w a b => by
  have hf : P.fieldsOf t = fs := by simp [Program.fieldsOf, ht]
  obtain ⟨r, h1, h2⟩ := h w (E.enc a) (E.enc b) a b (by rw [List.drop_zero, List.take_of_length_le (by rw [E.len]; exact Nat.le_refl _)]) (by rw [List.drop_zero, List.take_of_length_le (by rw [E.len]; exact Nat.le_refl _)])
  refine ⟨r, ?_, h2⟩
  have := run_equalIn_struct (P := P) w dd t (E.enc a).toArray (E.enc b).toArray (by rw [hf]; exact ht) hp
  simp only [vOf, if_true]
  rw [this, hf, h1]
theorem run_eqG {w : World} {op : BinOp} {t : TypeId} {x y : Operand} {a b : Array Value} (hg : P.eqGuardType P.depth t = false) : (eqGuard op t x y (.agg a) (.agg b)).run P w = .ok () w := by
  unfold eqGuard
  cases op <;> simp [hg]
theorem QV.eqlE {α : Type} [DecidableEq α] {x y : Operand} {t yt : TypeId} {E : Enc α} {a b : α} (h : EqE P 10000 t true E) (hg : P.eqGuardType P.depth t = false) (hx : ev env x = some (.agg (E.enc a).toArray)) (hy : ev env y = some (.agg (E.enc b).toArray)) : QV P n c env L ⟨d, .binOp .eql t x y yt, ty, ps, af, g⟩ (.bool (decide (a = b))) := fun _ w hr _ => by
  obtain ⟨r, h1, h2⟩ := h w a b
  have e : r = decide (a = b) := by rw [Bool.eq_iff_iff, h2]; simp
  subst e
  simp only [vOf, if_true] at h1
  simp only [execOp, hr.eval hx, hr.eval hy]
  have hgr := run_eqG (P := P) (w := w) (op := .eql) (t := t) (x := x) (y := y) (a := (E.enc a).toArray) (b := (E.enc b).toArray) hg
  have h3 : (Op.equal t (.agg (E.enc a).toArray) (.agg (E.enc b).toArray)).run P w = .ok (decide (a = b)) w := h1
  have hb : binOp .eql t (.agg (E.enc a).toArray) (.agg (E.enc b).toArray) = (do pure (.bool (← Op.equal t (.agg (E.enc a).toArray) (.agg (E.enc b).toArray)))) := rfl
  rw [hb]
  simp [hgr, h3]
theorem QV.neqE {α : Type} [DecidableEq α] {x y : Operand} {t yt : TypeId} {E : Enc α} {a b : α} (h : EqE P 10000 t true E) (hg : P.eqGuardType P.depth t = false) (hx : ev env x = some (.agg (E.enc a).toArray)) (hy : ev env y = some (.agg (E.enc b).toArray)) : QV P n c env L ⟨d, .binOp .neq t x y yt, ty, ps, af, g⟩ (.bool (!decide (a = b))) := fun _ w hr _ => by
  obtain ⟨r, h1, h2⟩ := h w a b
  have e : r = decide (a = b) := by rw [Bool.eq_iff_iff, h2]; simp
  subst e
  simp only [vOf, if_true] at h1
  simp only [execOp, hr.eval hx, hr.eval hy]
  have hgr := run_eqG (P := P) (w := w) (op := .neq) (t := t) (x := x) (y := y) (a := (E.enc a).toArray) (b := (E.enc b).toArray) hg
  have h3 : (Op.equal t (.agg (E.enc a).toArray) (.agg (E.enc b).toArray)).run P w = .ok (decide (a = b)) w := h1
  have hb : binOp .neq t (.agg (E.enc a).toArray) (.agg (E.enc b).toArray) = (do pure (.bool (!(← Op.equal t (.agg (E.enc a).toArray) (.agg (E.enc b).toArray))))) := rfl
  rw [hb]
  simp [hgr, h3]

/-! ### Functions as values, interfaces -/
theorem QV.makeFunc {f : FuncId} {xs : List Operand} {vals : List Value} (hx : evs env xs = some vals) : QV P n c env L ⟨d, .makeFunc (.func f) #[] xs.toArray, ty, ps, af, g⟩ (.func (.func f) #[] vals.toArray) := fun a w hr _ => by
  have := hr.evals hx
  simp [execOp, Instr.makeFunc, this]
theorem run_callV {ρ : Operand → Value} {w : World} {o : Oper} {f : FuncId} {x : Operand} {xs : List Operand} {ts : Array TypeId} {fn : Func} {cs : List Value} (ho : o.op = .call ⟨.value x, xs.toArray, ts⟩) (hρ : ρ x = .func (.func f) #[] cs.toArray)
    (hf : P.funcs[f]? = some fn) (hn : (fn.name == "runtime.NumGoroutine") = false) (hb : fn.body.isNone = false) : (execOp ρ o).run P w = .ok (.enter f (xs.map ρ ++ cs).toArray) w := by
  have hn' : ¬ fn.name = "runtime.NumGoroutine" := by simpa using hn
  have hb' : ¬ fn.body = none := fun h => by rw [h] at hb; cases hb
  simp [execOp, ho, resolve, hρ, Deferred.ofValue, invoke, callFunc, hf, hn', hb']
theorem MV.callV {Lo Lr Lv : List Asr} {vw : Bool} {f : FuncId} {vals cs all : List Value} {post : Value → List Asr → Prop} {o : Oper} {x : Operand} {xs : List Operand} {ts : Array TypeId} {fn : Func} (hspec : Ctr P vw f all (Lo ++ Lv) post)
    (hall : all = vals ++ cs) (ho : o.op = .call ⟨.value x, xs.toArray, ts⟩) (hv0 : ev env x = some (.func (.func f) #[] cs.toArray)) (hf : P.funcs[f]? = some fn) (hn : (fn.name == "runtime.NumGoroutine") = false) (hb : fn.body.isNone = false) (hx : evs env xs = some vals)
    (σo σr : List Nat) (hσ : nd (σo ++ σr) = true) (hlo : pickL L σo = some Lo) (hlr : pickL L σr = some Lr) (hv : drvL vw Lr Lv) : MV P n c env L o (fun v L' => ∃ L1, post v L1 ∧ L' = L1 ++ Lr) := by
  intro a w hr hs
  subst hall
  rw [run_callV ho (hr.eval hv0) hf hn hb, hr.evals hx]
  exact Sat.call hspec hs σo σr hσ hlo hlr hv
theorem QV.mkIface {x : Operand} {t : TypeId} {v : Value} {u : TypeDesc} (ht : P.underlying t = some u) (hi : (match u with | .interface _ => true | _ => false) = false) (hx : ev env x = some v) : QV P n c env L ⟨d, .makeInterface t x, ty, ps, af, g⟩ (.iface t v) := fun a w hr _ => by
  cases u <;> simp at hi <;> simp [execOp, Instr.makeInterface, hr.eval hx, run_underlying ht]
/-- The method that a call through an interface comes to: one of the type's own, no field on the way. -/
def methB (P : Program) (t : TypeId) (name : String) (f : FuncId) : Bool :=
  match P.info? t, P.underlying t with
  | some i, some u => match i.methods.find? (·.name == name) with
    | some m => m.path.isEmpty && (match m.func with | some (f', pr) => f' == f && (match u with | .pointer _ => pr | _ => !pr) | none => false)
    | none => false
  | _, _ => false
theorem run_method {w : World} {t : TypeId} {v : Value} {name : String} {f : FuncId} (fuel : Nat) (h : methB P t name f = true) : (method (fuel + 1) t v name).run P w = .ok (f, v) w := by
  unfold methB at h
  split at h
  · rename_i i u hi hu
    split at h
    · rename_i m hm
      simp only [Bool.and_eq_true] at h
      obtain ⟨hp, h⟩ := h
      have hpl : m.path.toList = [] := by simpa using hp
      split at h
      · rename_i f' pr hfp
        simp only [Bool.and_eq_true, beq_iff_eq] at h
        obtain ⟨rfl, h⟩ := h
        have hm' : Array.find? (fun x => x.name == name) i.methods = some m := hm
        cases u <;> simp at h <;> subst h <;> simp [method, typeInfo, hi, hm', hpl, follow, hfp, receiverAt, run_underlying hu, Place.get]
      · cases h
    · cases h
  · cases h
theorem run_callI {ρ : Operand → Value} {w : World} {o : Oper} {f : FuncId} {x : Operand} {xs : List Operand} {ts : Array TypeId} {fn : Func} {t : TypeId} {v : Value} {name : String} (ho : o.op = .call ⟨.invoke x name, xs.toArray, ts⟩) (hρ : ρ x = .iface t v) (hm : methB P t name f = true)
    (hf : P.funcs[f]? = some fn) (hn : (fn.name == "runtime.NumGoroutine") = false) (hb : fn.body.isNone = false) : (execOp ρ o).run P w = .ok (.enter f (v :: xs.map ρ).toArray) w := by
  have hn' : ¬ fn.name = "runtime.NumGoroutine" := by simpa using hn
  have hb' : ¬ fn.body = none := fun h => by rw [h] at hb; cases hb
  have hme := run_method (P := P) (w := w) (v := v) (P.types.size + (Made.depth - 1)) hm
  have hd : P.types.size + (Made.depth - 1) + 1 = P.types.size + Made.depth := by have : 0 < Made.depth := by decide
                                                                                  omega
  rw [hd] at hme
  have e1 : (#[Value.iface t v] ++ (xs.map ρ).toArray).extract 1 (#[Value.iface t v] ++ (xs.map ρ).toArray).size = (xs.map ρ).toArray := by
    apply Array.ext'
    simp
    exact List.take_of_length_le (by simp)
  have e2 : (#[v] ++ (xs.map ρ).toArray) = (v :: xs.map ρ).toArray := by apply Array.ext'; simp
  simp only [execOp, ho, resolve, hρ]
  simp only [List.map_toArray]
  simp [invoke, callMethod, hme, callFunc, hf, hn', hb']
  exact List.take_of_length_le (by simp)
theorem MV.callI {Lo Lr Lv : List Asr} {vw : Bool} {f : FuncId} {vals all : List Value} {post : Value → List Asr → Prop} {o : Oper} {x : Operand} {xs : List Operand} {ts : Array TypeId} {fn : Func} {t : TypeId} {v0 : Value} {name : String} (hspec : Ctr P vw f all (Lo ++ Lv) post)
    (hall : all = v0 :: vals) (ho : o.op = .call ⟨.invoke x name, xs.toArray, ts⟩) (hv0 : ev env x = some (.iface t v0)) (hm : methB P t name f = true) (hf : P.funcs[f]? = some fn) (hn : (fn.name == "runtime.NumGoroutine") = false) (hb : fn.body.isNone = false) (hx : evs env xs = some vals)
    (σo σr : List Nat) (hσ : nd (σo ++ σr) = true) (hlo : pickL L σo = some Lo) (hlr : pickL L σr = some Lr) (hv : drvL vw Lr Lv) : MV P n c env L o (fun v L' => ∃ L1, post v L1 ∧ L' = L1 ++ Lr) := by
  intro a w hr hs
  subst hall
  rw [run_callI ho (hr.eval hv0) hm hf hn hb, hr.evals hx]
  exact Sat.call hspec hs σo σr hσ hlo hlr hv
theorem QV.asrt {x : Operand} {xt t : TypeId} {v : Value} {u : TypeDesc} (ht : P.underlying t = some u) (hi : (match u with | .interface _ => true | _ => false) = false) (hx : ev env x = some (.iface t v)) : QV P n c env L ⟨d, .typeAssert x xt t false, ty, ps, af, g⟩ v := fun a w hr _ => by
  cases u <;> simp at hi <;> simp [execOp, Instr.typeAssert, hr.eval hx, run_underlying ht]

/-! ### A slice's first places, as an array -/
theorem QV.toArr {α : Type} {E : Enc α} {x : Operand} {arr e : TypeId} {m : Nat} {sv : Value} {xs : List α} (hrd : Rdg c L E sv xs) (ht : P.underlying arr = some (.array m e)) (hx : ev env x = some sv) (h : (m : Int) ≤ xs.length ∧ 0 < m) : QV P n c env L ⟨d, .sliceToArrayPointer arr x, ty, ps, af, g⟩ (.pointer (some (elA sv 0))) := fun a w hr hs => by
  obtain ⟨A, sm, cp, rfl, hm, hmc, hm63, hA, _⟩ := hrd w hs
  cases A with
  | none => have := (hA rfl).1; omega
  | some ad =>
    have h1 : ¬ sm < m := by omega
    have h2 : ad.add 0 = ad := by unfold Addr.add; split <;> simp_all
    simp [execOp, Instr.arrayAt, hr.eval hx, run_underlying ht, h1, elA, h2]
def Arr.ofL {α : Type} [Inhabited α] (m : Nat) (xs : List α) : Arr α m := ⟨(List.range m).map (fun i => xs.getD i default), by simp⟩
theorem Arr.ofL_take {α : Type} [Inhabited α] (m : Nat) (xs : List α) (h : m ≤ xs.length) : (Arr.ofL m xs).l = xs.take m := by
  apply List.ext_getElem
  · simp [Arr.ofL]; omega
  · intro i h1 h2
    have : i < xs.length := by simp [Arr.ofL] at h1; omega
    simp [Arr.ofL, this]
theorem QV.loadArr {α : Type} [Inhabited α] {E : Enc α} {x : Operand} {t : TypeId} {m : Nat} {sv : Value} {xs : List α} (hrd : Rdg c L E sv xs) (ht : tk P t = some (true, m * E.sz)) (hx : ev env x = some (.pointer (some (elA sv 0)))) (h : (m : Int) ≤ xs.length ∧ 0 < m) : QV P n c env L ⟨d, .load t x, ty, ps, af, g⟩ (.agg ((Enc.arr m E).enc (Arr.ofL m xs)).toArray) := fun a w hr hs => by
  obtain ⟨A, sm, cp, rfl, hm, hmc, hm63, hA, hc⟩ := hrd w hs
  cases A with
  | none => have := (hA rfl).1; omega
  | some ad =>
    have h2 : ad.add 0 = ad := by unfold Addr.add; split <;> simp_all
    simp only [elA, h2] at hx
    have he : (Enc.arr m E).enc (Arr.ofL m xs) = (xs.take m).flatMap E.enc := by
      show (Arr.ofL m xs).l.flatMap E.enc = _
      rw [Arr.ofL_take m xs (by omega)]
    rw [he]
    refine run_loadOp (hr.eval hx) (run_loadVar_cells _ _ ht (by rw [flat_len, List.length_take]; congr 1; omega) fun k v hk => hc ad rfl k v ?_)
    rw [flat_take, List.getElem?_take] at hk
    split at hk
    · exact hk
    · cases hk
end
end Go.Eng
