/- What strings.Builder does with its own address, and with its bytes. -/
import Derived.Test.YtgganckggdjpaaaEngNn
import Derived.Lib.Builder
import Derived.Lib.UnsafeStr
import Derived.LoopN
set_option linter.unusedVariables false
namespace Go.Eng
open Go

/-- nil, or an object's own address. -/
def pn (p : Bool) (b : Nat) : Option Addr := match p with | true => none | false => some ⟨b, 0, none⟩

section
variable {P : Program} {n : Fsz} {c : Ctx} {env : Env} {L : List Asr} {d : Option Tmp} {ty : TypeId} {ps : String} {af : Array Edge} {g : Option (Nat × Bool)}

theorem blk_shape {w : World} {b : Nat} {T : TypeId} {ss : List Seg} (i : Nat) (hi : L[i]? = some (Asr.blk b T ss)) (hs : Sat c L w) : w.shape? b = some (T, (flat ss).length) := by
  obtain ⟨F, G, hp, _⟩ := hs.get hi
  unfold World.shape?
  rw [hp.2]
  simp
theorem QV.toUns {x : Operand} {src dst t T : TypeId} {b : Nat} {ss : List Seg} {k : Nat} (i : Nat) (hi : L[i]? = some (Asr.blk b T ss)) (hl : (flat ss).length = k + 1) (hs : P.underlying src = some (.pointer t)) (hd : P.underlying dst = some .unsafePointer) (hj : (P.info? t).map (fun j => Nat.beq j.size 0) = some false) (hx : ev env x = some (.pointer (some ⟨b, 0, none⟩))) :
    QV P n c env L ⟨d, .convert src dst x, ty, ps, af, g⟩ (.pointer (some ⟨b, 0, none⟩)) := fun a w hr hst => by
  obtain ⟨j, hj1, hj2⟩ := Option.map_eq_some_iff.1 hj
  have := Lib.run_to_unsafe w ⟨b, 0, none⟩ hs hd hj1 (by intro h; rw [h] at hj2; cases hj2) (blk_shape i hi hst) (show 0 < _ by rw [hl]; omega)
  simp [execOp, hr.eval hx, this]
theorem QV.fromUns {x : Operand} {src dst u T : TypeId} {b : Nat} {ss : List Seg} {k : Nat} (i : Nat) (hi : L[i]? = some (Asr.blk b T ss)) (hl : (flat ss).length = k) (hs : P.underlying src = some .unsafePointer) (hd : P.underlying dst = some (.pointer u)) (hu : (P.info? u).isSome = true) (hlies : liesAt P P.depth T (k / P.cellsOf T) 0 u 1 = true) (hx : ev env x = some (.pointer (some ⟨b, 0, none⟩))) :
    QV P n c env L ⟨d, .convert src dst x, ty, ps, af, g⟩ (.pointer (some ⟨b, 0, none⟩)) := fun a w hr hst => by
  obtain ⟨j, hj⟩ := Option.isSome_iff_exists.1 hu
  subst hl
  have := Lib.run_from_unsafe w ⟨b, 0, none⟩ hs hd hj (blk_shape i hi hst) hlies
  simp [execOp, hr.eval hx, this]
theorem ext_same {x : Value} : ∀ w, Sat c L w → (Extern.AbiNoEscape.same [x].toArray).run P w = .ok x w := fun _ _ => rfl
theorem run_equal_ptrS {w : World} {t e : TypeId} {a : Addr} (ht : P.underlying t = some (.pointer e)) (he : (P.info? e).isSome = true) : (Op.equal t (.pointer (some a)) (.pointer (some a))).run P w = .ok true w := by
  obtain ⟨j, hj⟩ := Option.isSome_iff_exists.1 he
  have h : ∀ d : Nat, (Op.equalIn (d + 1) t (.pointer (some a)) (.pointer (some a))).run P w = .ok true w := fun d => by
    simp [Op.equalIn, run_underlying ht, sizeOf, typeInfo, hj, run_sameAddr_same]
  exact h 9999
theorem QV.eqlPS {x y : Operand} {t yt e : TypeId} {a : Addr} (ht : P.underlying t = some (.pointer e)) (he : (P.info? e).isSome = true) (hx : ev env x = some (.pointer (some a))) (hy : ev env y = some (.pointer (some a))) : QV P n c env L ⟨d, .binOp .eql t x y yt, ty, ps, af, g⟩ (.bool true) := fun _ _ hr _ =>
  run_eql_of (hr.eval hx) (hr.eval hy) eqGuard_ptr rfl (run_equal_ptrS ht he)
theorem QV.neqPS {x y : Operand} {t yt e : TypeId} {a : Addr} (ht : P.underlying t = some (.pointer e)) (he : (P.info? e).isSome = true) (hx : ev env x = some (.pointer (some a))) (hy : ev env y = some (.pointer (some a))) : QV P n c env L ⟨d, .binOp .neq t x y yt, ty, ps, af, g⟩ (.bool false) := fun _ _ hr _ =>
  run_neq_of (hr.eval hx) (hr.eval hy) eqGuard_ptr rfl (run_equal_ptrS ht he)
theorem QV.sliceData {α : Type} {E : Enc α} {sv : SlV} {xs : List α} {x : Operand} {t : TypeId} (hrd : Rdg c L E sv.v xs) (h0 : 0 < xs.length) (hx : ev env x = some sv.v) : QV P n c env L ⟨d, .call ⟨.builtin .unsafeSliceData, #[x], #[t]⟩, ty, ps, af, g⟩ (.pointer sv.a) := fun a w hr hst => by
  obtain ⟨A, m, cp, hv, hm, hmc, _, hA, _⟩ := hrd w hst
  obtain ⟨sa, sm, sc⟩ := sv
  simp only [SlV.v, Value.slice.injEq] at hv
  obtain ⟨rfl, rfl, rfl⟩ := hv
  have hb : ∀ ty cs x, builtin .unsafeSliceData #[t] ty cs #[x] = (do pure (.value (← Builtin.unsafeSliceData_ #[t] ty #[x]))) := fun _ _ _ => rfl
  cases sa with
  | none => have := hA rfl; omega
  | some ad =>
    have h1 := Lib.run_unsafeSliceData_row (P := P) w #[t] ty ad sm sc (by omega)
    simp only [SlV.v] at hx
    simp [execOp, resolve, invoke, hb, hr.eval hx, h1]
theorem freeze_heapN (w : World) (g k m : Nat) (hm : m ≠ 0) (cur : Array Value) (t : TypeId) (h : w.heap[g]? = some (.cells cur t (0, 0))) : ∃ z, (w.freeze ⟨g, k, none⟩ m).heap[g]? = some (.cells cur t z) ∧ (∀ b, b ≠ g → (w.freeze ⟨g, k, none⟩ m).heap[b]? = w.heap[b]?) ∧ (w.freeze ⟨g, k, none⟩ m).heap.size = w.heap.size ∧ (w.freeze ⟨g, k, none⟩ m).os = w.os ∧ (w.freeze ⟨g, k, none⟩ m).tape = w.tape ∧ (w.freeze ⟨g, k, none⟩ m).output = w.output := by
  unfold World.freeze
  rw [if_neg hm]
  refine ⟨(k, k + m), ?_, fun b hb => ?_, by simp, rfl, rfl, rfl⟩
  · simp only [Array.getElem?_modify, if_true, h]
    rfl
  · simp only [Array.getElem?_modify]
    rw [if_neg (Ne.symm hb)]
/-- unsafe.String over bytes of the call's own: nobody writes them any more. -/
theorem MV.unsStr {x y : Operand} {pt it e : TypeId} {sv : SlV} {xs : List Int} (i : Nat) (hi : L[i]? = some (Asr.of e (Enc.int .u8) sv.v xs)) (hpt : P.underlying pt = some (.pointer e)) (hc1 : P.cellsOf e = 1) (hb : 0 < xs.length ∧ ∀ x ∈ xs, 0 ≤ x ∧ x ≤ 255) (hx : ev env x = some (.pointer sv.a)) (hy : ev env y = some (.int .i64 xs.length)) :
    MV P n c env L ⟨d, .call ⟨.builtin .unsafeString, #[x, y], #[pt, it]⟩, ty, ps, af, g⟩ (fun v L' => v = .string (strOfNums xs) ∧ L' = L.set i (Asr.vw (Enc.int .u8) sv.v xs)) := fun a w hr hs => by
  obtain ⟨F1, G, hp, hdom, _, hput⟩ := hs.zoom hi
  have hrd := rds_of hp.1
  have hlen := hp.1.1
  rcases hp.1.2 with ⟨_, h0⟩ | ⟨g', cap, cur, hval, hbb, hg, hnc, hcm, hcs, htake⟩
  · omega
  · simp only [Value.slice.injEq] at hval
    obtain ⟨a1, a2, a3⟩ := hval
    have hF : F1 g' := hp.2 g' (by simp [SlV.v, a1, Value.ownBlock])
    have hsh : w.shape? g' = some (e, cur.size) := by unfold World.shape?; rw [hg]
    obtain ⟨z, z1, z2, z3, z4, z5, z6⟩ := freeze_heapN w g' 0 xs.length (by omega) cur e hg
    obtain ⟨l, hl⟩ : ∃ l : List UInt8, l = xs.map (fun b => b.toNat.toUInt8) := ⟨_, rfl⟩
    have hll : l.length = xs.length := by rw [hl]; simp
    have hcell : ∀ j x, l[j]? = some x → w.cell? ((⟨g', 0, none⟩ : Addr).add j) = some (.int .u8 x.toNat) := fun j u hu => by
      obtain ⟨A, m, cp, h1, h2, h3, h4, h5, h6⟩ := hrd
      simp only [SlV.v, Value.slice.injEq] at h1
      rw [hl, List.getElem?_map] at hu
      obtain ⟨q, hq1, hq2⟩ := Option.map_eq_some_iff.1 hu
      have hqb := hb.2 q (List.mem_of_getElem? hq1)
      have h7 := h6 ⟨g', 0, none⟩ (by rw [← h1.1]; exact a1) j (.int .u8 q) (by
        have : xs.flatMap (Enc.int .u8).enc = xs.map (Value.int .u8) := by simp [Enc.int, List.map_eq_flatMap]
        rw [this, List.getElem?_map, hq1]; rfl)
      rw [h7, ← hq2]
      have : ((q.toNat.toUInt8).toNat : Int) = q := by
        have h8 : (q.toNat.toUInt8).toNat = q.toNat := by
          simp only [Nat.toUInt8, UInt8.toNat_ofNat']
          omega
        omega
      rw [this]
    have hrun := Lib.run_unsafeString_row (P := P) w pt it ty e hpt hc1 g' cur.size hsh l (by intro h; rw [h] at hll; simp at hll; omega) (by rw [hll, hcs]; simp [Enc.int]; exact hnc) (by rw [hll]; simp only [maxLen] at hcm; omega) hcell
    have hbu : ∀ ty cs x y, builtin .unsafeString #[pt, it] ty cs #[x, y] = (do pure (.value (← Builtin.unsafeString_ #[pt, it] ty #[x, y]))) := fun _ _ _ _ => rfl
    have : (execOp a.eval ⟨d, .call ⟨.builtin .unsafeString, #[x, y], #[pt, it]⟩, ty, ps, af, g⟩).run P w = .ok (.value (.string (strOfNums xs))) (w.freeze ⟨g', 0, none⟩ xs.length) := by
      rw [a1] at hx
      rw [hll] at hrun
      have hst : (⟨l.toArray⟩ : ByteArray) = strOfNums xs := by rw [hl]; rfl
      rw [hst] at hrun
      simp [execOp, resolve, invoke, hbu, hr.eval hx, hr.eval hy, hrun]
    rw [this]
    have hcell2 : ∀ k, (w.freeze ⟨g', 0, none⟩ xs.length).cell? ⟨g', k, none⟩ = w.cell? ⟨g', k, none⟩ := fun k => by simp [World.cell?, z1, hg]
    have hs2 : Sat c (L.set i (Asr.ro (Enc.int .u8) sv.v xs)) (w.freeze ⟨g', 0, none⟩ xs.length) := by
      refine hput _ F1 _ ⟨?_, fun ad m cp e' h0 => ?_⟩ (fun b hb hn => z2 b (fun e => hn (e ▸ hF))) (fun b hb => .inl hb) (fun b hb => by rw [z3]; exact hdom b hb) (by rw [z3]; exact Nat.le_refl _) z4 z5 z6
      · obtain ⟨A, m, cp, h1, h2, h3, h4, h5, h6⟩ := hrd
        refine ⟨A, m, cp, h1, h2, h3, h4, h5, fun ad hA k v hk => ?_⟩
        simp only [SlV.v, Value.slice.injEq] at h1
        have h7 := h6 ad hA k v hk
        rw [← h1.1, a1] at hA
        obtain rfl := Option.some.inj hA
        rw [add_plain] at h7 ⊢
        rw [hcell2]
        exact h7
      · simp only [SlV.v, a1, Value.slice.injEq, Option.some.injEq] at e'
        obtain ⟨rfl, _, _⟩ := e'
        exact hF
    have hl2 := (List.getElem?_eq_some_iff.1 hi).1
    refine ⟨_, ⟨rfl, rfl⟩, ?_⟩
    have hs3 := hs2.shareG (A := Asr.ro (Enc.int .u8) sv.v xs) (B := Asr.vw (Enc.int .u8) sv.v xs) i (List.getElem?_set_self hl2) (fun w F G h => ⟨h.1, fun ad n c e h0 => .inr (h.2 ad n c e h0)⟩)
    rwa [List.set_set] at hs3
/-! ### Few rounds, one behind the other; parts of values -/
def Kn.rnd (P : Program) (n : Fsz) (body : Code) (K : Kn) (m : Nat) : Kn := ⟨Exit.then (Code.roundsIn (fen n.rd) 0 P body K.q m) K.q, K.kp, fun c a w d v hk h => K.pn c a w d v hk h⟩
theorem JC.unroll {K : Kn} {body : Code} (m : Nat) (h : JC P n c env L body (Kn.rnd P n body K m)) : JC P n c env L (.loop body) K := fun a w hr hs => wpIn_loop_rounds (m + 1) (h a w hr hs)
theorem QJ.rnd_normal {K : Kn} {body : Code} {m : Nat} (h : JC P n c env L body (Kn.rnd P n body K m)) : QJ n c env L (Kn.rnd P n body K (m + 1)) .normal := h
theorem QJ.rnd_exit {K : Kn} {body : Code} {m id : Nat} (h : QJ n c env L K (.exit id)) : QJ n c env L (Kn.rnd P n body K m) (.exit id) := h
theorem QJ.rnd_ret {K : Kn} {body : Code} {m : Nat} (h : QJ n c env L K .ret) : QJ n c env L (Kn.rnd P n body K m) .ret := h
theorem QJ.rnd_panic {K : Kn} {body : Code} {m : Nat} {ch : List PanicEntry} (h : QJ n c env L K (.panic ch)) : QJ n c env L (Kn.rnd P n body K m) (.panic ch) := h
def fieldTO (P : Program) (S i : Nat) : Option (TypeId × Nat) := match P.underlying S with
  | some (.struct fs) => (fs[i]?).map (fun f => (f.type, f.offset))
  | _ => none
theorem QV.field1 {S i off : Nat} {t : TypeId} {s : Nat} {x : Operand} {ss : List Seg} {v : Value} (j : Nat) (h : fieldTO P S i = some (t, off)) (ht : tk P t = some (false, s)) (hx : ev env x = some (.agg (flat ss).toArray)) (ho : size (ss.take j) = off) (hv : flat ((ss.drop j).take 1) = [v]) : QV P n c env L ⟨d, .field S x i, ty, ps, af, g⟩ v := fun a w hr _ => by
  obtain ⟨h1, h2⟩ := run_isAgg (w := w) ht
  unfold fieldTO at h
  split at h
  · rename_i fs hu
    obtain ⟨f, hf, hft⟩ := Option.map_eq_some_iff.1 h
    simp only [Prod.mk.injEq] at hft
    obtain ⟨rfl, rfl⟩ := hft
    have hk := flat_at (ss := ss) j 1 _ ho 0 (by rw [hv]; simp)
    rw [hv, Nat.add_zero] at hk
    have hk : (flat ss)[f.offset]? = some v := by rw [hk]; rfl
    have ha : asAgg (.agg (flat ss).toArray) = pure (flat ss).toArray := rfl
    simp [execOp, Instr.field, hr.eval hx, run_underlying hu, hf, ha, part, h1, hk]
  · cases h
/-- An element of an array's value that is a struct. -/
theorem QV.indexVN {α : Type} [Inhabited α] {x y : Operand} {t e : TypeId} {s m : Nat} {E : Enc α} {xs : Arr α m} {k : IntKind} {i : Int} (ht : P.underlying t = some (.array m e)) (he : tk P e = some (true, s)) (hx : ev env x = some (.agg ((Enc.arr m E).enc xs).toArray)) (hy : ev env y = some (.int k i)) (hs : s = E.sz)
    (h : 0 ≤ i ∧ i < m) : QV P n c env L ⟨d, .index t x y, ty, ps, af, g⟩ (.agg (E.enc (gd xs.l i)).toArray) := fun a w hr _ => by
  obtain ⟨h1, h2⟩ := run_isAgg (w := w) he
  subst hs
  have hlen := E.len (gd xs.l i)
  have hi : i.toNat < xs.l.length := by rw [xs.h]; omega
  have key : List.take E.sz (List.drop (i.toNat * E.sz) ((Enc.arr m E).enc xs)) = E.enc (gd xs.l i) := by
    show List.take E.sz (List.drop (i.toNat * E.sz) (xs.l.flatMap E.enc)) = _
    apply List.ext_getElem?
    intro q
    rw [List.getElem?_take]
    by_cases hq : q < E.sz
    · rw [if_pos hq, List.getElem?_drop, flat_get E xs.l i.toNat q _ (gd_get (by rw [xs.h]; exact h)) hq]
    · rw [if_neg hq, List.getElem?_eq_none (by show (E.enc (gd xs.l i)).length ≤ q; omega)]
  simp [execOp, Instr.index, hr.eval hx, hr.eval hy, asIntOf, run_underlying ht, h.1, h.2, part, h1, h2, key]
end
end Go.Eng
