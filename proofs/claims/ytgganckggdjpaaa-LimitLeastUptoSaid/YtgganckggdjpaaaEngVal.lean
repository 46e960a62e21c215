/- Rules for operations that only compute: whole numbers, bools, strings, addresses. -/
import Derived.Test.YtgganckggdjpaaaEngOps
namespace Go.Eng
open Go

section
variable {P : Program} {n : Fsz} {c : Ctx} {env : Env} {L : List Asr} {d : Option Tmp} {ty : TypeId} {ps : String} {af : Array Edge} {g : Option (Nat × Bool)}

theorem QV.move {x : Operand} {v : Value} (h : ev env x = some v) : QV P n c env L ⟨d, .move x, ty, ps, af, g⟩ v := fun a w hr _ => by
  show Result.ok (Next.value (a.eval x)) w = _
  rw [hr.eval h]
theorem QV.assign {x : Operand} {v : Value} (h : ev env x = some v) : QV P n c env L ⟨d, .assign x, ty, ps, af, g⟩ v := fun a w hr _ => by
  show Result.ok (Next.value (a.eval x)) w = _
  rw [hr.eval h]
theorem QV.pickT {x y z : Operand} {v : Value} (h : ev env x = some (.bool true)) (hy : ev env y = some v) : QV P n c env L ⟨d, .pick x y z, ty, ps, af, g⟩ v := fun a w hr _ => by
  simp [execOp, hr.eval h, hr.eval hy, asBool]
theorem QV.pickF {x y z : Operand} {v : Value} (h : ev env x = some (.bool false)) (hz : ev env z = some v) : QV P n c env L ⟨d, .pick x y z, ty, ps, af, g⟩ v := fun a w hr _ => by
  simp [execOp, hr.eval h, hr.eval hz, asBool]
theorem QV.eq {o : Oper} {v v' : Value} (h : QV P n c env L o v) (e : v = v') : QV P n c env L o v' := e ▸ h

/-! ### Whole numbers -/
def andI (k : IntKind) (x y : Int) : Int := k.wrap (BitVec.ofInt k.bits x &&& BitVec.ofInt k.bits y).toNat
def orI (k : IntKind) (x y : Int) : Int := k.wrap (BitVec.ofInt k.bits x ||| BitVec.ofInt k.bits y).toNat
def xorI (k : IntKind) (x y : Int) : Int := k.wrap (BitVec.ofInt k.bits x ^^^ BitVec.ofInt k.bits y).toNat
def andNotI (k : IntKind) (x y : Int) : Int := k.wrap (BitVec.ofInt k.bits x &&& ~~~ BitVec.ofInt k.bits y).toNat
def shlI (k : IntKind) (x y : Int) : Int := k.wrap (x * 2 ^ (min y.toNat k.bits))
def shrI (k : IntKind) (x y : Int) : Int := x.fdiv (2 ^ (min y.toNat k.bits))
def minI (x y : Int) : Int := if y < x then y else x
def maxI (x y : Int) : Int := if x < y then y else x

section
variable {x y : Operand} {t yt : TypeId} {k : IntKind} {a b : Int}
theorem run_bin {ρ : Operand → Value} {w : World} {op : BinOp} {r : Value} (hx : ρ x = .int k a) (hy : ρ y = .int k b) (h : (binOp op t (.int k a) (.int k b)).run P w = .ok r w) :
    (execOp ρ ⟨d, .binOp op t x y yt, ty, ps, af, g⟩).run P w = .ok (.value r) w := by
  simp only [execOp, hx, hy]
  have he : (eqGuard op t x y (.int k a) (.int k b)) = pure () := by unfold eqGuard; cases op <;> rfl
  simp [he, h]
theorem QV.add (hx : ev env x = some (.int k a)) (hy : ev env y = some (.int k b)) : QV P n c env L ⟨d, .binOp .add t x y yt, ty, ps, af, g⟩ (.int k (k.wrap (a + b))) := fun _ _ hr _ =>
  run_bin (hr.eval hx) (hr.eval hy) (by simp [binOp, Op.intArith])
theorem QV.sub (hx : ev env x = some (.int k a)) (hy : ev env y = some (.int k b)) : QV P n c env L ⟨d, .binOp .sub t x y yt, ty, ps, af, g⟩ (.int k (k.wrap (a - b))) := fun _ _ hr _ =>
  run_bin (hr.eval hx) (hr.eval hy) (by simp [binOp, Op.intArith])
theorem QV.mul (hx : ev env x = some (.int k a)) (hy : ev env y = some (.int k b)) : QV P n c env L ⟨d, .binOp .mul t x y yt, ty, ps, af, g⟩ (.int k (k.wrap (a * b))) := fun _ _ hr _ =>
  run_bin (hr.eval hx) (hr.eval hy) (by simp [binOp, Op.intArith])
theorem QV.quo (hx : ev env x = some (.int k a)) (hy : ev env y = some (.int k b)) (h0 : b ≠ 0) : QV P n c env L ⟨d, .binOp .quo t x y yt, ty, ps, af, g⟩ (.int k (k.wrap (a.tdiv b))) := fun _ _ hr _ =>
  run_bin (hr.eval hx) (hr.eval hy) (by simp [binOp, Op.intDiv, h0])
theorem QV.rem (hx : ev env x = some (.int k a)) (hy : ev env y = some (.int k b)) (h0 : b ≠ 0) : QV P n c env L ⟨d, .binOp .rem t x y yt, ty, ps, af, g⟩ (.int k (a.tmod b)) := fun _ _ hr _ =>
  run_bin (hr.eval hx) (hr.eval hy) (by simp [binOp, Op.intDiv, h0])
theorem QV.and (hx : ev env x = some (.int k a)) (hy : ev env y = some (.int k b)) : QV P n c env L ⟨d, .binOp .and t x y yt, ty, ps, af, g⟩ (.int k (andI k a b)) := fun _ _ hr _ =>
  run_bin (hr.eval hx) (hr.eval hy) (by simp [binOp, Op.intBits, andI])
theorem QV.or (hx : ev env x = some (.int k a)) (hy : ev env y = some (.int k b)) : QV P n c env L ⟨d, .binOp .or t x y yt, ty, ps, af, g⟩ (.int k (orI k a b)) := fun _ _ hr _ =>
  run_bin (hr.eval hx) (hr.eval hy) (by simp [binOp, Op.intBits, orI])
theorem QV.xor (hx : ev env x = some (.int k a)) (hy : ev env y = some (.int k b)) : QV P n c env L ⟨d, .binOp .xor t x y yt, ty, ps, af, g⟩ (.int k (xorI k a b)) := fun _ _ hr _ =>
  run_bin (hr.eval hx) (hr.eval hy) (by simp [binOp, Op.intBits, xorI])
theorem QV.andNot (hx : ev env x = some (.int k a)) (hy : ev env y = some (.int k b)) : QV P n c env L ⟨d, .binOp .andNot t x y yt, ty, ps, af, g⟩ (.int k (andNotI k a b)) := fun _ _ hr _ =>
  run_bin (hr.eval hx) (hr.eval hy) (by simp [binOp, Op.intBits, andNotI])
theorem QV.eql (hx : ev env x = some (.int k a)) (hy : ev env y = some (.int k b)) : QV P n c env L ⟨d, .binOp .eql t x y yt, ty, ps, af, g⟩ (.bool (decide (a = b))) := fun _ _ hr _ =>
  run_bin (hr.eval hx) (hr.eval hy) (by by_cases h : a = b <;> simp [binOp, Op.intCmp, h])
theorem QV.neq (hx : ev env x = some (.int k a)) (hy : ev env y = some (.int k b)) : QV P n c env L ⟨d, .binOp .neq t x y yt, ty, ps, af, g⟩ (.bool (!decide (a = b))) := fun _ _ hr _ =>
  run_bin (hr.eval hx) (hr.eval hy) (by by_cases h : a = b <;> simp [binOp, Op.intCmp, h])
theorem QV.lss (hx : ev env x = some (.int k a)) (hy : ev env y = some (.int k b)) : QV P n c env L ⟨d, .binOp .lss t x y yt, ty, ps, af, g⟩ (.bool (decide (a < b))) := fun _ _ hr _ =>
  run_bin (hr.eval hx) (hr.eval hy) (by simp [binOp, Op.intCmp])
theorem QV.leq (hx : ev env x = some (.int k a)) (hy : ev env y = some (.int k b)) : QV P n c env L ⟨d, .binOp .leq t x y yt, ty, ps, af, g⟩ (.bool (decide (a ≤ b))) := fun _ _ hr _ =>
  run_bin (hr.eval hx) (hr.eval hy) (by simp [binOp, Op.intCmp])
theorem QV.gtr (hx : ev env x = some (.int k a)) (hy : ev env y = some (.int k b)) : QV P n c env L ⟨d, .binOp .gtr t x y yt, ty, ps, af, g⟩ (.bool (decide (b < a))) := fun _ _ hr _ =>
  run_bin (hr.eval hx) (hr.eval hy) (by simp [binOp, Op.intCmp])
theorem QV.geq (hx : ev env x = some (.int k a)) (hy : ev env y = some (.int k b)) : QV P n c env L ⟨d, .binOp .geq t x y yt, ty, ps, af, g⟩ (.bool (decide (b ≤ a))) := fun _ _ hr _ =>
  run_bin (hr.eval hx) (hr.eval hy) (by simp [binOp, Op.intCmp])
theorem QV.shl {k' : IntKind} (hx : ev env x = some (.int k a)) (hy : ev env y = some (.int k' b)) (h0 : 0 ≤ b) : QV P n c env L ⟨d, .binOp .shl t x y yt, ty, ps, af, g⟩ (.int k (shlI k a b)) := fun a' w hr _ => by
  have : ¬ b < 0 := by omega
  simp only [execOp, hr.eval hx, hr.eval hy, eqGuard, binOp, Op.shift, if_neg this]
  rfl
theorem QV.shr {k' : IntKind} (hx : ev env x = some (.int k a)) (hy : ev env y = some (.int k' b)) (h0 : 0 ≤ b) : QV P n c env L ⟨d, .binOp .shr t x y yt, ty, ps, af, g⟩ (.int k (shrI k a b)) := fun a' w hr _ => by
  have : ¬ b < 0 := by omega
  simp only [execOp, hr.eval hx, hr.eval hy, eqGuard, binOp, Op.shift, if_neg this]
  rfl
end
theorem QV.neg {x : Operand} {t : TypeId} {k : IntKind} {a : Int} (hx : ev env x = some (.int k a)) : QV P n c env L ⟨d, .unOp .neg t x, ty, ps, af, g⟩ (.int k (k.wrap (0 - a))) := fun _ _ hr _ => by
  simp [execOp, hr.eval hx, Op.unary, Op.intArith]
theorem QV.com {x : Operand} {t : TypeId} {k : IntKind} {a : Int} (hx : ev env x = some (.int k a)) : QV P n c env L ⟨d, .unOp .xor t x, ty, ps, af, g⟩ (.int k (xorI k (if k.signed then -1 else k.max) a)) := fun _ _ hr _ => by
  simp [execOp, hr.eval hx, Op.unary, Op.intBits, xorI]
theorem QV.not {x : Operand} {t : TypeId} {b : Bool} (hx : ev env x = some (.bool b)) : QV P n c env L ⟨d, .unOp .not t x, ty, ps, af, g⟩ (.bool (!b)) := fun _ _ hr _ => by
  simp [execOp, hr.eval hx, Op.unary]
theorem QV.conv {s t : TypeId} {x : Operand} {k k' : IntKind} {a : Int} (hx : ev env x = some (.int k a)) (hs : (P.underlying s).isSome = true) (ht : P.underlying t = some (.int k')) : QV P n c env L ⟨d, .convert s t x, ty, ps, af, g⟩ (.int k' (k'.wrap a)) := fun _ _ hr _ => by
  obtain ⟨ds, hs⟩ := Option.isSome_iff_exists.1 hs
  simp [execOp, hr.eval hx, convert, run_underlying hs, run_underlying ht, Conv.intToInt]
theorem QV.min2 {x y : Operand} {ts : Array TypeId} {k : IntKind} {a b : Int} (hx : ev env x = some (.int k a)) (hy : ev env y = some (.int k b)) : QV P n c env L ⟨d, .call ⟨.builtin .min, #[x, y], ts⟩, ty, ps, af, g⟩ (.int k (minI a b)) := fun _ _ hr _ => by
  simp [execOp, resolve, invoke, builtin, Builtin.min_, Builtin.min2, hr.eval hx, hr.eval hy, minI]
theorem QV.max2 {x y : Operand} {ts : Array TypeId} {k : IntKind} {a b : Int} (hx : ev env x = some (.int k a)) (hy : ev env y = some (.int k b)) : QV P n c env L ⟨d, .call ⟨.builtin .max, #[x, y], ts⟩, ty, ps, af, g⟩ (.int k (maxI a b)) := fun _ _ hr _ => by
  simp [execOp, resolve, invoke, builtin, Builtin.max_, Builtin.max2, hr.eval hx, hr.eval hy, maxI]

/-! ### Bools, strings, pointers -/
theorem run_equalIn_bool {w : World} {t : TypeId} {a b : Bool} (ht : P.underlying t = some .bool) (d : Nat) : (Op.equalIn (d + 1) t (.bool a) (.bool b)).run P w = .ok (a == b) w := by
  simp [Op.equalIn, run_underlying ht]
theorem run_equal_bool {w : World} {t : TypeId} {a b : Bool} (ht : P.underlying t = some .bool) : (Op.equal t (.bool a) (.bool b)).run P w = .ok (a == b) w := run_equalIn_bool ht 9999
theorem run_eql_of {ρ : Operand → Value} {w : World} {x y : Operand} {t yt : TypeId} {u v : Value} {b : Bool} (hx : ρ x = u) (hy : ρ y = v) (hg : eqGuard .eql t x y u v = pure ()) (hb : binOp .eql t u v = do pure (.bool (← Op.equal t u v))) (h : (Op.equal t u v).run P w = .ok b w) :
    (execOp ρ ⟨d, .binOp .eql t x y yt, ty, ps, af, g⟩).run P w = .ok (.value (.bool b)) w := by
  simp only [execOp, hx, hy, hg, hb]
  simp [h]
theorem run_neq_of {ρ : Operand → Value} {w : World} {x y : Operand} {t yt : TypeId} {u v : Value} {b : Bool} (hx : ρ x = u) (hy : ρ y = v) (hg : eqGuard .neq t x y u v = pure ()) (hb : binOp .neq t u v = do pure (.bool (!(← Op.equal t u v)))) (h : (Op.equal t u v).run P w = .ok b w) :
    (execOp ρ ⟨d, .binOp .neq t x y yt, ty, ps, af, g⟩).run P w = .ok (.value (.bool (!b))) w := by
  simp only [execOp, hx, hy, hg, hb]
  simp [h]
theorem QV.eqlB {x y : Operand} {t yt : TypeId} {a b : Bool} (ht : P.underlying t = some .bool) (hx : ev env x = some (.bool a)) (hy : ev env y = some (.bool b)) : QV P n c env L ⟨d, .binOp .eql t x y yt, ty, ps, af, g⟩ (.bool (a == b)) := fun _ _ hr _ =>
  run_eql_of (hr.eval hx) (hr.eval hy) rfl rfl (run_equal_bool ht)
theorem QV.neqB {x y : Operand} {t yt : TypeId} {a b : Bool} (ht : P.underlying t = some .bool) (hx : ev env x = some (.bool a)) (hy : ev env y = some (.bool b)) : QV P n c env L ⟨d, .binOp .neq t x y yt, ty, ps, af, g⟩ (.bool (!(a == b))) := fun _ _ hr _ =>
  run_neq_of (hr.eval hx) (hr.eval hy) rfl rfl (run_equal_bool ht)
theorem toList_loop (s : ByteArray) : ∀ (m i : Nat) (r : List UInt8), s.size - i = m → ByteArray.toList.loop s i r = r.reverse ++ s.data.toList.drop i := by
  intro m
  induction m with
  | zero =>
    intro i r h
    unfold ByteArray.toList.loop
    have : ¬ i < s.size := by omega
    rw [if_neg this, List.drop_eq_nil_of_le (by simp; have : s.data.size = s.size := rfl; omega)]
    simp
  | succ m ih =>
    intro i r h
    unfold ByteArray.toList.loop
    have hl : i < s.size := by omega
    rw [if_pos hl, ih _ _ (by omega)]
    have hl' : i < s.data.toList.length := by simpa using hl
    rw [List.drop_eq_getElem_cons hl']
    have e : s.get! i = s.data.toList[i] := by
      have hl2 : i < s.data.size := hl
      simp [ByteArray.get!, Array.getElem!_eq_getD]
      rw [Array.getElem?_eq_getElem hl2]
      rfl
    simp [e]
theorem toList_data (s : ByteArray) : s.toList = s.data.toList := by
  unfold ByteArray.toList
  rw [toList_loop s s.size 0 [] (by omega)]
  simp
theorem str_beq (a b : ByteArray) : (a.toList == b.toList) = decide (a = b) := by
  rw [Bool.eq_iff_iff]
  simp only [beq_iff_eq, decide_eq_true_eq]
  constructor
  · intro h
    have h' : a.data.toList = b.data.toList := by rw [toList_data, toList_data] at h; exact h
    cases a; cases b
    simp at h'
    rw [h']
  · rintro rfl; rfl
theorem run_str {ρ : Operand → Value} {w : World} {op : BinOp} {x y : Operand} {t yt : TypeId} {a b : ByteArray} {r : Value} (hx : ρ x = .string a) (hy : ρ y = .string b) (h : (Op.stringOp op a b).run P w = .ok r w) (hb : binOp op t (.string a) (.string b) = Op.stringOp op a b) :
    (execOp ρ ⟨d, .binOp op t x y yt, ty, ps, af, g⟩).run P w = .ok (.value r) w := by
  simp only [execOp, hx, hy, hb]
  have he : (eqGuard op t x y (.string a) (.string b)) = pure () := by unfold eqGuard; cases op <;> rfl
  simp [he, h]
theorem QV.eqlS {x y : Operand} {t yt : TypeId} {a b : ByteArray} (hx : ev env x = some (.string a)) (hy : ev env y = some (.string b)) : QV P n c env L ⟨d, .binOp .eql t x y yt, ty, ps, af, g⟩ (.bool (decide (a = b))) := fun _ _ hr _ =>
  run_str (hr.eval hx) (hr.eval hy) (by simp only [Op.stringOp, str_beq]; rfl) rfl
theorem QV.neqS {x y : Operand} {t yt : TypeId} {a b : ByteArray} (hx : ev env x = some (.string a)) (hy : ev env y = some (.string b)) : QV P n c env L ⟨d, .binOp .neq t x y yt, ty, ps, af, g⟩ (.bool (!decide (a = b))) := fun _ _ hr _ =>
  run_str (hr.eval hx) (hr.eval hy) (by simp only [Op.stringOp, str_beq]; rfl) rfl
theorem QV.addS {x y : Operand} {t yt : TypeId} {a b : ByteArray} (hx : ev env x = some (.string a)) (hy : ev env y = some (.string b)) (hl : a.size + b.size ≤ 9223372036854775807) : QV P n c env L ⟨d, .binOp .add t x y yt, ty, ps, af, g⟩ (.string (a ++ b)) := fun _ _ hr _ => by
  refine run_str (hr.eval hx) (hr.eval hy) ?_ rfl
  have : ¬ (((a.size + b.size : Nat) : Int) > IntKind.i64.max) := by
    have : IntKind.i64.max = 9223372036854775807 := by decide
    rw [this]; omega
  simp only [Op.stringOp, if_neg this]
  rfl
theorem QV.nilCheck {x : Operand} {a : Addr} (hx : ev env x = some (.pointer (some a))) : QV P n c env L ⟨d, .nilCheck x, ty, ps, af, g⟩ (.pointer (some a)) := fun _ _ hr _ => by
  simp [execOp, hr.eval hx]
theorem run_equalIn_ptr {w : World} {t e : TypeId} {a b : Option Addr} (ht : P.underlying t = some (.pointer e)) (hn : a = none ∨ b = none) (d : Nat) : (Op.equalIn (d + 1) t (.pointer a) (.pointer b)).run P w = .ok (decide (a = b)) w := by
  rcases hn with rfl | rfl
  · cases b <;> simp [Op.equalIn, run_underlying ht]
  · cases a <;> simp [Op.equalIn, run_underlying ht]
theorem run_equal_ptr {w : World} {t e : TypeId} {a b : Option Addr} (ht : P.underlying t = some (.pointer e)) (hn : a = none ∨ b = none) : (Op.equal t (.pointer a) (.pointer b)).run P w = .ok (decide (a = b)) w := run_equalIn_ptr ht hn 9999
theorem eqGuard_ptr {op : BinOp} {t : TypeId} {x y : Operand} {a b : Option Addr} : eqGuard op t x y (.pointer a) (.pointer b) = pure () := by unfold eqGuard; cases op <;> rfl
theorem QV.eqlP {x y : Operand} {t yt e : TypeId} {a b : Option Addr} (ht : P.underlying t = some (.pointer e)) (hx : ev env x = some (.pointer a)) (hy : ev env y = some (.pointer b)) (hn : a = none ∨ b = none) : QV P n c env L ⟨d, .binOp .eql t x y yt, ty, ps, af, g⟩ (.bool (decide (a = b))) := fun _ _ hr _ =>
  run_eql_of (hr.eval hx) (hr.eval hy) eqGuard_ptr (by cases a <;> cases b <;> rfl) (run_equal_ptr ht hn)
theorem QV.neqP {x y : Operand} {t yt e : TypeId} {a b : Option Addr} (ht : P.underlying t = some (.pointer e)) (hx : ev env x = some (.pointer a)) (hy : ev env y = some (.pointer b)) (hn : a = none ∨ b = none) : QV P n c env L ⟨d, .binOp .neq t x y yt, ty, ps, af, g⟩ (.bool (!decide (a = b))) := fun _ _ hr _ =>
  run_neq_of (hr.eval hx) (hr.eval hy) eqGuard_ptr (by cases a <;> cases b <;> rfl) (run_equal_ptr ht hn)
theorem QV.extract {x : Operand} {i : Nat} {vs : List Value} {v : Value} (hx : ev env x = some (.tuple vs.toArray)) (hv : vs[i]? = some v) : QV P n c env L ⟨d, .extract x i, ty, ps, af, g⟩ v := fun _ _ hr _ => by
  simp [execOp, hr.eval hx, Instr.extract, hv]
theorem QV.lenS {x : Operand} {t : TypeId} {s : ByteArray} (ht : P.underlying t = some .string) (hx : ev env x = some (.string s)) : QV P n c env L ⟨d, .call ⟨.builtin .len, #[x], #[t]⟩, ty, ps, af, g⟩ (.int .i64 s.size) := fun _ _ hr _ => by
  simp [execOp, resolve, invoke, builtin, Builtin.len_, hr.eval hx, run_underlying ht, goInt]
def bt (s : ByteArray) (i : Int) : Int := ((s.data.getD i.toNat 0).toNat : Int)
theorem QV.indexS {x y : Operand} {t : TypeId} {s : ByteArray} {k : IntKind} {i : Int} (ht : P.underlying t = some .string) (hx : ev env x = some (.string s)) (hy : ev env y = some (.int k i)) (h0 : 0 ≤ i) (h1 : i < s.size) : QV P n c env L ⟨d, .index t x y, ty, ps, af, g⟩ (.int .u8 (bt s i)) := fun _ _ hr _ => by
  have hl : i.toNat < s.size := by omega
  have e : s[i.toNat]? = some s[i.toNat] := by simp [hl]
  have e2 : (s.data.getD i.toNat 0) = s[i.toNat] := by
    simp [Array.getD, hl]; rfl
  simp [execOp, Instr.index, hr.eval hx, hr.eval hy, asIntOf, run_underlying ht, h0, e, bt, e2]
end
end Go.Eng
