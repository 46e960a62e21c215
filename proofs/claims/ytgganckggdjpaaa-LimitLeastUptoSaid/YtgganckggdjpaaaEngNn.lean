/- Slices of slices, all of them owned: an element may be appended to, or written. -/
import Derived.Test.YtgganckggdjpaaaEngExc
set_option linter.unusedVariables false
namespace Go.Eng
open Go

def Enc.slv : Enc SlV := ⟨1, fun z => [z.v], fun _ => rfl, fun z => one_slv z⟩
theorem zip_slv {α : Type} {E : Enc α} : ∀ {zs : List SlV} {xs : List (List α)}, zs.length = xs.length → (zs.zip xs).flatMap (NE.sl E).E.enc = zs.flatMap Enc.slv.enc
  | [], [], _ => rfl
  | z :: zs, x :: xs, h => by
    simp only [List.zip_cons_cons, List.flatMap_cons]
    rw [zip_slv (by simpa using h)]
    rfl
/-- Slices, each owned, none shared with another one. -/
def Asr.ofs {α : Type} (e : TypeId) (E : Enc α) (zs : List SlV) (xs : List (List α)) : Asr where
  p w F _ := zs.length = xs.length ∧ ∃ Fs : Nat → Fp, (∀ (j : Nat) (z : SlV) (x : List α), zs[j]? = some z → xs[j]? = some x → (Asr.of e E z.v x).p w (Fs j) noFp) ∧ (∀ j b, j < zs.length → Fs j b → F b) ∧ (∀ j k b, j < zs.length → k < zs.length → j ≠ k → Fs j b → ¬ Fs k b)
  loc w w' F G h hw := by
    obtain ⟨hl, Fs, h1, h2, h3⟩ := h
    refine ⟨hl, Fs, fun j z x hz hx => (Asr.of e E z.v x).loc _ _ _ _ (h1 j z x hz hx) fun b hb => hw b (.inl (h2 j b (List.getElem?_eq_some_iff.1 hz).1 (hb.resolve_right id))), h2, h3⟩
  mono _ _ _ _ h _ := h
/-- A slice of slices, all of them owned; (o) but the one at j, whose place stays. -/
def Asr.onn {α : Type} (o e : TypeId) (E : Enc α) (sv : Value) (zs : List SlV) (xs : List (List α)) : Asr where
  p w F G := zs.length = xs.length ∧ ∃ F1 F2, (∀ b, F1 b → F b) ∧ (∀ b, F2 b → F b) ∧ (∀ b, F1 b → ¬ F2 b) ∧ (Asr.of o Enc.slv sv zs).p w F1 G ∧ (Asr.ofs e E zs xs).p w F2 G
  loc w w' F G h hw := by
    obtain ⟨hl, F1, F2, h1, h2, h3, h4, h5⟩ := h
    exact ⟨hl, F1, F2, h1, h2, h3, (Asr.of o Enc.slv sv zs).loc _ _ _ _ h4 (fun b hb => hw b (hb.imp (h1 b) id)), (Asr.ofs e E zs xs).loc _ _ _ _ h5 (fun b hb => hw b (hb.imp (h2 b) id))⟩
  mono w F G G' h hG := by
    obtain ⟨hl, F1, F2, h1, h2, h3, h4, h5⟩ := h
    exact ⟨hl, F1, F2, h1, h2, h3, (Asr.of o Enc.slv sv zs).mono _ _ _ _ h4 hG, (Asr.ofs e E zs xs).mono _ _ _ _ h5 hG⟩
def nil2 (zs : List SlV) (j : Nat) : List SlV := zs.set j SlV.nil
def Asr.onh {α : Type} (o e : TypeId) (E : Enc α) (sv : Value) (j : Nat) (zs : List SlV) (xs : List (List α)) : Asr where
  p w F G := zs.length = xs.length ∧ ∃ F1 F2, (∀ b, F1 b → F b) ∧ (∀ b, F2 b → F b) ∧ (∀ b, F1 b → ¬ F2 b) ∧ (Asr.of o Enc.slv sv zs).p w F1 G ∧ (Asr.ofs e E (nil2 zs j) (xs.set j [])).p w F2 G
  loc w w' F G h hw := by
    obtain ⟨hl, F1, F2, h1, h2, h3, h4, h5⟩ := h
    exact ⟨hl, F1, F2, h1, h2, h3, (Asr.of o Enc.slv sv zs).loc _ _ _ _ h4 (fun b hb => hw b (hb.imp (h1 b) id)), (Asr.ofs e E (nil2 zs j) (xs.set j [])).loc _ _ _ _ h5 (fun b hb => hw b (hb.imp (h2 b) id))⟩
  mono w F G G' h hG := by
    obtain ⟨hl, F1, F2, h1, h2, h3, h4, h5⟩ := h
    exact ⟨hl, F1, F2, h1, h2, h3, (Asr.of o Enc.slv sv zs).mono _ _ _ _ h4 hG, (Asr.ofs e E (nil2 zs j) (xs.set j [])).mono _ _ _ _ h5 hG⟩
theorem own_ofs {α : Type} (e : TypeId) (E : Enc α) (zs : List SlV) (xs : List (List α)) : (Asr.ofs e E zs xs).own := fun _ _ _ h => h
theorem own_onn {α : Type} (o e : TypeId) (E : Enc α) (sv : Value) (zs : List SlV) (xs : List (List α)) : (Asr.onn o e E sv zs xs).own := fun w F G h => by
  obtain ⟨hl, F1, F2, h1, h2, h3, h4, h5⟩ := h
  exact ⟨hl, F1, F2, h1, h2, h3, h4, h5⟩

section
variable {P : Program} {n : Fsz} {c : Ctx} {env : Env} {L : List Asr} {d : Option Tmp} {ty : TypeId} {ps : String} {af : Array Edge} {g : Option (Nat × Bool)}
variable {α : Type} {E : Enc α}

theorem Sat.part {w : World} {A B C : Asr} (i : Nat) (hi : L[i]? = some A) (h : ∀ F G, A.p w F G → ∃ F1 F2 : Fp, (∀ b, F1 b → F b) ∧ (∀ b, F2 b → F b) ∧ (∀ b, F1 b → ¬ F2 b) ∧ B.p w F1 G ∧ C.p w F2 G) (hs : Sat c L w) : Sat c (C :: L.set i B) w := by
  obtain ⟨F, G, ⟨Fs, h1, h2, h3⟩, hg⟩ := hs
  obtain ⟨F1, F2, a1, a2, a3, a4, a5⟩ := h _ _ (h1 i A hi)
  have hil := (List.getElem?_eq_some_iff.1 hi).1
  have sub : ∀ k b, (if k = i then F1 else Fs k) b → Fs k b := fun k b hb => by
    by_cases e : k = i
    · subst e; rw [if_pos rfl] at hb; exact a1 b hb
    · rw [if_neg e] at hb; exact hb
  refine ⟨F, G, ⟨fun k => match k with | 0 => F2 | k + 1 => if k = i then F1 else Fs k, fun k X hk => ?_, fun k b hk hb => ?_, fun j k b hj hk hne hb hb' => ?_⟩, hg⟩
  · cases k with
    | zero => simp at hk; subst hk; exact a5
    | succ k =>
      simp only [List.getElem?_cons_succ] at hk
      by_cases e : k = i
      · subst e
        rw [List.getElem?_set_self hil] at hk
        obtain rfl := Option.some.inj hk
        simpa using a4
      · rw [List.getElem?_set_ne (Ne.symm e)] at hk
        simpa [e] using h1 k X hk
  · cases k with
    | zero => exact h2 i b hil (a2 b hb)
    | succ k => exact h2 k b (by simpa using hk) (sub k b hb)
  · cases j with
    | zero =>
      cases k with
      | zero => exact hne rfl
      | succ k =>
        simp only at hb hb'
        by_cases e : k = i
        · subst e; rw [if_pos rfl] at hb'; exact a3 b hb' hb
        · exact h3 i k b hil (by simpa using hk) (Ne.symm e) (a2 b hb) (sub k b hb')
    | succ j =>
      cases k with
      | zero =>
        simp only at hb hb'
        by_cases e : j = i
        · subst e; rw [if_pos rfl] at hb; exact a3 b hb hb'
        · exact h3 j i b (by simpa using hj) hil e (sub j b hb) (a2 b hb')
      | succ k => exact h3 j k b (by simpa using hj) (by simpa using hk) (by omega) (sub j b hb) (sub k b hb')
theorem Sat.unite {w : World} {A B C : Asr} (i : Nat) (hi : L[i]? = some B) (h : ∀ F1 F2 G, (∀ b, F1 b → ¬ F2 b) → B.p w F1 G → C.p w F2 G → A.p w (fun b => F1 b ∨ F2 b) G) (hs : Sat c (C :: L) w) : Sat c (L.set i A) w := by
  obtain ⟨F, G, ⟨Fs, h1, h2, h3⟩, hg⟩ := hs
  have hil := (List.getElem?_eq_some_iff.1 hi).1
  have dis : ∀ j k b, j < L.length → k < L.length → j ≠ k → (Fs (j + 1) b ∨ (j = i ∧ Fs 0 b)) → ¬ (Fs (k + 1) b ∨ (k = i ∧ Fs 0 b)) := by
    rintro j k b hj hk hne (hb | ⟨rfl, hb⟩) (hb' | ⟨rfl, hb'⟩)
    · exact h3 (j + 1) (k + 1) b (by simp; omega) (by simp; omega) (by omega) hb hb'
    · exact h3 (j + 1) 0 b (by simp; omega) (by simp) (by omega) hb hb'
    · exact h3 0 (k + 1) b (by simp) (by simp; omega) (by omega) hb hb'
    · exact hne rfl
  refine ⟨F, G, ⟨fun k b => Fs (k + 1) b ∨ (k = i ∧ Fs 0 b), fun k X hk => ?_, fun k b hk hb => ?_, fun j k b hj hk hne hb hb' => dis j k b (by simpa using hj) (by simpa using hk) hne hb hb'⟩, hg⟩
  · by_cases e : k = i
    · subst e
      rw [List.getElem?_set_self hil] at hk
      obtain rfl := Option.some.inj hk
      have := h (Fs (k + 1)) (Fs 0) G (fun b hb hb' => h3 (k + 1) 0 b (by simp; omega) (by simp) (by omega) hb hb') (h1 (k + 1) B (by simpa using hi)) (h1 0 C rfl)
      simpa using this
    · rw [List.getElem?_set_ne (Ne.symm e)] at hk
      have := h1 (k + 1) X (by simpa using hk)
      simpa [e] using this
  · rcases hb with hb | ⟨_, hb⟩
    · exact h2 (k + 1) b (by simp at hk ⊢; omega) hb
    · exact h2 0 b (by simp) hb
theorem Sat.pull {w : World} {A : Asr} (m : Nat) (hm : L[m]? = some A) (hs : Sat c L w) : Sat c (A :: L.eraseIdx m) w := by
  obtain ⟨F, G, ⟨Fs, h1, h2, h3⟩, hg⟩ := hs
  have hml := (List.getElem?_eq_some_iff.1 hm).1
  let σ : Nat → Nat := fun k => match k with | 0 => m | k + 1 => if k < m then k else k + 1
  have hlen : (A :: L.eraseIdx m).length = L.length := by rw [List.length_cons, List.length_eraseIdx_of_lt hml]; omega
  have hσ : ∀ k, k < (A :: L.eraseIdx m).length → σ k < L.length := fun k hk => by
    rw [hlen] at hk
    cases k with
    | zero => exact hml
    | succ k => simp only [σ]; split <;> omega
  have hinj : ∀ j k, j ≠ k → σ j ≠ σ k := fun j k h => by
    cases j <;> cases k <;> simp only [σ] <;> (repeat' split) <;> omega
  refine ⟨F, G, ⟨fun k => Fs (σ k), fun k X hk => h1 (σ k) X ?_, fun k b hk hb => h2 (σ k) b (hσ k hk) hb, fun j k b hj hk hne hb hb' => h3 _ _ b (hσ j hj) (hσ k hk) (hinj j k hne) hb hb'⟩, hg⟩
  cases k with
  | zero => simp at hk; subst hk; exact hm
  | succ k =>
    simp only [List.getElem?_cons_succ, List.getElem?_eraseIdx] at hk
    simp only [σ]
    split
    · rename_i h; rwa [if_pos h] at hk
    · rename_i h; rwa [if_neg h] at hk
/-- One of many owned slices is taken out, and put back. -/
theorem ofs_part {w : World} {e : TypeId} {zs : List SlV} {xs : List (List α)} {j : Nat} {z : SlV} {x : List α} (hz : zs[j]? = some z) (hx : xs[j]? = some x) (F G : Fp) (h : (Asr.ofs e E zs xs).p w F G) :
    ∃ F1 F2 : Fp, (∀ b, F1 b → F b) ∧ (∀ b, F2 b → F b) ∧ (∀ b, F1 b → ¬ F2 b) ∧ (Asr.ofs e E (nil2 zs j) (xs.set j [])).p w F1 G ∧ (Asr.of e E z.v x).p w F2 G := by
  obtain ⟨hl, Fs, h1, h2, h3⟩ := h
  have hjl := (List.getElem?_eq_some_iff.1 hz).1
  refine ⟨fun b => ∃ k, k < zs.length ∧ k ≠ j ∧ Fs k b, Fs j, fun b ⟨k, hk, _, hb⟩ => h2 k b hk hb, fun b hb => h2 j b hjl hb, fun b ⟨k, hk, hne, hb⟩ hb' => h3 k j b hk hjl hne hb hb', ⟨by simp [nil2, hl], fun k b => k ≠ j ∧ Fs k b, fun k z' x' hz' hx' => ?_, fun k b hk hb => ⟨k, by simpa [nil2] using hk, hb.1, hb.2⟩, fun i k b hi hk hne hb hb' => h3 i k b (by simpa [nil2] using hi) (by simpa [nil2] using hk) hne hb.2 hb'.2⟩, (Asr.of e E z.v x).mono _ _ _ _ (h1 j z x hz hx) (fun _ h => h.elim)⟩
  by_cases ek : k = j
  · subst ek
    unfold nil2 at hz'
    rw [List.getElem?_set_self hjl] at hz'
    rw [List.getElem?_set_self (by omega)] at hx'
    obtain rfl := Option.some.inj hz'
    obtain rfl := Option.some.inj hx'
    have := of_nil w e E
    exact ⟨this.1, fun b hb => by cases hb⟩
  · unfold nil2 at hz'
    rw [List.getElem?_set_ne (Ne.symm ek)] at hz' hx'
    have := h1 k z' x' hz' hx'
    exact ⟨this.1, fun b hb => ⟨ek, this.2 b hb⟩⟩
theorem ofs_unite {w : World} {e : TypeId} {zs : List SlV} {xs : List (List α)} {j : Nat} (z : SlV) (x : List α) (F1 F2 G : Fp) (hd : ∀ b, F1 b → ¬ F2 b) (h : (Asr.ofs e E (nil2 zs j) (xs.set j [])).p w F1 G) (ho : (Asr.of e E z.v x).p w F2 G) (hlen : zs.length = xs.length) :
    (Asr.ofs e E (zs.set j z) (xs.set j x)).p w (fun b => F1 b ∨ F2 b) G := by
  obtain ⟨hl, Fs, h1, h2, h3⟩ := h
  have hnl : (nil2 zs j).length = zs.length := by simp [nil2]
  rw [hnl] at h2 h3
  refine ⟨by simp [hlen], fun k b => if k = j then F2 b else Fs k b, fun k z' x' hz' hx' => ?_, fun k b hk hb => ?_, fun i k b hi hk hne hb hb' => ?_⟩
  · by_cases ek : k = j
    · subst ek
      have hk1 : k < zs.length := by have := (List.getElem?_eq_some_iff.1 hz').1; simpa using this
      rw [List.getElem?_set_self hk1] at hz'
      rw [List.getElem?_set_self (by omega)] at hx'
      obtain rfl := Option.some.inj hz'
      obtain rfl := Option.some.inj hx'
      simp only [if_true]
      exact ⟨ho.1, ho.2⟩
    · rw [List.getElem?_set_ne (Ne.symm ek)] at hz' hx'
      have := h1 k z' x' (by unfold nil2; rw [List.getElem?_set_ne (Ne.symm ek)]; exact hz') (by rw [List.getElem?_set_ne (Ne.symm ek)]; exact hx')
      simp only [if_neg ek]
      exact this
  · simp only at hb
    split at hb
    · exact .inr hb
    · exact .inl (h2 k b (by simpa using hk) hb)
  · simp only at hb hb'
    have hi' : i < zs.length := by simpa using hi
    have hk' : k < zs.length := by simpa using hk
    by_cases ei : i = j
    · rw [if_pos ei] at hb
      rw [if_neg (by omega)] at hb'
      exact hd b (h2 k b hk' hb') hb
    · rw [if_neg ei] at hb
      by_cases ek : k = j
      · rw [if_pos ek] at hb'
        exact hd b (h2 i b hi' hb) hb'
      · rw [if_neg ek] at hb'
        exact h3 i k b hi' hk' hne hb hb'
theorem onn_rds {w : World} {o e : TypeId} {sv : Value} {zs : List SlV} {xs : List (List α)} {F G : Fp} (h : (Asr.onn o e E sv zs xs).p w F G) : zs.length = xs.length ∧ RdS w (NE.sl E).E sv (zs.zip xs) ∧ (∀ ad m cp, sv = .slice (some ad) m cp → F ad.block) ∧ okL (NE.sl E) w F zs xs := by
  obtain ⟨hl, F1, F2, h1, h2, h3, h4, h5⟩ := h
  refine ⟨hl, ?_, fun ad m cp hsv => h1 _ (h4.2 ad.block (by rw [hsv]; rfl)), fun j z x hz hx => ?_⟩
  · obtain ⟨A, m, cp, a1, a2, a3, a4, a5, a6⟩ := rds_of h4.1
    exact ⟨A, m, cp, a1, by rw [a2]; simp [hl], a3, a4, a5, fun ad hA k v hk => a6 ad hA k v (by rwa [zip_slv hl] at hk)⟩
  · obtain ⟨_, Fs, b1, b2, b3⟩ := h5
    have := b1 j z x hz hx
    exact ⟨rds_of this.1, fun ad m cp hsv _ => h2 _ (b2 j _ (List.getElem?_eq_some_iff.1 hz).1 (this.2 ad.block (by rw [hsv]; rfl)))⟩
theorem RdN.onn {o e : TypeId} {sv : Value} {zs : List SlV} {xs : List (List α)} (i : Nat) (hi : L[i]? = some (Asr.onn o e E sv zs xs)) : RdN c L (NE.sl E) sv zs xs := fun w hs => by
  obtain ⟨F, G, hp, _⟩ := hs.get hi
  have h := onn_rds hp
  exact ⟨h.1, h.2.1, _, h.2.2.2⟩
theorem Drv.onn {o e : TypeId} {sv : Value} {zs : List SlV} {xs : List (List α)} (i : Nat) (hi : L[i]? = some (Asr.onn o e E sv zs xs)) : Drv false L (Asr.vn (NE.sl E) sv zs xs) := fun w F G ⟨Fs, h1, h2, _⟩ => by
  have h := onn_rds (h1 i _ hi)
  have hl := (List.getElem?_eq_some_iff.1 hi).1
  exact ⟨h.1, ⟨h.2.1, fun ad m cp hsv _ => .inl ⟨rfl, h2 i _ hl (h.2.2.1 ad m cp hsv)⟩⟩, fun j z x hz hx => (NE.sl E).mono _ _ _ _ _ (h.2.2.2 j z x hz hx) (fun b hb => .inl ⟨rfl, h2 i b hl hb⟩)⟩
theorem Sat.shareNn {w : World} {o e : TypeId} {sv : Value} {zs : List SlV} {xs : List (List α)} (i : Nat) (hi : L[i]? = some (Asr.onn o e E sv zs xs)) (hs : Sat c L w) : Sat c (L.set i (Asr.vn (NE.sl E) sv zs xs)) w :=
  hs.shareG (A := Asr.onn o e E sv zs xs) (B := Asr.vn (NE.sl E) sv zs xs) i hi fun w F G h => by
    have h := onn_rds h
    exact ⟨h.1, ⟨h.2.1, fun ad m cp hsv _ => .inr (h.2.2.1 ad m cp hsv)⟩, fun j z x hz hx => (NE.sl E).mono _ _ _ _ _ (h.2.2.2 j z x hz hx) (fun b hb => .inr hb)⟩
theorem Rdg.onh {o e : TypeId} {sv : Value} {j : Nat} {zs : List SlV} {xs : List (List α)} (i : Nat) (hi : L[i]? = some (Asr.onh o e E sv j zs xs)) : Rdg c L (NE.sl E).E sv (zs.zip xs) := fun w hs => by
  obtain ⟨F, G, ⟨hl, F1, F2, h1, h2, h3, h4, h5⟩, _⟩ := hs.get hi
  obtain ⟨A, m, cp, a1, a2, a3, a4, a5, a6⟩ := rds_of h4.1
  exact ⟨A, m, cp, a1, by rw [a2]; simp [hl], a3, a4, a5, fun ad hA k v hk => a6 ad hA k v (by rwa [zip_slv hl] at hk)⟩
theorem QV.indexH {o e' : TypeId} {sv : Value} {jj : Nat} {zs : List SlV} {xs : List (List α)} {x y : Operand} {t e : TypeId} {ag : Bool} {k : IntKind} {i : Int} (q : Nat) (hq : L[q]? = some (Asr.onh o e' E sv jj zs xs)) (ht : P.underlying t = some (.slice e)) (he : tk P e = some (ag, 1)) (hx : ev env x = some sv) (hy : ev env y = some (.int k i)) (h : 0 ≤ i ∧ i < xs.length) :
    QV P n c env L ⟨d, .indexAddr t x y, ty, ps, af, g⟩ (.pointer (some (elA sv (i.toNat * (NE.sl E).E.sz)))) := fun a w hr hs => by
  have hl : zs.length = xs.length := by obtain ⟨F, G, hp, _⟩ := hs.get hq; exact hp.1
  exact QV.indexA (E := (NE.sl E).E) (Rdg.onh q hq) ht he hx hy (by rw [zip_len hl]; exact h) a w hr hs
theorem onn_split {w : World} {o e : TypeId} {sv : Value} {zs : List SlV} {xs : List (List α)} (i : Nat) (hi : L[i]? = some (Asr.onn o e E sv zs xs)) (hs : Sat c L w) : zs.length = xs.length ∧ Sat c (Asr.ofs e E zs xs :: L.set i (Asr.of o Enc.slv sv zs)) w :=
  ⟨by obtain ⟨F, G, hp, _⟩ := hs.get hi; exact hp.1, hs.part (A := Asr.onn o e E sv zs xs) i hi fun F G h => by
    obtain ⟨hl, F1, F2, h1, h2, h3, h4, h5⟩ := h
    exact ⟨F1, F2, h1, h2, h3, h4, h5⟩⟩
theorem MV.makeNn {t o : TypeId} {x y : Operand} {z : Value} {bytes : Nat} {k k' : IntKind} {m : Int} (e : TypeId) (E : Enc α) (ht : P.underlying t = some (.slice o)) (hz : (P.info? o).map (fun i => (i.zero, i.size, i.bytes)) = some (some z, 1, bytes)) (hz0 : z.cells.toList = [SlV.nil.v])
    (hx : ev env x = some (.int k m)) (hy : ev env y = some (.int k' m)) (h : 0 ≤ m ∧ m * bytes ≤ 281474976710656 ∧ m ≤ 9223372036854775807) :
    MV P n c env L ⟨d, .makeSlice t x y, ty, ps, af, g⟩ (fun v L' => ∃ sv : SlV, v = sv.v ∧ L' = Asr.onn o e E sv.v (List.replicate m.toNat SlV.nil) (List.replicate m.toNat []) :: L) := fun a w hr hs => by
  refine (MV.make (d := d) (ty := ty) (ps := ps) (af := af) (g := g) (E := Enc.slv) SlV.nil ht hz (by decide) hz0 hx hy h a w hr hs).mono fun v L2 hq => ?_
  obtain ⟨sv, rfl, rfl⟩ := hq
  refine ⟨_, ⟨sv, rfl, rfl⟩, fun w' hs' => ?_⟩
  have h1 := hs'.setW (A := Asr.of o Enc.slv sv.v (List.replicate m.toNat SlV.nil)) (B := Asr.onn o e E sv.v (List.replicate m.toNat SlV.nil) (List.replicate m.toNat [])) 0 rfl (fun F G hp => ⟨by simp, F, noFp, fun _ h => h, fun _ h => h.elim, fun _ _ h => h, hp, ⟨by simp, fun _ => noFp, fun j z x hz hx => ?_, fun _ _ _ h => h.elim, fun _ _ _ _ _ _ h => h.elim⟩⟩)
  · simpa using h1
  · rw [List.getElem?_replicate] at hz hx
    split at hz
    · rename_i hc
      rw [if_pos hc] at hx
      obtain rfl := Option.some.inj hz
      obtain rfl := Option.some.inj hx
      exact of_nil w' e E
    · cases hz
theorem MV.appendNn {o e : TypeId} {sv : SlV} {su : Value} {zs : List SlV} {xs : List (List α)} {ys : List α} {x y : Operand} {t : TypeId} {z : Value} {bytes : Nat} {j : Int} (i : Nat) (hi : L[i]? = some (Asr.onn o e E sv.v zs xs)) (hj : 0 ≤ j ∧ j < xs.length) (hrd : Rdg c L E su ys) (ht : P.underlying t = some (.slice e)) (hz : (P.info? e).map (fun i => (i.zero, i.size, i.bytes)) = some (some z, E.sz, bytes))
    (hzs : z.cells.size = E.sz) (hE : 0 < E.sz) (hx : ev env x = some (gd zs j).v) (hy : ev env y = some su) (hb : ((gd xs j).length + ys.length) * bytes ≤ 140737488355328 ∧ (gd xs j).length + ys.length ≤ 9223372036854775807) :
    MV P n c env L ⟨d, .call ⟨.builtin .append, #[x, y], #[t, t]⟩, ty, ps, af, g⟩ (fun v L' => ∃ sw : SlV, v = sw.v ∧ L' = Asr.of e E sw.v (gd xs j ++ ys) :: L.set i (Asr.onh o e E sv.v j.toNat zs xs)) := fun a w hr hs => by
  have hil := (List.getElem?_eq_some_iff.1 hi).1
  obtain ⟨hl, h1⟩ := onn_split i hi hs
  have h2 : Sat c (Asr.of e E (gd zs j).v (gd xs j) :: Asr.ofs e E (nil2 zs j.toNat) (xs.set j.toNat []) :: L.set i (Asr.of o Enc.slv sv.v zs)) w := by
    have := h1.part (A := Asr.ofs e E zs xs) (B := Asr.ofs e E (nil2 zs j.toNat) (xs.set j.toNat [])) (C := Asr.of e E (gd zs j).v (gd xs j)) 0 rfl (fun F G h => ofs_part (gd_get (by omega)) (gd_get hj) F G h)
    simpa using this
  refine (append_at (d := d) (ty := ty) (ps := ps) (af := af) (g := g) hr h2 (hrd w hs) 0 rfl ht hz hzs hE hx hy hb).mono fun v L2 h => ?_
  obtain ⟨sw, rfl, rfl⟩ := h
  refine ⟨_, ⟨sw, rfl, rfl⟩, fun w' hs' => ?_⟩
  have h3 : Sat c (Asr.ofs e E (nil2 zs j.toNat) (xs.set j.toNat []) :: Asr.of e E sw.v (gd xs j ++ ys) :: L.set i (Asr.of o Enc.slv sv.v zs)) w' := Sat.swap (by simpa using hs')
  have h4 := h3.unite (A := Asr.onh o e E sv.v j.toNat zs xs) (B := Asr.of o Enc.slv sv.v zs) (i + 1) (by simp [hil]) (fun F1 F2 G hd hB hC => ⟨hl, F1, F2, fun _ h => .inl h, fun _ h => .inr h, hd, hB, hC⟩)
  simpa using h4
theorem MV.storeH {o e : TypeId} {sv sw : SlV} {zs : List SlV} {xs : List (List α)} {x' : List α} {x y : Operand} {t : TypeId} {ag : Bool} {j : Int} (m i : Nat) (hm : L[m]? = some (Asr.of e E sw.v x')) (hi : (L.eraseIdx m)[i]? = some (Asr.onh o e E sv.v j.toNat zs xs)) (ht : tk P t = some (ag, 1)) (hx : ev env x = some (.pointer (some (elA sv.v (j.toNat * (NE.sl E).E.sz))))) (hy : ev env y = some sw.v)
    (h : 0 ≤ j ∧ j < xs.length) : MV P n c env L ⟨none, .store t x y, ty, ps, af, g⟩ (fun u L' => u = undef ∧ L' = (L.eraseIdx m).set i (Asr.onn o e E sv.v (zs.set j.toNat sw) (xs.set j.toNat x'))) := fun a w hr hs => by
  have hil := (List.getElem?_eq_some_iff.1 hi).1
  have h1 := hs.pull m hm
  have hl : zs.length = xs.length := by
    obtain ⟨F, G, hp, _⟩ := h1.get (i := i + 1) (by simpa using hi)
    exact hp.1
  have h2 : Sat c (Asr.ofs e E (nil2 zs j.toNat) (xs.set j.toNat []) :: Asr.of e E sw.v x' :: (L.eraseIdx m).set i (Asr.of o Enc.slv sv.v zs)) w := by
    have := h1.part (A := Asr.onh o e E sv.v j.toNat zs xs) (B := Asr.of o Enc.slv sv.v zs) (C := Asr.ofs e E (nil2 zs j.toNat) (xs.set j.toNat [])) (i + 1) (by simpa using hi) (fun F G h => by
      obtain ⟨hl, F1, F2, h1, h2, h3, h4, h5⟩ := h
      exact ⟨F1, F2, h1, h2, h3, h4, h5⟩)
    simpa using this
  refine (MV.storeEl (e := o) (ty := ty) (ps := ps) (af := af) (g := g) (E := Enc.slv) (sv := sv.v) (xs := zs) (k := j) (i + 2) sw (by simp [hil]) ht hx hy (by omega) (by rfl) a w hr h2).mono fun u L2 hq => ?_
  obtain ⟨rfl, rfl⟩ := hq
  refine ⟨_, ⟨rfl, rfl⟩, fun w' hs' => ?_⟩
  have h3 : Sat c (Asr.of e E sw.v x' :: Asr.ofs e E (nil2 zs j.toNat) (xs.set j.toNat []) :: (L.eraseIdx m).set i (Asr.of o Enc.slv sv.v (zs.set j.toNat sw))) w' := Sat.swap (by simpa using hs')
  have h4 := h3.unite (A := Asr.ofs e E (zs.set j.toNat sw) (xs.set j.toNat x')) (B := Asr.ofs e E (nil2 zs j.toNat) (xs.set j.toNat [])) 0 rfl (fun F1 F2 G hd hB hC => ofs_unite sw x' F1 F2 G hd hB hC hl)
  have h5 : Sat c (Asr.ofs e E (zs.set j.toNat sw) (xs.set j.toNat x') :: (L.eraseIdx m).set i (Asr.of o Enc.slv sv.v (zs.set j.toNat sw))) w' := by simpa using h4
  have h6 := h5.unite (A := Asr.onn o e E sv.v (zs.set j.toNat sw) (xs.set j.toNat x')) (B := Asr.of o Enc.slv sv.v (zs.set j.toNat sw)) i (by simp [hil]) (fun F1 F2 G hd hB hC => ⟨by simp [hl], F1, F2, fun _ h => .inl h, fun _ h => .inr h, hd, hB, hC⟩)
  simpa using h6
theorem set_gd {β : Type} [Inhabited β] (l : List β) (j : Int) : l.set j.toNat (gd l j) = l := by
  apply List.ext_getElem?
  intro k
  by_cases e : j.toNat = k
  · subst e
    by_cases h : j.toNat < l.length
    · rw [List.getElem?_set_self h]; unfold gd; rw [List.getD_eq_getElem?_getD, List.getElem?_eq_getElem h]; rfl
    · rw [List.getElem?_eq_none (by simp; omega), List.getElem?_eq_none (by omega)]
  · rw [List.getElem?_set_ne e]
/-- A write into an element of an element. -/
theorem MV.storeNn {o e : TypeId} {sv : SlV} {zs : List SlV} {xs : List (List α)} {x y : Operand} {t : TypeId} {ag : Bool} {j k : Int} {v : Value} (i : Nat) (x' : α) (hi : L[i]? = some (Asr.onn o e E sv.v zs xs)) (hj : 0 ≤ j ∧ j < xs.length) (ht : tk P t = some (ag, E.sz)) (hx : ev env x = some (.pointer (some (elA (gd zs j).v (k.toNat * E.sz))))) (hy : ev env y = some v)
    (h : 0 ≤ k ∧ k < (gd xs j).length) (hv : v.cells.toList = E.enc x') : MV P n c env L ⟨none, .store t x y, ty, ps, af, g⟩ (fun u L' => u = undef ∧ L' = L.set i (Asr.onn o e E sv.v zs (xs.set j.toNat ((gd xs j).set k.toNat x')))) := fun a w hr hs => by
  have hil := (List.getElem?_eq_some_iff.1 hi).1
  obtain ⟨hl, h1⟩ := onn_split i hi hs
  have h2 : Sat c (Asr.of e E (gd zs j).v (gd xs j) :: Asr.ofs e E (nil2 zs j.toNat) (xs.set j.toNat []) :: L.set i (Asr.of o Enc.slv sv.v zs)) w := by
    have := h1.part (A := Asr.ofs e E zs xs) (B := Asr.ofs e E (nil2 zs j.toNat) (xs.set j.toNat [])) (C := Asr.of e E (gd zs j).v (gd xs j)) 0 rfl (fun F G h => ofs_part (gd_get (by omega)) (gd_get hj) F G h)
    simpa using this
  refine (MV.storeEl (e := e) (ty := ty) (ps := ps) (af := af) (g := g) (E := E) (sv := (gd zs j).v) (xs := gd xs j) (k := k) 0 x' rfl ht hx hy h hv a w hr h2).mono fun u L2 hq => ?_
  obtain ⟨rfl, rfl⟩ := hq
  refine ⟨_, ⟨rfl, rfl⟩, fun w' hs' => ?_⟩
  have h3 : Sat c (Asr.of e E (gd zs j).v ((gd xs j).set k.toNat x') :: Asr.ofs e E (nil2 zs j.toNat) (xs.set j.toNat []) :: L.set i (Asr.of o Enc.slv sv.v zs)) w' := by simpa using hs'
  have h4 := h3.unite (A := Asr.ofs e E zs (xs.set j.toNat ((gd xs j).set k.toNat x'))) (B := Asr.ofs e E (nil2 zs j.toNat) (xs.set j.toNat [])) 0 rfl (fun F1 F2 G hd hB hC => by
    have := ofs_unite (gd zs j) ((gd xs j).set k.toNat x') F1 F2 G hd hB hC hl
    rwa [set_gd] at this)
  have h5 : Sat c (Asr.ofs e E zs (xs.set j.toNat ((gd xs j).set k.toNat x')) :: L.set i (Asr.of o Enc.slv sv.v zs)) w' := by simpa using h4
  have h6 := h5.unite (A := Asr.onn o e E sv.v zs (xs.set j.toNat ((gd xs j).set k.toNat x'))) (B := Asr.of o Enc.slv sv.v zs) i (by simp [hil]) (fun F1 F2 G hd hB hC => ⟨by simp [hl], F1, F2, fun _ h => .inl h, fun _ h => .inr h, hd, hB, hC⟩)
  simpa using h6
end
end Go.Eng
