/- Nested slices that the call makes: the outer one owned, what its elements lead to frozen (onv) or owned too (oo). -/
import Derived.Test.YtgganckggdjpaaaEngAny
set_option linter.unusedVariables false
namespace Go.Eng
open Go

/-- A nested slice that is owned; what its elements lead to nobody writes any more. -/
def Asr.onv {Z X : Type} (e : TypeId) (K : NE Z X) (sv : Value) (zs : List Z) (xs : List X) : Asr where
  p w F G := zs.length = xs.length ∧ (Asr.of e K.E sv (zs.zip xs)).p w F G ∧ okL K w G zs xs
  loc w w' F G h hw := ⟨h.1, (Asr.of e K.E sv (zs.zip xs)).loc _ _ _ _ h.2.1 hw, fun j z x hz hx => K.loc _ _ _ _ _ (h.2.2 j z x hz hx) (fun b hb => hw b (.inr hb))⟩
  mono w F G G' h hG := ⟨h.1, h.2.1, fun j z x hz hx => K.mono _ _ _ _ _ (h.2.2 j z x hz hx) hG⟩
/-- What elements lead to, alone. -/
def Asr.okl {Z X : Type} (K : NE Z X) (zs : List Z) (xs : List X) : Asr where
  p w _ G := zs.length = xs.length ∧ okL K w G zs xs
  loc w w' F G h hw := ⟨h.1, fun j z x hz hx => K.loc _ _ _ _ _ (h.2 j z x hz hx) (fun b hb => hw b (.inr hb))⟩
  mono w F G G' h hG := ⟨h.1, fun j z x hz hx => K.mono _ _ _ _ _ (h.2 j z x hz hx) hG⟩

theorem nd_of : ∀ (σ : List Nat), σ.Nodup → nd σ = true
  | [], _ => rfl
  | i :: σ, h => by
    rw [List.nodup_cons] at h
    simp only [nd, Bool.and_eq_true, Bool.not_eq_true']
    refine ⟨?_, nd_of σ h.2⟩
    cases hm : memB i σ with
    | false => rfl
    | true => exact absurd (memB_iff.1 hm) h.1
section
variable {P : Program} {n : Fsz} {c : Ctx} {env : Env} {L : List Asr} {d : Option Tmp} {ty : TypeId} {ps : String} {af : Array Edge} {g : Option (Nat × Bool)}
variable {Z X : Type}

theorem mvUpon.mono {R R' : Value → List Asr → Prop} {r : Result Next} (hm : mvUpon P c R' r) (h2 : ∀ v L2, R' v L2 → ∃ L3, R v L3 ∧ ∀ w, Sat c L2 w → Sat c L3 w) : mvUpon P c R r := by
  cases r with
  | halt x w' => exact hm.elim
  | ok x w' =>
    cases x <;> simp only [mvUpon] at hm ⊢
    case value v =>
      obtain ⟨L2, hR, hs2⟩ := hm
      obtain ⟨L3, h3, h4⟩ := h2 v L2 hR
      exact ⟨L3, h3, h4 _ hs2⟩
    case skip =>
      obtain ⟨L2, hR, hs2⟩ := hm
      obtain ⟨L3, h3, h4⟩ := h2 _ L2 hR
      exact ⟨L3, h3, h4 _ hs2⟩
    case enter f args =>
      refine hm.mono fun e w'' he => ?_
      obtain ⟨v, L2, rfl, hR, hs2⟩ := he
      obtain ⟨L3, h3, h4⟩ := h2 v L2 hR
      exact ⟨v, L3, rfl, h3, h4 _ hs2⟩
    case round l f tmps assign body =>
      refine RoundIn.mono hm fun e w'' he => ?_
      obtain ⟨v, L2, rfl, hR, hs2⟩ := he
      obtain ⟨L3, h3, h4⟩ := h2 v L2 hR
      exact ⟨v, L3, rfl, h3, h4 _ hs2⟩
theorem Sat.setW {w : World} {A B : Asr} (i : Nat) (hi : L[i]? = some A) (hAB : ∀ F G, A.p w F G → B.p w F G) (hs : Sat c L w) : Sat c (L.set i B) w := by
  obtain ⟨F1, G, hp, hdom, _, hput⟩ := hs.zoom hi
  exact hput w F1 B (hAB _ _ hp) (fun _ _ _ => rfl) (fun b hb => .inl hb) hdom (Nat.le_refl _) rfl rfl rfl
/-- An assertion without a footprint, beside the others. -/
theorem Sat.beside {w : World} {A B : Asr} (i : Nat) (hi : L[i]? = some A) (hAB : ∀ F G, A.p w F G → B.p w noFp G) (hs : Sat c L w) : Sat c (B :: L) w := by
  obtain ⟨F, G, ⟨Fs, h1, h2, h3⟩, hg⟩ := hs
  have h4 : Star [B] w noFp G := ⟨fun _ => noFp, fun k C hk => by
    cases k with
    | zero => simp at hk; subst hk; exact hAB _ _ (h1 i A hi)
    | succ k => simp at hk, fun _ _ _ h => h, fun _ _ _ _ _ _ h => h.elim⟩
  exact ⟨F, G, by simpa using h4.append ⟨Fs, h1, h2, h3⟩ (fun _ h => h.elim) (F := F) (fun _ h => h.elim) (fun _ h => h), hg⟩
theorem Sat.splitV {w : World} {e : TypeId} {K : NE Z X} {sv : Value} {zs : List Z} {xs : List X} (i : Nat) (hi : L[i]? = some (Asr.onv e K sv zs xs)) (hs : Sat c L w) : Sat c (Asr.okl K zs xs :: L.set i (Asr.of e K.E sv (zs.zip xs))) w := by
  have h1 := hs.beside (B := Asr.okl K zs xs) i hi (fun F G h => ⟨h.1, h.2.2⟩)
  have h2 := h1.setW (A := Asr.onv e K sv zs xs) (B := Asr.of e K.E sv (zs.zip xs)) (i + 1) (by simpa using hi) (fun F G h => h.2.1)
  simpa using h2
theorem Sat.mergeV {w : World} {e : TypeId} {K : NE Z X} {sv : Value} {zs : List Z} {xs : List X} {ps' : List (Z × X)} (i : Nat) (hi : L[i]? = some (Asr.of e K.E sv ps')) (hp : zs.length = xs.length → ps' = zs.zip xs) (hs : Sat c (Asr.okl K zs xs :: L) w) : Sat c (L.set i (Asr.onv e K sv zs xs)) w := by
  obtain ⟨F, G, ⟨Fs, h1, h2, h3⟩, hg⟩ := hs
  obtain ⟨hl, hok⟩ := h1 0 _ rfl
  have hp := hp hl
  subst hp
  have hil := (List.getElem?_eq_some_iff.1 hi).1
  refine ⟨F, G, ⟨fun k => Fs (k + 1), fun k A hk => ?_, fun k b hk hb => h2 (k + 1) b (by simp at hk ⊢; omega) hb, fun j k b hj hk hne hb hb' => h3 (j + 1) (k + 1) b (by simp at hj ⊢; omega) (by simp at hk ⊢; omega) (by omega) hb hb'⟩, hg⟩
  by_cases e' : k = i
  · subst e'
    rw [List.getElem?_set_self hil] at hk
    obtain rfl := Option.some.inj hk
    exact ⟨hl, h1 (k + 1) _ (by simpa using hi), hok⟩
  · rw [List.getElem?_set_ne (Ne.symm e')] at hk
    exact h1 (k + 1) A (by simpa using hk)
theorem Sat.nilV {w : World} (e : TypeId) (K : NE Z X) (hs : Sat c L w) : Sat c (Asr.onv e K (.slice none 0 0) [] [] :: L) w :=
  hs.derive fun w _ _ _ => ⟨rfl, (Asr.of e K.E (.slice none 0 0) []).mono _ _ _ _ (of_nil w e K.E) (fun _ h => h.elim), fun j z x hz => by simp at hz⟩
theorem RdN.onv {e : TypeId} {K : NE Z X} {sv : Value} {zs : List Z} {xs : List X} (i : Nat) (hi : L[i]? = some (Asr.onv e K sv zs xs)) : RdN c L K sv zs xs := fun w hs => by
  obtain ⟨F, G, hp, _⟩ := hs.get hi
  exact ⟨hp.1, rds_of hp.2.1.1, _, hp.2.2⟩
theorem Drv.onv {e : TypeId} {K : NE Z X} {sv : Value} {zs : List Z} {xs : List X} (i : Nat) (hi : L[i]? = some (Asr.onv e K sv zs xs)) : Drv false L (Asr.vn K sv zs xs) := fun w F G ⟨Fs, h1, h2, _⟩ => by
  have hA := h1 i _ hi
  have hl := (List.getElem?_eq_some_iff.1 hi).1
  exact ⟨hA.1, ⟨rds_of hA.2.1.1, fun ad m cp hsv _ => .inl ⟨rfl, h2 i _ hl (hA.2.1.2 ad.block (by rw [hsv]; rfl))⟩⟩, fun j z x hz hx => K.mono _ _ _ _ _ (hA.2.2 j z x hz hx) (fun b hb => .inr hb)⟩
/-- An element of a nested slice that is owned: what it leads to is frozen already. -/
theorem Drv.elV [Inhabited Z] [Inhabited X] {b : Bool} {e : TypeId} {K : NE Z X} {sv : Value} {zs : List Z} {xs : List X} {j : Int} {A : Asr} (i : Nat) (hi : L[i]? = some (Asr.onv e K sv zs xs)) (hj : 0 ≤ j ∧ j < xs.length) (hA : ∀ w G, K.ok w G (gd zs j) (gd xs j) → A.p w noFp G) : Drv b L A := fun w F G ⟨Fs, h1, _, _⟩ => by
  have h := h1 i _ hi
  exact A.mono _ _ _ _ (hA w _ (okL_at h.2.2 h.1 hj)) (fun b hb => .inr hb)
theorem Sat.shareV {w : World} {e : TypeId} {K : NE Z X} {sv : Value} {zs : List Z} {xs : List X} (i : Nat) (hi : L[i]? = some (Asr.onv e K sv zs xs)) (hs : Sat c L w) : Sat c (L.set i (Asr.vn K sv zs xs)) w :=
  hs.shareG (A := Asr.onv e K sv zs xs) (B := Asr.vn K sv zs xs) i hi fun w F G h => ⟨h.1, ⟨rds_of h.2.1.1, fun ad m cp hsv _ => .inr (h.2.1.2 ad.block (by rw [hsv]; rfl))⟩, fun j z x hz hx => K.mono _ _ _ _ _ (h.2.2 j z x hz hx) (fun b hb => .inl hb)⟩
theorem zip_snoc {zs zs' : List Z} {xs xs' : List X} (h : zs.length = xs.length) : (zs ++ zs').zip (xs ++ xs') = zs.zip xs ++ zs'.zip xs' := by
  rw [List.zip_append h]
theorem okL_append {K : NE Z X} {w : World} {G : Fp} {zs zs' : List Z} {xs xs' : List X} (hl : zs.length = xs.length) (h : okL K w G zs xs) (h' : okL K w G zs' xs') : okL K w G (zs ++ zs') (xs ++ xs') := fun j z x hz hx => by
  by_cases hj : j < zs.length
  · rw [List.getElem?_append_left hj] at hz
    rw [List.getElem?_append_left (by omega)] at hx
    exact h j z x hz hx
  · rw [List.getElem?_append_right (by omega)] at hz
    rw [List.getElem?_append_right (by omega)] at hx
    rw [hl] at hz
    exact h' _ z x hz hx
/-- An assertion without a footprint that the others tell of, now. -/
theorem Star.beside {w : World} {F G : Fp} {B : Asr} (hB : B.p w noFp G) (hst : Star L w F G) : Star (B :: L) w F G := by
  have h4 : Star [B] w noFp G := ⟨fun _ => noFp, fun k C hk => by
    cases k with
    | zero => simp at hk; subst hk; exact hB
    | succ k => simp at hk, fun _ _ _ h => h, fun _ _ _ _ _ _ h => h.elim⟩
  simpa using h4.append hst (fun _ h => h.elim) (F := F) (fun _ h => h.elim) (fun _ h => h)
theorem Star.tail {w : World} {F G : Fp} {A : Asr} (hst : Star (A :: L) w F G) : Star L w F G := by
  obtain ⟨Fs, h1, h2, h3⟩ := hst
  exact ⟨fun k => Fs (k + 1), fun k B hk => h1 (k + 1) B (by simpa using hk), fun k b hk hb => h2 (k + 1) b (by simp; omega) hb, fun j k b hj hk hne hb hb' => h3 (j + 1) (k + 1) b (by simp; omega) (by simp; omega) (by omega) hb hb'⟩
theorem Sat.swap {w : World} {A B : Asr} (hs : Sat c (A :: B :: L) w) : Sat c (B :: A :: L) w := by
  obtain ⟨F, G, ⟨Fs, h1, h2, h3⟩, hg⟩ := hs
  let σ : Nat → Nat := fun | 0 => 1 | 1 => 0 | k + 2 => k + 2
  have hσ : ∀ k, k < (B :: A :: L).length → σ k < (A :: B :: L).length := fun k hk => by
    rcases k with _ | _ | k
    · simp [σ]
    · simp [σ]
    · simpa [σ] using hk
  have hinj : ∀ j k, j ≠ k → σ j ≠ σ k := fun j k h => by
    rcases j with _ | _ | j <;> rcases k with _ | _ | k <;> simp [σ] at h ⊢ <;> omega
  refine ⟨F, G, ⟨fun k => Fs (σ k), fun k C hk => h1 (σ k) C ?_, fun k b hk hb => h2 (σ k) b (hσ k hk) hb, fun j k b hj hk hne hb hb' => h3 _ _ b (hσ j hj) (hσ k hk) (hinj j k hne) hb hb'⟩, hg⟩
  rcases k with _ | _ | k
  · simpa [σ] using hk
  · simpa [σ] using hk
  · simpa [σ] using hk
theorem Sat.besideG {w : World} {B : Asr} (hB : ∀ F G, Star L w F G → B.p w noFp G) (hs : Sat c L w) : Sat c (B :: L) w := by
  obtain ⟨F, G, hst, hg⟩ := hs
  exact ⟨F, G, hst.beside (hB F G hst), hg⟩
theorem Sat.okl2 {w : World} {K : NE Z X} {zs zs' : List Z} {xs xs' : List X} (hs : Sat c (Asr.okl K zs xs :: Asr.okl K zs' xs' :: L) w) : Sat c (Asr.okl K (zs ++ zs') (xs ++ xs') :: L) w := by
  obtain ⟨F, G, hst, hg⟩ := hs
  refine ⟨F, G, hst.tail.tail.beside ?_, hg⟩
  obtain ⟨Fs, h1, _, _⟩ := hst
  have a := (Asr.okl K zs xs).p
  obtain ⟨a1, a2⟩ := h1 0 _ rfl
  obtain ⟨b1, b2⟩ := h1 1 _ rfl
  exact ⟨by simp [a1, b1], okL_append a1 a2 b2⟩
theorem Drv.okl {w : World} {K : NE Z X} {su : Value} {zs' : List Z} {xs' : List X} (hd : Drv true L (Asr.vn K su zs' xs')) : ∀ F G, Star L w F G → (Asr.okl K zs' xs').p w noFp G := fun F G hst => by
  have h := hd w F G hst
  exact ⟨h.1, fun j z x hz hx => K.mono _ _ _ _ _ (h.2.2 j z x hz hx) (fun b hb => hb.elim (fun h => by cases h.1) id)⟩
/-- append of what is read to a nested slice that is owned. -/
def OkG (L : List Asr) (K : NE Z X) (zs : List Z) (xs : List X) : Prop := ∀ w F G, Star L w F G → (Asr.okl K zs xs).p w noFp G
theorem OkG.drv {K : NE Z X} {su : Value} {zs' : List Z} {xs' : List X} (hd : Drv true L (Asr.vn K su zs' xs')) : OkG L K zs' xs' := fun w F G hst => Drv.okl hd F G hst
theorem OkG.onv {e : TypeId} {K : NE Z X} {sv : Value} {zs : List Z} {xs : List X} (i : Nat) (hi : L[i]? = some (Asr.onv e K sv zs xs)) : OkG L K zs xs := fun w F G ⟨Fs, h1, _, _⟩ => ⟨(h1 i _ hi).1, (h1 i _ hi).2.2⟩
theorem MV.appendV {K : NE Z X} {sv : SlV} {su : Value} {zs zs' : List Z} {xs xs' : List X} {x y : Operand} {t e : TypeId} {z : Value} {bytes : Nat} (i : Nat) (hi : L[i]? = some (Asr.onv e K sv.v zs xs)) (hd : OkG L K zs' xs') (hrn : RdN c L K su zs' xs') (ht : P.underlying t = some (.slice e)) (hz : (P.info? e).map (fun i => (i.zero, i.size, i.bytes)) = some (some z, K.E.sz, bytes))
    (hzs : z.cells.size = K.E.sz) (hE : 0 < K.E.sz) (hx : ev env x = some sv.v) (hy : ev env y = some su) (hb : (xs.length + xs'.length) * bytes ≤ 140737488355328 ∧ xs.length + xs'.length ≤ 9223372036854775807) :
    MV P n c env L ⟨d, .call ⟨.builtin .append, #[x, y], #[t, t]⟩, ty, ps, af, g⟩ (fun v L' => ∃ sw : SlV, v = sw.v ∧ L' = L.set i (Asr.onv e K sw.v (zs ++ zs') (xs ++ xs'))) := fun a w hr hs => by
  have hil := (List.getElem?_eq_some_iff.1 hi).1
  have hfacts : (zs.length = xs.length ∧ zs'.length = xs'.length) ∧ RdS w K.E su (zs'.zip xs') := by
    have h := hrn w hs
    obtain ⟨F, G, ⟨Fs, h1, _, _⟩, hg⟩ := hs
    exact ⟨⟨(h1 i _ hi).1, h.1⟩, h.2.1⟩
  obtain ⟨⟨hl, hl'⟩, hrd⟩ := hfacts
  have h1 : Sat c (Asr.okl K zs' xs' :: L) w := hs.besideG (hd w)
  have h2 : Sat c (Asr.okl K zs xs :: Asr.okl K zs' xs' :: L) w := h1.beside (A := Asr.onv e K sv.v zs xs) (i + 1) (by simpa using hi) (fun F G h => ⟨h.1, h.2.2⟩)
  have h3 := h2.okl2
  have h4 : Sat c (Asr.okl K (zs ++ zs') (xs ++ xs') :: L.set i (Asr.of e K.E sv.v (zs.zip xs))) w := by
    have := h3.setW (A := Asr.onv e K sv.v zs xs) (B := Asr.of e K.E sv.v (zs.zip xs)) (i + 1) (by simpa using hi) (fun F G h => h.2.1)
    simpa using this
  have hz1 : (zs.zip xs).length = xs.length := zip_len hl
  have hz2 : (zs'.zip xs').length = xs'.length := zip_len hl'
  refine (append_at (xs := zs.zip xs) (ys := zs'.zip xs') (d := d) (ty := ty) (ps := ps) (af := af) (g := g) hr h4 hrd (i + 1) (by simp [hil]) ht hz hzs hE hx hy (by rw [hz1, hz2]; exact hb)).mono fun v L2 h => ?_
  obtain ⟨sw, rfl, rfl⟩ := h
  refine ⟨_, ⟨sw, rfl, rfl⟩, fun w' hs' => ?_⟩
  have h5 := Sat.mergeV (e := e) (ps' := zs.zip xs ++ zs'.zip xs') (zs := zs ++ zs') (xs := xs ++ xs') (K := K) (L := L.set i (Asr.of e K.E sw.v (zs.zip xs ++ zs'.zip xs'))) (sv := sw.v) i (by simp [hil]) (fun _ => (zip_snoc hl).symm) (by simpa using hs')
  simpa using h5
/-- What is read of a nested literal's elements, out of views that stay. -/
def okN (L : List Asr) (K : NE Z X) : List Z → List X → Prop
  | [], [] => True
  | z :: zs, x :: xs => (∀ w F G, Star L w F G → K.ok w G z x) ∧ okN L K zs xs
  | _, _ => False
theorem okN.len {K : NE Z X} : ∀ {zs : List Z} {xs : List X}, okN L K zs xs → zs.length = xs.length
  | [], [], _ => rfl
  | z :: zs, x :: xs, h => by simp [okN.len h.2]
  | [], _ :: _, h => h.elim
  | _ :: _, [], h => h.elim
theorem okN.ok {K : NE Z X} {w : World} {F G : Fp} (hst : Star L w F G) : ∀ {zs : List Z} {xs : List X}, okN L K zs xs → okL K w G zs xs
  | [], [], _, j, z, x, hz, _ => by simp at hz
  | z :: zs, x :: xs, h, j, z', x', hz, hx => by
    cases j with
    | zero => simp at hz hx; subst hz; subst hx; exact h.1 w F G hst
    | succ j => simp at hz hx; exact okN.ok hst h.2 j z' x' hz hx
  | [], _ :: _, h, _, _, _, _, _ => h.elim
  | _ :: _, [], h, _, _, _, _, _ => h.elim
theorem ok_vw {A : Asr} (h : Drv true L A) : ∀ w F G, Star L w F G → A.p w noFp G := fun w F G hst => A.mono _ _ _ _ (h w F G hst) (fun b hb => hb.elim (fun h => by cases h.1) id)
/-- A nested slice's literal. -/
theorem MV.litV {K : NE Z X} {t e : TypeId} {parts : List (Nat × Operand)} {vals : List (Nat × Value)} {z : Value} {bytes len : Nat} (zs : List Z) (xs : List X) (ht : P.underlying t = some (.slice e)) (hz : (P.info? e).map (fun i => (i.zero, i.size, i.bytes)) = some (some z, K.E.sz, bytes)) (hok : okN L K zs xs)
    (hlen : (zs.zip xs).length = len) (hl : len * K.E.sz ≤ 16777216 ∧ len * K.E.sz ≠ 0) (hv : evp env parts = some vals) (hf : Instr.fill (fun i => some (i * K.E.sz, K.E.sz)) (madeCells z.cells (len * K.E.sz)) vals = some ((zs.zip xs).flatMap K.E.enc).toArray) :
    MV P n c env L ⟨d, .buildSlice t len parts.toArray, ty, ps, af, g⟩ (fun v L' => ∃ sv : SlV, v = sv.v ∧ L' = Asr.onv e K sv.v zs xs :: L) := fun a w hr hs => by
  have h1 : Sat c (Asr.okl K zs xs :: L) w := hs.besideG fun F G hst => ⟨hok.len, hok.ok hst⟩
  refine (MV.lit (d := d) (ty := ty) (ps := ps) (af := af) (g := g) (zs.zip xs) ht hz hlen hl hv hf a w hr h1).mono fun v L2 h => ?_
  obtain ⟨sv, rfl, rfl⟩ := h
  refine ⟨_, ⟨sv, rfl, rfl⟩, fun w' hs' => ?_⟩
  have h2 : Sat c (Asr.okl K zs xs :: Asr.of e K.E sv.v (zs.zip xs) :: L) w' := hs'.swap
  have h5 := Sat.mergeV (e := e) (ps' := zs.zip xs) (zs := zs) (xs := xs) (K := K) (L := Asr.of e K.E sv.v (zs.zip xs) :: L) (sv := sv.v) 0 rfl (fun _ => rfl) h2
  simpa using h5
theorem okL_set {K : NE Z X} {w : World} {G : Fp} {zs : List Z} {xs : List X} {z : Z} {x : X} (k : Nat) (h : okL K w G zs xs) (h' : K.ok w G z x) : okL K w G (zs.set k z) (xs.set k x) := fun j z' x' hz hx => by
  by_cases hj : k = j
  · subst hj
    rw [List.getElem?_set] at hz hx
    simp only [if_true] at hz hx
    split at hz
    · split at hx
      · obtain rfl := Option.some.inj hz
        obtain rfl := Option.some.inj hx
        exact h'
      · cases hx
    · cases hz
  · rw [List.getElem?_set_ne hj] at hz hx
    exact h j z' x' hz hx
theorem zip_set (zs : List Z) (xs : List X) (k : Nat) (z : Z) (x : X) : (zs.set k z).zip (xs.set k x) = (zs.zip xs).set k (z, x) := by
  induction zs generalizing xs k with
  | nil => simp
  | cons a zs ih =>
    cases xs with
    | nil => cases k <;> simp
    | cons b xs => cases k with
      | zero => rfl
      | succ k => simp [ih]
/-- A store of an element into a nested slice that is owned. -/
theorem MV.storeElV {K : NE Z X} {sv : SlV} {zs : List Z} {xs : List X} {x y : Operand} {t e : TypeId} {ag : Bool} {k : Int} {v : Value} (i : Nat) (z' : Z) (x' : X) (hi : L[i]? = some (Asr.onv e K sv.v zs xs)) (ht : tk P t = some (ag, K.E.sz)) (hx : ev env x = some (.pointer (some (elA sv.v (k.toNat * K.E.sz))))) (hy : ev env y = some v)
    (h : 0 ≤ k ∧ k < xs.length) (hv : v.cells.toList = K.E.enc (z', x')) (hok : ∀ w F G, Star L w F G → K.ok w G z' x') : MV P n c env L ⟨none, .store t x y, ty, ps, af, g⟩ (fun u L' => u = undef ∧ L' = L.set i (Asr.onv e K sv.v (zs.set k.toNat z') (xs.set k.toNat x'))) := fun a w hr hs => by
  have hil := (List.getElem?_eq_some_iff.1 hi).1
  have hl : zs.length = xs.length := by
    obtain ⟨F, G, ⟨Fs, h1, _, _⟩, hg⟩ := hs
    exact (h1 i _ hi).1
  have h1 : Sat c (Asr.okl K (zs.set k.toNat z') (xs.set k.toNat x') :: L) w := hs.besideG fun F G hst => by
    have h2 := hok w F G hst
    obtain ⟨Fs, h1, _, _⟩ := hst
    exact ⟨by simp [hl], okL_set _ (h1 i _ hi).2.2 h2⟩
  have h4 : Sat c (Asr.okl K (zs.set k.toNat z') (xs.set k.toNat x') :: L.set i (Asr.of e K.E sv.v (zs.zip xs))) w := by
    have := h1.setW (A := Asr.onv e K sv.v zs xs) (B := Asr.of e K.E sv.v (zs.zip xs)) (i + 1) (by simpa using hi) (fun F G h => h.2.1)
    simpa using this
  refine (MV.storeEl (e := e) (ty := ty) (ps := ps) (af := af) (g := g) (sv := sv.v) (xs := zs.zip xs) (k := k) (i + 1) (z', x') (by simp [hil]) ht hx hy (by rw [zip_len hl]; exact h) hv a w hr h4).mono fun u L2 hq => ?_
  obtain ⟨rfl, rfl⟩ := hq
  refine ⟨_, ⟨rfl, rfl⟩, fun w' hs' => ?_⟩
  have h5 := Sat.mergeV (e := e) (ps' := (zs.zip xs).set k.toNat (z', x')) (zs := zs.set k.toNat z') (xs := xs.set k.toNat x') (K := K) (L := L.set i (Asr.of e K.E sv.v ((zs.zip xs).set k.toNat (z', x')))) (sv := sv.v) i (by simp [hil]) (fun _ => (zip_set _ _ _ _ _).symm) (by simpa using hs')
  simpa using h5
theorem MV.lit0V {t e : TypeId} (K : NE Z X) (ht : P.underlying t = some (.slice e)) (hz : (P.info? e).isSome = true) :
    MV P n c env L ⟨d, .buildSlice t 0 #[], ty, ps, af, g⟩ (fun v L' => ∃ sv : SlV, v = sv.v ∧ L' = Asr.onv e K sv.v [] [] :: L) := fun a w hr hs => by
  refine (MV.lit0 (d := d) (ty := ty) (ps := ps) (af := af) (g := g) K.E ht hz a w hr hs).mono fun v L2 h => ?_
  obtain ⟨sv, rfl, rfl⟩ := h
  refine ⟨_, ⟨sv, rfl, rfl⟩, fun w' hs' => ?_⟩
  have := hs'.setW (A := Asr.of e K.E sv.v []) (B := Asr.onv e K sv.v [] []) 0 rfl (fun F G h => ⟨rfl, h, fun j z x hz => by simp at hz⟩)
  simpa using this

/-! ### Literals whose elements have several cells -/
theorem setN (off : Nat) : ∀ (vs : List Value) (j : Nat) (cs : Array Value), off + j + vs.length ≤ cs.size → ((vs.zipIdx j).foldl (fun cs p => cs.setIfInBounds (off + p.2) p.1) cs).toList = cs.toList.take (off + j) ++ vs ++ cs.toList.drop (off + j + vs.length)
  | [], j, cs, _ => by simp
  | v :: vs, j, cs, h => by
    rw [List.zipIdx_cons, List.foldl_cons, setN off vs (j + 1) _ (by simp at h ⊢; omega)]
    have hlt : off + j < cs.toList.length := by simp at h ⊢; omega
    simp only [Array.toList_setIfInBounds, List.length_cons]
    have e1 : (cs.toList.set (off + j) v).take (off + (j + 1)) = cs.toList.take (off + j) ++ [v] := by
      rw [List.set_eq_take_append_cons_drop, if_pos hlt]
      have : cs.toList.take (off + j) ++ v :: cs.toList.drop (off + j + 1) = (cs.toList.take (off + j) ++ [v]) ++ cs.toList.drop (off + j + 1) := by simp
      rw [this, List.take_left']
      rw [List.length_append, List.length_take, List.length_singleton]
      omega
    have e2 : (cs.toList.set (off + j) v).drop (off + (j + 1) + vs.length) = cs.toList.drop (off + j + (vs.length + 1)) := by
      rw [List.drop_set_of_lt (by omega)]
      congr 1
      omega
    rw [e1, e2]
    simp
theorem fill_all {α : Type} (E : Enc α) (f : α → Value) (hf : ∀ x, (f x).cells.toList = E.enc x) : ∀ (xs pre : List α) (cells : Array Value) (rest : List Value), cells.toList = pre.flatMap E.enc ++ rest → rest.length = xs.length * E.sz →
    Instr.fill (fun i => some (i * E.sz, E.sz)) cells ((xs.zipIdx pre.length).map (fun p => (p.2, f p.1))) = some ((pre ++ xs).flatMap E.enc).toArray
  | [], pre, cells, rest, hc, hr => by
    have : rest = [] := List.eq_nil_of_length_eq_zero (by simpa using hr)
    subst this
    simp only [List.zipIdx_nil, List.map_nil, Instr.fill, List.append_nil] at hc ⊢
    rw [← hc]
  | x :: xs, pre, cells, rest, hc, hr => by
    have hsz : (f x).cells.size = E.sz := by rw [← Array.length_toList, hf, E.len]
    have hcl : cells.size = pre.length * E.sz + rest.length := by rw [← Array.length_toList, hc, List.length_append, flat_len]
    rw [List.length_cons, Nat.add_mul, Nat.one_mul] at hr
    simp only [List.zipIdx_cons, List.map_cons, Instr.fill]
    have hno : ¬ ((f x).cells.size ≠ E.sz ∨ pre.length * E.sz + (f x).cells.size > cells.size) := by
      rw [hsz, hcl]
      omega
    rw [if_neg (by simpa using hno)]
    have hset : ((f x).cells.zipIdx.foldl (fun cs p => cs.setIfInBounds (pre.length * E.sz + p.2) p.1) cells).toList = (pre ++ [x]).flatMap E.enc ++ rest.drop E.sz := by
      rw [← Array.foldl_toList, Array.toList_zipIdx]
      have h1 := setN (pre.length * E.sz) (f x).cells.toList 0 cells (by rw [hf, E.len]; omega)
      rw [h1, hf, hc]
      have hl := flat_len E pre
      rw [Nat.add_zero, E.len, ← hl, List.take_left, List.drop_length_add_append, List.flatMap_append]
      simp
    have ih := fill_all E f hf xs (pre ++ [x]) _ (rest.drop E.sz) hset (by rw [List.length_drop]; omega)
    rw [List.length_append, List.length_singleton] at ih
    have e : pre ++ [x] ++ xs = pre ++ x :: xs := by simp
    rw [e] at ih
    exact ih
theorem MV.litA {α : Type} {E : Enc α} {t e : TypeId} {parts : List (Nat × Operand)} {vals : List (Nat × Value)} {z : Value} {bytes len : Nat} (xs : List α) (f : α → Value) (hf : ∀ x, (f x).cells.toList = E.enc x) (ht : P.underlying t = some (.slice e)) (hz : (P.info? e).map (fun i => (i.zero, i.size, i.bytes)) = some (some z, E.sz, bytes))
    (hlen : xs.length = len) (hl : len * E.sz ≤ 16777216 ∧ len * E.sz ≠ 0) (hv : evp env parts = some vals) (hvals : vals = (xs.zipIdx 0).map (fun p => (p.2, f p.1))) :
    MV P n c env L ⟨d, .buildSlice t len parts.toArray, ty, ps, af, g⟩ (fun v L' => ∃ sv : SlV, v = sv.v ∧ L' = Asr.of e E sv.v xs :: L) :=
  MV.lit xs ht hz hlen hl hv (by
    rw [hvals]
    have := fill_all E f hf xs [] (madeCells z.cells (len * E.sz)) (madeCells z.cells (len * E.sz)).toList (by simp) (by simp [madeCells, hlen])
    simpa using this)

/-! ### Functions without a body -/
theorem QV.ext {f : FuncId} {xs : List Operand} {vals : List Value} {ts : Array TypeId} {fn : Func} {o : Oper} {v : Value} {ex : Array Value → Sem Value} (ho : o.op = .call ⟨.value (.func f), xs.toArray, ts⟩) (hf : P.funcs[f]? = some fn) (hn : (fn.name == "runtime.NumGoroutine") = false) (hb : fn.body.isNone = true) (h1 : (Extern.findNext fn).isNone = true) (h2 : Extern.find fn = some ex) (hx : evs env xs = some vals)
    (hrun : ∀ w, Sat c L w → (ex vals.toArray).run P w = .ok v w) : QV P n c env L o v := fun a w hr hs => by
  have hn' : ¬ fn.name = "runtime.NumGoroutine" := by simpa using hn
  have h1' : Extern.findNext fn = none := by simpa using h1
  have hb' : fn.body = none := by simpa using hb
  have hxs := hr.evals hx
  have h3 := hrun w hs
  simp only [execOp, ho, resolve]
  simp only [List.map_toArray, hxs]
  simp [Act.eval, Deferred.ofValue, invoke, callFunc, hf, hn', hb', h1', h2, h3]
theorem loadBytes_run {w : World} : ∀ (xs : List Int) (a : Addr) (acc : ByteArray), (∀ (k : Nat) (v : Value), (xs.map (Value.int .u8))[k]? = some v → w.cell? (a.add k) = some v) → (Extern.Bytes.loadBytes a xs.length acc).run P w = .ok ⟨acc.data ++ (xs.map (fun b => b.toNat.toUInt8)).toArray⟩ w
  | [], a, acc, _ => by
    simp [Extern.Bytes.loadBytes]
  | x :: xs, a, acc, h => by
    have h0 := h 0 (.int .u8 x) rfl
    have ha : a.add 0 = a := by unfold Addr.add; split <;> simp_all
    rw [ha] at h0
    have hl : (load a).run P w = .ok (.int .u8 x) w := by simp [h0]
    have ih := loadBytes_run (w := w) xs (a.add 1) (acc.push x.toNat.toUInt8) (fun k v hv => by
      have := h (k + 1) v (by simpa using hv)
      rwa [add_add, Nat.add_comm])
    simp only [List.length_cons, Extern.Bytes.loadBytes, Sem.run_bind, hl, Result.andThen_ok, ih]
    simp [ByteArray.push]
def baOf (xs : List Int) : ByteArray := ⟨(xs.map (fun b => b.toNat.toUInt8)).toArray⟩
theorem bytesOf_run {w : World} {sv : Value} {xs : List Int} (h : RdS w (Enc.int .u8) sv xs) : (Extern.Bytes.bytesOf sv).run P w = .ok (baOf xs) w := by
  obtain ⟨A, m, cp, rfl, hm, _, _, hA, hc⟩ := h
  cases A with
  | none =>
    have : xs = [] := List.eq_nil_of_length_eq_zero (by have := (hA rfl).1; omega)
    subst this
    rfl
  | some ad =>
    have := loadBytes_run (P := P) (w := w) xs ad ByteArray.empty (fun k v hk => hc ad rfl k v (by rw [enc_bytes]; exact hk))
    simp only [Extern.Bytes.bytesOf, hm, this]
    have e : ByteArray.empty.data = #[] := rfl
    rw [e]
    simp [baOf]
theorem ext_cmp {su sv : Value} {xs ys : List Int} (hx : Rdg c L (Enc.int .u8) su xs) (hy : Rdg c L (Enc.int .u8) sv ys) : ∀ w, Sat c L w → (Extern.BytealgCompare.compare [su, sv].toArray).run P w = .ok (.int .i64 (Extern.BytealgCompare.cmp (baOf xs) (baOf ys))) w := fun w hs => by
  have e : Extern.BytealgCompare.compare [su, sv].toArray = (do pure (goInt (Extern.BytealgCompare.cmp (← Extern.Bytes.bytesOf su) (← Extern.Bytes.bytesOf sv)))) := rfl
  rw [e]
  simp [bytesOf_run (hx w hs), bytesOf_run (hy w hs), goInt]
/-- Where a byte stands in a text; -1. -/
def idxB (s : ByteArray) (x : Int) : Int := match (List.range s.size).find? fun i => s[i]! == x.toNat.toUInt8 with
  | some i => i
  | none => -1
theorem ext_idx {s : ByteArray} {x : Int} : ∀ w, Sat c L w → (Extern.BytealgIndexByte.indexByte [.string s, .int .u8 x].toArray).run P w = .ok (.int .i64 (idxB s x)) w := fun w hs => by
  have e : Extern.BytealgIndexByte.indexByte [.string s, .int .u8 x].toArray = (do
      let b ← Extern.Bytes.bytesOf (.string s)
      let c ← Extern.Bytes.asByte (.int .u8 x)
      match (List.range b.size).find? fun i => b[i]! == c with
      | some i => pure (goInt i)
      | none => pure (goInt (-1))) := rfl
  rw [e]
  unfold idxB
  simp only [Extern.Bytes.bytesOf, Extern.Bytes.asByte, Sem.run_bind, Sem.run_pure, Result.andThen_ok, goInt]
  split <;> rfl
end
end Go.Eng
