/- What MerkleWays needs. -/
import Derived.Test.YtmedbpiapeiobaaPureMeL
import Derived.Test.YtmedbpiapeiobaaYMerkleWays
set_option linter.unusedVariables false
set_option linter.unusedSimpArgs false
namespace Go.Proofs.Ytmedbpiapeiobaa
open Go Go.Eng Go.Proofs
/-- What stands beside the way from a place to the root, from below. -/
def way (l : List D32) (i : Nat) : List D32 :=
  if h : l.length ≤ 1 then [] else if hf l.length ≤ i then way (l.drop (hf l.length)) (i - hf l.length) ++ [R (l.take (hf l.length))] else way (l.take (hf l.length)) i ++ [R (l.drop (hf l.length))]
termination_by l.length
decreasing_by
  all_goals have := hf_bd l.length (by omega); simp; omega
theorem way_len (l : List D32) (i : Nat) : (way l i).length = (tn i l.length).length := by
  rw [way, tn]
  by_cases a : l.length ≤ 1
  · rw [dif_pos a, dif_pos a]; rfl
  · have hb := hf_bd l.length (by omega)
    rw [dif_neg a, dif_neg a]
    split
    · have := way_len (l.drop (hf l.length)) (i - hf l.length)
      simp only [List.length_append, List.length_cons, List.length_nil, this]
      simp
    · have := way_len (l.take (hf l.length)) i
      simp only [List.length_append, List.length_cons, List.length_nil, this]
      simp [Nat.min_eq_left (Nat.le_of_lt hb.2.1)]
termination_by l.length
decreasing_by
  all_goals simp; omega
theorem way_lead (l : List D32) (i : Nat) (h : i < l.length) : cl (gd l (i : Int)) (tn i l.length) (way l i) = R l := by
  rw [way, tn]
  by_cases a : l.length ≤ 1
  · rw [dif_pos a, dif_pos a, R_one l (by omega)]
    simp only [cl]
    rw [show i = 0 from by omega]
    rfl
  · have hb := hf_bd l.length (by omega)
    rw [dif_neg a, dif_neg a, R_two l (by omega)]
    have cut (ws : List D32) (w : D32) : (ws ++ [w]).length - 1 = ws.length ∧ gd (ws ++ [w]) (ws.length : Int) = w ∧ (ws ++ [w]).take ws.length = ws := ⟨by simp, by rw [gd_at _ _ (by simp)]; simp, by simp⟩
    by_cases c : hf l.length ≤ i
    · rw [if_pos c, if_pos c]
      obtain ⟨e1, e2, e3⟩ := cut (way (l.drop (hf l.length)) (i - hf l.length)) (R (l.take (hf l.length)))
      simp only [cl]
      rw [e1, e2, e3, if_pos trivial]
      have := way_lead (l.drop (hf l.length)) (i - hf l.length) (by simp; omega)
      rw [List.length_drop, gd_at _ _ (by simp; omega)] at this
      rw [gd_at _ _ h, ← this]
      congr 2
      simp
      congr 1
      omega
    · rw [if_neg c, if_neg c]
      obtain ⟨e1, e2, e3⟩ := cut (way (l.take (hf l.length)) i) (R (l.drop (hf l.length)))
      simp only [cl]
      rw [e1, e2, e3, if_neg (by simp)]
      have := way_lead (l.take (hf l.length)) i (by simp; omega)
      rw [List.length_take, Nat.min_eq_left (by omega), gd_at _ _ (by simp; omega)] at this
      rw [gd_at _ _ h, ← this]
      congr 2
      simp
termination_by l.length
decreasing_by
  all_goals simp; omega
theorem way_max (l : List D32) (i : Nat) (h : l.length ≤ 100000) : (way l i).length ≤ 63 := by
  have := tn_len i l.length
  have := lg_63 l.length (by omega)
  rw [way_len]; omega
theorem F54_is (l : List D32) (i : Nat) (h : i < l.length) (hl : l.length ≤ 100000) : F54.m l i = some (way l i, 0) := by
  unfold F54.m
  rw [if_neg (by omega), if_neg (by omega)]
  obtain ⟨y, hy, hq⟩ := loop_ends (b := F54.b1) (fun s => ∃ (m : List D32) (j : Nat) (d : List D32), j < m.length ∧ m.length ≤ l.length ∧ way m j ++ d = way l i ∧ s = (m, (j : Int), d)) (fun s => s.1.length) (fun y => y = way l i) (fun s hs => by
    obtain ⟨m, j, d, hj, hm, hw, rfl⟩ := hs
    have hmax := way_max l i hl
    simp only [F54.b1]
    by_cases a : m.length ≤ 1
    · rw [if_neg (by omega)]
      refine ⟨_, rfl, fun x' h => by simp at h, fun y h => ?_⟩
      simp only [Sum.inr.injEq] at h
      rw [way, dif_pos a, List.nil_append] at hw
      rw [← h, hw]
    · have hb := hf_bd m.length (by omega)
      rw [way, dif_neg a] at hw
      rw [if_pos (by omega), F76_is _ (by omega) (by omega), Option.bind_some]
      by_cases c : hf m.length ≤ j
      · rw [if_pos c] at hw
        have hdl := congrArg List.length hw
        simp only [List.length_append, List.length_cons, List.length_nil] at hdl
        rw [if_neg (by omega), if_pos (by omega), subD_take, subD_drop, F44_is _ (by simp; omega), Option.bind_some, if_pos (by simp; omega), if_pos (by omega)]
        simp only [F54.j2]
        rw [w64 (by omega) (by omega)]
        refine ⟨_, rfl, fun x' h => ?_, fun y h => by simp at h⟩
        simp only [Sum.inl.injEq] at h
        subst h
        refine ⟨⟨m.drop (hf m.length), j - hf m.length, [R (m.take (hf m.length))] ++ d, by simp; omega, by simp; omega, ?_, ?_⟩, by simp; omega⟩
        · rw [← hw]; simp
        · rw [show ((j - hf m.length : Nat) : Int) = (j : Int) - hf m.length from by omega]
      · rw [if_neg c] at hw
        have hdl := congrArg List.length hw
        simp only [List.length_append, List.length_cons, List.length_nil] at hdl
        rw [if_pos (by omega), if_pos (by omega), subD_take, subD_drop, F44_is _ (by simp; omega), Option.bind_some, if_pos (by simp; omega), if_pos (by omega)]
        simp only [F54.j2]
        refine ⟨_, rfl, fun x' h => ?_, fun y h => by simp at h⟩
        simp only [Sum.inl.injEq] at h
        subst h
        refine ⟨⟨m.take (hf m.length), j, [R (m.drop (hf m.length))] ++ d, by simp; omega, by simp; omega, ?_, rfl⟩, by simp; omega⟩
        rw [← hw]; simp) (l, (i : Int), []) ⟨l, i, [], h, by omega, by simp, rfl⟩
  rw [hy, hq]
  rfl
theorem F56_run : ∀ (f : Nat) (l : List D32) (i : Nat), l.length < f → i < l.length → l.length ≤ 100000 → F56.mF f l i = some (way l i)
  | 0, _, _, h, _, _ => by omega
  | f + 1, l, i, h, hi, hl => by
    simp only [F56.mF, F56.g]
    rw [way]
    by_cases a : l.length = 1
    · rw [if_pos (by omega), dif_pos (by omega)]
    have hb := hf_bd l.length (by omega)
    rw [if_neg (by omega), dif_neg (by omega), F77_is _ (by omega) (by omega), Option.bind_some]
    by_cases c : hf l.length ≤ i
    · have := way_max (l.drop (hf l.length)) (i - hf l.length) (by simp; omega)
      rw [if_pos c, if_neg (by omega), if_pos (by omega), if_pos (by omega), subD_take, subD_drop, w64 (by omega) (by omega), show (i : Int) - hf l.length = ((i - hf l.length : Nat) : Int) from by omega, F56_run f _ _ (by simp; omega) (by simp; omega) (by simp; omega), Option.bind_some, F46_is _ (by simp; omega), Option.bind_some, if_pos (by simp; omega)]
    · have := way_max (l.take (hf l.length)) i (by simp; omega)
      rw [if_neg c, if_pos (by omega), if_pos (by omega), if_pos (by omega), subD_take, subD_drop, F56_run f _ _ (by simp; omega) (by simp; omega) (by simp; omega), Option.bind_some, F46_is _ (by simp; omega), Option.bind_some, if_pos (by simp; omega)]
theorem F56_is (l : List D32) (i : Nat) (h : i < l.length) (hl : l.length ≤ 100000) : F56.m l i = some (way l i) :=
  evt_is (l.length + 1) (fun k hk => F56_run k l i (by omega) h hl)
theorem F55_is (l : List D32) (hl : l.length ≤ 100000) : F55.m l l = some true := by
  unfold F55.m
  rw [if_pos rfl, loop_done (fun k => (k : Int)) l.length (.inr ()) (fun k hk => ?_) ?_ (by rfl)]
  · rfl
  · simp only [F55.b1]
    rw [if_neg (by omega)]
  · simp only [F55.b1]
    rw [if_pos (by omega), if_pos (by omega), if_pos (by omega), if_pos trivial, w64 (by omega) (by omega)]
    rfl
theorem pure_MerkleWays (a0 : List (Arr Int 32)) (a1 : Int) (w0 : ∀ x ∈ a0, (∀ y ∈ (x).l, InR .u8 y)) (m0 : a0.length ≤ maxLen) (w1 : InR .i64 a1) :
    F16.m a0 a1 = some true := by
  unfold F16.m
  rw [mer_awake]
  by_cases h : (100 : Int) < (a0.length : Int)
  · rw [if_pos h]; rfl
  rw [if_neg h, copy_is _ (by omega), Option.bind_some]
  by_cases d : a1 < 0
  · have h54 : F54.m a0 a1 = some ([], 5) := by unfold F54.m; rw [if_pos d]
    have h50 : F50.m a1 a0.length = some (-1) := by unfold F50.m; rw [if_pos d]
    rw [h54, h50]
    simp only [Option.bind_some]
    rw [if_pos d]
    rfl
  by_cases e : (a0.length : Int) ≤ a1
  · have h54 : F54.m a0 a1 = some ([], 5) := by unfold F54.m; rw [if_neg d, if_pos e]
    have h50 : F50.m a1 a0.length = some (-1) := by unfold F50.m; rw [if_neg d, if_pos e]
    rw [h54, h50]
    simp only [Option.bind_some]
    rw [if_neg d, if_pos e]
    rfl
  obtain ⟨i, rfl⟩ : ∃ i : Nat, a1 = i := ⟨a1.toNat, by omega⟩
  have hi : i < a0.length := by omega
  have hw := way_max a0 i (by omega)
  have hwl := way_len a0 i
  rw [F54_is a0 i hi (by omega), Option.bind_some, if_neg d, if_neg e, if_pos (by omega)]
  dsimp only
  rw [lead_is _ i a0.length _ hi (by omega) (by omega), Option.bind_some, if_pos rfl, F56_is a0 i hi (by omega), Option.bind_some, F55_is _ (by omega), Option.bind_some, if_pos rfl, steps_is i _ hi (by omega), Option.bind_some, if_pos (by omega), if_pos hwl.symm, if_pos rfl, Option.bind_some, F44_is _ (by omega), Option.bind_some, way_lead a0 i hi, if_pos rfl]
  rfl
end Go.Proofs.Ytmedbpiapeiobaa
