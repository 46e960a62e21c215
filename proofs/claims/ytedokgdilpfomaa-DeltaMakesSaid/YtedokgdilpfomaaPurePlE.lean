/- What PlE needs. -/
import Derived.Test.YtedokgdilpfomaaPurePlK
set_option linter.unusedVariables false
set_option linter.unusedSimpArgs false
namespace Go.Proofs.Ytedokgdilpfomaa
open Go Go.Eng Go.Proofs
theorem right24 (s : Stp) : F24.m s.1 s.2.1 s.2.2.1 s.2.2.2 = some (rt s) := by
  unfold F24.m rt
  repeat' split
  all_goals (congr 1; symm; first | (apply decide_eq_false; omega) | (apply decide_eq_true; omega) | (apply decide_eq_decide.2; omega))
theorem piece17 (l : List Stp) (old : List Int) (d : Int) (s : Stp) (hs : gd l d = s) (hr : rt s = true) (h1 : s.1 ≠ 1) (hx : old.length ≤ 100000) (h2 : s.2.1 + s.2.2.1 ≤ (old.length : Int)) (o : List Int) (ho : o.length ≤ 100000000) :
    loop (F17.b2 l old d) (o, 0) = some (o ++ pc old s) := by
  obtain ⟨k, f, n, dt⟩ := s
  have hin := rt_in hr
  simp only at hin h1 h2 ⊢
  obtain ⟨f, rfl⟩ := nat_of hin.2.2.1
  obtain ⟨n, rfl⟩ := nat_of (show 0 ≤ n by omega)
  have hpl := pc_len old (k, (f : Int), (n : Int), dt)
  simp only [Int.toNat_natCast] at hpl
  refine loop_done (fun i => (o ++ (pc old (k, (f : Int), (n : Int), dt)).take i, (i : Int))) n _ (fun i hi => ?_) ?_ (by simp)
  · simp only [F17.b2]
    rw [hs]
    simp only
    rw [if_pos (by omega), w64 (n := (f : Int) + (i : Int)) (by omega) (by omega), if_pos (by omega), take_gd _ i (by omega), pc_at _ _ _ (by simp only [Int.toNat_natCast]; exact hi)]
    simp only [Int.toNat_natCast, F17.j5]
    rw [show (f : Int) + (i : Int) = ((f + i : Nat) : Int) by omega]
    by_cases e : k = 3
    · rw [if_pos e, if_pos e, if_pos (by omega), if_pos (by simp; omega), w64 (by omega) (by omega), List.append_assoc]; rfl
    · rw [if_neg e, if_neg e, if_pos (by simp; omega), w64 (by omega) (by omega), List.append_assoc]; rfl
  · simp only [F17.b2]
    rw [hs]
    simp only
    rw [if_neg (by omega), List.take_of_length_le (by omega)]
theorem eval17 (l : List Stp) (old : List Int) (want : Int) (hl : l.length ≤ 10000) (hd : ∀ s ∈ l, s.2.2.2.length ≤ 5000) (hx : old.length ≤ 100000) (hw : want ≤ 9223372036854775807) :
    F17.m l old want = some (if ¬ ∀ s ∈ l, rt s = true then ([], 3) else if tot l = want then evs old l [] else ([], 13)) := by
  unfold F17.m
  obtain ⟨y, hy, hQ⟩ := loop_ends (b := F17.b3 l want) (fun x => ∃ k : Nat, x.2 = (k : Int) ∧ k ≤ l.length ∧ (∀ s ∈ l.take k, rt s = true) ∧ 0 ≤ x.1 ∧ x.1 ≤ tot (l.take k) ∧ (x.1 ≤ want → x.1 = tot (l.take k))) (fun x => ((l.length : Int) - x.2).toNat)
    (fun y => (∃ n, y = .inr n ∧ (∀ s ∈ l, rt s = true) ∧ (n = want ↔ tot l = want)) ∨ (y = .inl ([], 3) ∧ ¬ ∀ s ∈ l, rt s = true)) (fun x hx' => by
      obtain ⟨t, k⟩ := x
      obtain ⟨k, rfl, hk, ha, h0, h1, h2⟩ := hx'
      simp only at h0 h1 h2
      simp only [F17.b3]
      by_cases h : k < l.length
      · rw [if_pos (by omega), if_pos (by omega), right24, Option.bind_some]
        by_cases hr : rt (gd l (k : Int)) = true
        · rw [if_pos hr]
          have hin := rt_in hr
          have hb := tot_bd _ ha
          rw [List.length_take] at hb
          have ha' : ∀ s ∈ l.take (k + 1), rt s = true := fun s hs => by
            rw [take_gd l k h] at hs
            rcases List.mem_append.1 hs with hs | hs
            · exact ha s hs
            · rw [List.mem_singleton.1 hs]; exact hr
          have e : tot (l.take (k + 1)) = tot (l.take k) + (gd l (k : Int)).2.2.1 := by rw [take_gd l k h, tot_snoc]
          by_cases hc : t ≤ want
          · rw [if_pos hc]
            simp only [F17.j6]
            rw [w64 (n := t + _) (by omega) (by omega), w64 (by omega) (by omega)]
            exact on_ (x := (t, (k : Int))) ⟨k + 1, rfl, by omega, ha', by simp only; omega, by simp only; omega, fun _ => by simp only; have := h2 hc; omega⟩ (by simp only; omega)
          · rw [if_neg hc]
            simp only [F17.j6]
            rw [w64 (by omega) (by omega)]
            exact on_ (x := (t, (k : Int))) ⟨k + 1, rfl, by omega, ha', by simp only; omega, by simp only; omega, fun h => absurd h hc⟩ (by simp only; omega)
        · rw [if_neg hr]
          exact out_ (x := (t, (k : Int))) (.inr ⟨rfl, fun h' => hr (h' _ (gd_mem l k h))⟩)
      · rw [if_neg (by omega)]
        rw [List.take_of_length_le (by omega)] at ha h1 h2
        exact out_ (x := (t, (k : Int))) (.inl ⟨t, rfl, ha, ⟨fun e => by have := h2 (by omega); omega, fun e => by
          have h5 : t ≤ want → t = want := fun c => by have := h2 c; omega
          omega⟩⟩)) (0, 0) ⟨0, rfl, by omega, by simp, by simp, by simp [tot], by simp [tot]⟩
  rw [hy, Option.bind_some]
  rcases hQ with ⟨n, rfl, ha, hn⟩ | ⟨rfl, ha⟩
  · rw [if_neg (show ¬ ¬ (∀ s ∈ l, rt s = true) from fun h => h ha)]
    simp only [F17.j1]
    by_cases hw : tot l = want
    · rw [if_pos (hn.2 hw), if_pos hw]
      obtain ⟨y, hy, hQ⟩ := loop_ends (b := F17.b1 l old) (fun x => ∃ k : Nat, x.2 = (k : Int) ∧ k ≤ l.length ∧ x.1.length ≤ 5000 * k ∧ evs old (l.drop k) x.1 = evs old l []) (fun x => ((l.length : Int) - x.2).toNat)
        (fun y => (match y with | .inl r => r | .inr o => (o, 0)) = evs old l []) (fun x hx' => by
          obtain ⟨o, k⟩ := x
          obtain ⟨k, rfl, h1, h2, h3⟩ := hx'
          simp only at h2 h3
          simp only [F17.b1]
          by_cases hk : k < l.length
          · have hm := gd_mem l k hk
            have hr := ha _ hm
            have hin := rt_in hr
            have hdl := hd _ hm
            rw [drop_gd l k hk, evs] at h3
            rw [if_pos (by omega), if_pos (by omega)]
            by_cases c1 : (gd l (k : Int)).1 = 1
            · rw [if_pos c1] at h3
              rw [if_pos c1, if_pos (by omega)]
              simp only [F17.j3]
              rw [w64 (by omega) (by omega)]
              exact on_ (x := (o, (k : Int))) ⟨k + 1, rfl, by omega, by simp; omega, h3⟩ (by simp only; omega)
            · rw [if_neg c1] at h3
              rw [if_neg c1]
              by_cases c2 : (old.length : Int) < (gd l (k : Int)).2.1
              · rw [if_pos c2] at h3
                rw [if_pos c2]
                exact out_ (x := (o, (k : Int))) h3
              · rw [if_neg c2] at h3
                rw [if_neg c2, w64 (n := (old.length : Int) - _) (by omega) (by omega)]
                by_cases c3 : (old.length : Int) - (gd l (k : Int)).2.1 < (gd l (k : Int)).2.2.1
                · rw [if_pos c3] at h3
                  rw [if_pos c3]
                  exact out_ (x := (o, (k : Int))) h3
                · rw [if_neg c3] at h3
                  rw [if_neg c3, piece17 l old (k : Int) _ rfl hr c1 hx (by omega) o (by omega), Option.bind_some]
                  have hpl := pc_len old (gd l (k : Int))
                  simp only [F17.j4, F17.j3]
                  rw [w64 (by omega) (by omega)]
                  exact on_ (x := (o, (k : Int))) ⟨k + 1, rfl, by omega, by simp; omega, h3⟩ (by simp only; omega)
          · rw [if_neg (by omega)]
            rw [List.drop_of_length_le (by omega), evs] at h3
            exact out_ (x := (o, (k : Int))) h3) ([], 0) ⟨0, rfl, by omega, by simp, rfl⟩
      rw [hy, Option.bind_some]
      rcases y with r | o
      · exact congrArg some hQ
      · exact congrArg some hQ
    · rw [if_neg (fun h => hw (hn.1 h)), if_neg hw]
  · rw [if_pos ha]
end Go.Proofs.Ytedokgdilpfomaa
