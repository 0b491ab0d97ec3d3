/-
  The rules and inputs that the statements of layer 22 work on (cut, and a list's first 202), in memory. Condition: rules and inputs lie.
-/
import Derived.Test.YtohpkolkagddiaaDoorQ34
namespace Go.Proofs.QW
open Go.RowKit Go.Proofs.KL Go.Proofs.QM
set_option maxRecDepth 100000
set_option linter.unusedSimpArgs false
set_option linter.unusedVariables false

def cutM (rs : List QRule) : List QRule := if rs.length ≤ 200 then cutAt 202 (rs.take 40) else cutAt 202 rs
theorem RulesX.take {w : World} {X : Nat → Prop} {A : Option Addr} {n c m : Nat} {rs : List QRule} (h : RulesX w X (.slice A n c) rs) (hm : m ≤ rs.length) : RulesX w X (.slice A m c) (rs.take m) := by
  obtain ⟨A', c', h1, h2, h3⟩ := h
  injection h1 with h1 h4 h5
  subst h1; subst h5
  have hl : (rs.take m).length = m := by rw [List.length_take]; omega
  refine ⟨A, c, by rw [hl], by omega, fun i hi => ?_⟩
  rw [hl] at hi
  obtain ⟨b, o, u, e, hb, e0, e1, e2, hu⟩ := h3 i (by omega)
  have hg : (rs.take m).getD i default = rs.getD i default := by
    rw [List.getD_eq_getElem?_getD, List.getElem?_take, if_pos hi, List.getD_eq_getElem?_getD]
  rw [hg]
  exact ⟨b, o, u, e, hb, e0, e1, e2, hu⟩
theorem cutM_len (rs : List QRule) : (cutM rs).length ≤ 202 ∧ ((cutM rs).length ≤ 40 ∨ 200 < (cutM rs).length) := by
  unfold cutM cutAt
  split
  · rw [List.length_map, List.length_take, List.length_take]; omega
  · rw [List.length_map, List.length_take]; omega
theorem cutM_asks (rs : List QRule) : ∀ r ∈ cutM rs, r.asks.length ≤ 14 := by
  have h : ∀ (l : List QRule), ∀ r ∈ l.map cutRule, r.asks.length ≤ 14 := fun l r hr => by
    obtain ⟨x, _, rfl⟩ := List.mem_map.1 hr
    show (x.asks.take 14).length ≤ 14
    rw [List.length_take]; omega
  unfold cutM cutAt
  split
  · exact h _
  · exact h _
set_option maxHeartbeats 2000000 in
/-- CUT, of the statements. -/
theorem cut_any (rs : List QRule) (w : World) (X : Nat → Prop) (rv : Value) (hr : RulesX w X rv rs) :
    Calls Tryd.prog 10 #[rv] w fun e w' => ∃ v', e = .returned v' ∧ Keeps Nob w w' ∧ RulesX w' (fun k => w.heap.size ≤ k ∧ k < w'.heap.size) v' (cutM rs) := by
  obtain ⟨A, c, rfl, hcc, hcell⟩ := id hr
  have HR := Lib.hid hr
  have hnone : A = none → rs.length = 0 := fun e => by
    rcases Nat.eq_zero_or_pos rs.length with h | h
    · exact h
    · obtain ⟨b, o, u, h2, _⟩ := hcell 0 h; rw [e] at h2; cases h2
  clear hr hcell
  unfold cutM
  by_cases hl : rs.length ≤ 200
  · rw [if_pos hl]
    obtain ⟨m, hm⟩ : ∃ m : Nat, m = min rs.length 40 := ⟨_, rfl⟩
    have hmin : (if (40 : Int) < (rs.length : Int) then (40 : Int) else (rs.length : Int)) = (m : Int) := by split <;> omega
    have hm1 : m ≤ rs.length := by omega
    have hm3 : m ≤ c := by omega
    have hrun := Cut_any (rs.take m) w X (.slice A m c) (HR.out.take hm1)
    have htk : rs.take 40 = rs.take m := by
      rw [hm]
      rcases Nat.le_total rs.length 40 with h | h
      · rw [Nat.min_eq_left h, List.take_of_length_le h, List.take_of_length_le (Nat.le_refl _)]
      · rw [Nat.min_eq_right h]
    rw [htk]
    have Hrun := Lib.hid hrun
    have hli : (rs.length : Int) ≤ 200 := by omega
    clear hrun htk hm
    cases A with
    | none =>
      have h0 := hnone rfl
      have hm0 : m = 0 := by omega
      subst hm0
      go_enter Tryd.func10, Tryd.ntmps10
      go_wp2_with (go_at_call 33; go_must (refine Hrun.out.mono ?_; rintro e w2 ⟨v', rfl, hk, hx⟩))
      go_ret
      exact ⟨v', rfl, hk, hx⟩
    | some ad =>
      clear hnone
      go_enter Tryd.func10, Tryd.ntmps10
      go_wp2_with (go_at_call 33; go_must (refine Hrun.out.mono ?_; rintro e w2 ⟨v', rfl, hk, hx⟩))
      go_ret
      exact ⟨v', rfl, hk, hx⟩
  · rw [if_neg hl]
    have hrun := Cut_any rs w X _ HR.out
    have Hrun := Lib.hid hrun
    have hli : ¬ (rs.length : Int) ≤ 200 := by omega
    clear hrun hnone
    go_enter Tryd.func10, Tryd.ntmps10
    go_wp2_with (go_at_call 33; go_must (refine Hrun.out.mono ?_; rintro e w2 ⟨v', rfl, hk, hx⟩))
    go_ret
    exact ⟨v', rfl, hk, hx⟩
end Go.Proofs.QW
