/-
  The specification's Check, in memory: the model's 'check'. No condition.
-/
import Derived.Test.YtohpkolkagddiaaDoorQ22
namespace Go.Proofs.QW
open Go.RowKit Go.Proofs.KL Go.Proofs.QM
set_option maxRecDepth 100000
set_option linter.unusedSimpArgs false
set_option linter.unusedVariables false

set_option maxHeartbeats 2000000 in
/-- The specification's CHECK. -/
theorem RefCheck_any (rs : List QRule) (w : World) (X : Nat → Prop) (rv : Value) (hr : RulesX w X rv rs) :
    Calls Tryd.prog 11 #[rv] w fun e w' => e = .returned (.tuple #[.int .i64 (check rs).1, .int .i64 (check rs).2]) ∧ Keeps Nob w w' := by
  obtain ⟨A, c, rfl, hcc, hcell⟩ := id hr
  obtain ⟨ce, hce⟩ : ∃ x, check rs = x := ⟨_, rfl⟩
  obtain ⟨c1, c2⟩ := ce
  rw [hce]
  unfold check at hce
  obtain ⟨i72, hi72, hs72⟩ := info72
  have Hi72 := Lib.hid (And.intro hi72 hs72)
  have Hr := Lib.hid hr
  have Hcell := Lib.hid hcell
  obtain ⟨rl, hrl⟩ : ∃ x, rs.length = x := ⟨_, rfl⟩
  rw [hrl] at hce ⊢
  have Hrl := Lib.hid hrl
  have Hce := Lib.hid hce
  clear hr hcell hce hrl hi72 hs72
  by_cases h2 : 200 < rl
  · have h2' : (200 : Int) < rl := by omega
    have hk := Hce.out
    rw [if_pos h2] at hk
    injection hk with hk1 hk2
    subst hk1; subst hk2
    clear Hce
    go_enter Tryd.func11, Tryd.ntmps11
    go_wp2
    go_ret2
    exact ⟨rfl, Keeps.refl _ _⟩
  have h2' : ¬ (200 : Int) < rl := by omega
  have hk := Hce.out
  rw [if_neg h2] at hk
  have Hk := Lib.hid hk
  clear hk Hce
  go_enter Tryd.func11, Tryd.ntmps11
  go_wp2
  go_loopw [12] (fun v wr => ∃ k : Nat, v = .int .i64 k ∧ k ≤ rl ∧ Hid (Keeps Nob w wr) ∧ Hid (checkFrom rl (rs.drop k) k = (c1, c2)))
    (fun v _ => rl - (intOf v).toNat)
  case atStart => exact ⟨0, rfl, Nat.zero_le _, Lib.hid (Keeps.refl _ _), Lib.hid Hk.out⟩
  case round =>
    obtain ⟨k, rfl, hk, hkeep, hst⟩ := hrel
    by_cases hlt : k < rl
    · obtain ⟨b, o, u, rfl, hb, e0, e1, e2, hu⟩ := Hcell.out k (by rw [Hrl.out]; exact hlt)
      have e0 := hkeep.out.cell e0 id
      have e1 := hkeep.out.cell e1 id
      have e2 := hkeep.out.cell e2 id
      have hstep : checkFrom rl (rs.drop k) k = if ruleErr rl (rs.getD k default) = 0 then checkFrom rl (rs.drop (k + 1)) ((k + 1 : Nat) : Int) else ((k : Int), ruleErr rl (rs.getD k default)) := by
        rw [drop_rule (by rw [Hrl.out]; exact hlt), checkFrom]; rfl
      rw [hst.out] at hstep
      have hu' := hu.keep (X' := X) hkeep.out (fun _ _ _ => id) (fun _ _ h => h)
      obtain ⟨uA, uc, rfl, _, _⟩ := id hu
      have Hu := Lib.hid hu'
      have Hstep := Lib.hid hstep
      clear hu hu' hstep hb
      generalize rs.getD k default = r at *
      obtain ⟨er, her⟩ : ∃ x, ruleErr rl r = x := ⟨_, rfl⟩
      have hs2 := Hstep.out
      rw [her] at hs2
      have Her := Lib.hid her
      have Hs2 := Lib.hid hs2
      clear hs2 her Hstep
      go_wp2_with (first
        | ((with_reducible refine at_dst (N := 5) rfl ?_); go_must (refine ev_alloc rfl rfl zero72 rfl ?_; intro g5 w1 hg5 hl5 hb5 hk1); have Hb5 := Lib.hid hb5; clear hb5; (try simp only [Act.put, List.setIfInBounds_toArray, List.set_cons_zero, List.set_cons_succ]))
        | ((with_reducible refine at_store (t := 72) rfl ?_); go_must (refine ev_store (cs' := #[.int .i64 r.kind, .int .i64 r.n, .slice uA r.asks.length uc]) rfl rfl rfl rfl rfl rfl Hi72.out.1 Hi72.out.2 rfl Hb5.out (Nat.le_of_ble_eq_true rfl) rfl ?_; intro w2 hb2 hk2); have f0 := (blk_cell hb2 0).trans rfl; have f1 := (blk_cell hb2 1).trans rfl; have f2 := (blk_cell hb2 2).trans rfl; clear hb2
           have hk2' := (hkeep.out.trans hk1 (fun _ _ h => h)).own hk2 (by have := hkeep.out.size; omega)
           have hk12 : Keeps Nob wr w2 := hk1.own hk2 hg5
           have Hrun := Lib.hid (one_any r (some ⟨b, o, none⟩) rl c w2 X (.slice uA r.asks.length uc) (Hu.out.keep hk12 (fun _ _ _ => id) (fun _ _ h => h)))
           have HK2 := Lib.hid hk2'
           clear hk2' hk12 hk1 hk2
           (try simp only [Act.put, List.setIfInBounds_toArray, List.set_cons_zero, List.set_cons_succ]))
        | (go_at_call 34; go_must (refine Hrun.out.mono ?_; rintro e w3 ⟨rfl, hk3⟩; rw [Her.out]); have HK3 := Lib.hid (HK2.out.trans hk3 (fun _ _ h => h)); clear hk3))
      · have hz : er ≠ 0 := by intro hz; simp_all
        have hs3 := Hs2.out
        rw [if_neg hz] at hs3
        injection hs3 with h1 h2
        go_ret2
        exact ⟨by rw [h1, h2]; rfl, HK3.out⟩
      · have hz : er = 0 := by simp_all
        have hs3 := Hs2.out
        rw [if_pos hz] at hs3
        exact ⟨⟨k + 1, by go_num, by omega, HK3, Lib.hid hs3.symm⟩, by simp [intOf]; omega⟩
    · have hk' : k = rl := by omega
      subst hk'
      have hs := hst.out
      rw [← Hrl.out, List.drop_length] at hs
      injection hs with h1 h2
      subst h1; subst h2
      go_wp2
      go_ret2
      exact ⟨rfl, hkeep.out⟩
end Go.Proofs.QW
