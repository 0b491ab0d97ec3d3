/-
  The specification's Check of rules, in memory: the model's 'check'. No condition.
-/
import Derived.Test.YtohpkolkagddiaaDoorQ12
namespace Go.Proofs.QW
open Go.RowKit Go.Proofs.KL Go.Proofs.QM
set_option maxRecDepth 100000
set_option linter.unusedSimpArgs false
set_option linter.unusedVariables false

theorem within_any (n low high : Int) (w : World) : Calls Tryd.prog 54 #[.int .i64 n, .int .i64 low, .int .i64 high] w fun e w' => e = .returned (.bool (decide (low ≤ n) && decide (n ≤ high))) ∧ w = w' := by
  by_cases h : low ≤ n
  · have hd : decide (low ≤ n) = true := decide_eq_true h
    go_enter Tryd.func54, Tryd.ntmps54
    go_wp2
    go_ret
    exact ⟨by simp [hd], rfl⟩
  · have hd : decide (low ≤ n) = false := decide_eq_false h
    go_enter Tryd.func54, Tryd.ntmps54
    go_wp2
    go_ret
    exact ⟨by simp [hd], rfl⟩
set_option maxHeartbeats 2000000 in
theorem one_1 (n : Int) (asks : List Int) (A' : Option Addr) (many c' : Nat) (w : World) (X : Nat → Prop) (sv : Value) (hx : IntsX w X sv asks) :
    Calls Tryd.prog 34 #[.slice A' many c', .agg #[.int .i64 1, .int .i64 n, sv]] w fun e w' => e = .returned (.int .i64 (ruleErr many ⟨1, n, asks⟩)) ∧ Keeps Nob w w' := by
  obtain ⟨A, c, rfl, -, hcell⟩ := id hx
  obtain ⟨er, her⟩ : ∃ x, ruleErr many ⟨1, n, asks⟩ = x := ⟨_, rfl⟩
  rw [her]
  unfold ruleErr at her
  rw [if_neg (by show ¬ ((1 : Int) < 1 ∨ (7 : Int) ≤ 1); decide), show bnds 1 = (0, 0, 0, 0) from rfl] at her
  dsimp only at her
  have Hcell := Lib.hid hcell
  have Her := Lib.hid her
  clear hx hcell her
  by_cases h1 : (decide ((0 : Int) ≤ n) && decide (n ≤ (0 : Int))) = true
  · have her := Her.out
    rw [if_neg (by simp at h1; omega)] at her
    have H1 := Lib.hid h1
    clear h1
    by_cases h2 : 12 < (asks.length : Int)
    · rw [if_pos h2] at her
      have hkr := Lib.hid her
      clear Her her
      go_enter Tryd.func34, Tryd.ntmps34
      go_wp2_with (first
        | ((with_reducible refine at_dst (N := 3) rfl ?_); go_must (refine ev_box (cs := #[.int .i64 1, .int .i64 n, .slice A asks.length c]) rfl rfl rfl ?_; intro g3 w1 hg3 hl3 hb3 hk3); have f0 := (blk_cell hb3 0).trans rfl; have f1 := (blk_cell hb3 1).trans rfl; have f2 := (blk_cell hb3 2).trans rfl; clear hb3; (try simp only [Act.put, List.setIfInBounds_toArray, List.set_cons_zero, List.set_cons_succ]))
        | (go_at_call 54; go_must (refine (within_any _ _ _ _).mono ?_; rintro e w' ⟨rfl, rfl⟩; rw [H1.out])))
      go_ret
      exact ⟨by rw [← hkr.out]; rfl, hk3⟩
    rw [if_neg h2] at her
    by_cases h3 : (decide ((0 : Int) ≤ (asks.length : Int)) && decide ((asks.length : Int) ≤ (0 : Int))) = true
    · rw [if_neg (by rw [Bool.and_eq_true, decide_eq_true_eq, decide_eq_true_eq] at h3; omega)] at her
      have Her2 := Lib.hid her
      have H3 := Lib.hid h3
      clear her Her h3
      have hal : (asks.length : Int) ≤ 12 := by omega
      go_enter Tryd.func34, Tryd.ntmps34
      go_wp2_with (first
        | ((with_reducible refine at_dst (N := 3) rfl ?_); go_must (refine ev_box (cs := #[.int .i64 1, .int .i64 n, .slice A asks.length c]) rfl rfl rfl ?_; intro g3 w1 hg3 hl3 hb3 hk3); have f0 := (blk_cell hb3 0).trans rfl; have f1 := (blk_cell hb3 1).trans rfl; have f2 := (blk_cell hb3 2).trans rfl; clear hb3; (try simp only [Act.put, List.setIfInBounds_toArray, List.set_cons_zero, List.set_cons_succ]))
        | (go_at_call 54; go_must (refine (within_any _ _ _ _).mono ?_; rintro e w' ⟨rfl, rfl⟩; first | rw [H1.out] | rw [H3.out])))
      have HK := Lib.hid hk3
      clear hk3
      go_loopw [48] (fun v wr => ∃ k : Nat, v = .int .i64 k ∧ k ≤ asks.length ∧ wr = w1 ∧ Hid ((asks.drop k).any (askOut many) = asks.any (askOut many)))
        (fun v _ => asks.length - (intOf v).toNat)
      case atStart => exact ⟨0, rfl, Nat.zero_le _, rfl, Lib.hid rfl⟩
      case round =>
        obtain ⟨k, rfl, hk, rfl, hst⟩ := hrel
        by_cases hlt : k < asks.length
        · obtain ⟨b, o, rfl, _, hcw⟩ := Hcell.out k hlt
          have hcw := HK.out.cell hcw id
          have hstep : (asks.drop k).any (askOut many) = (askOut many (asks.getD k 0) || (asks.drop (k + 1)).any (askOut many)) := by
            rw [drop_getD hlt, List.any_cons]
          rw [hst.out] at hstep
          unfold askOut at hstep
          have Hstep := Lib.hid hstep
          clear hstep
          generalize asks.getD k 0 = q at *
          by_cases hq0 : q < 0
          · have hf := Lib.hid (show er = 5 by rw [← Her2.out, if_pos (by have := Hstep.out; simp [hq0] at this; unfold askOut; simpa using this)])
            go_wp2
            go_ret
            exact ⟨by rw [hf.out]; rfl, HK.out⟩
          by_cases hq1 : (many : Int) ≤ q
          · have hf := Lib.hid (show er = 5 by rw [← Her2.out, if_pos (by have := Hstep.out; simp [hq1] at this; unfold askOut; simpa using this)])
            go_wp2
            go_ret
            exact ⟨by rw [hf.out]; rfl, HK.out⟩
          have Hn := Lib.hid (show (asks.drop (k + 1)).any (askOut many) = asks.any (askOut many) by
            have h := Hstep.out
            rw [decide_eq_false hq0, decide_eq_false hq1, Bool.false_or, Bool.false_or] at h
            exact h.symm)
          go_wp2
          go_roundw
          case rel => exact ⟨k + 1, by go_num, by omega, by first | rfl | trivial, Hn⟩
          case measure => simp [intOf]; omega
        · have hk' : k = asks.length := by omega
          subst hk'
          have hf := Lib.hid (show er = 0 by
            rw [← Her2.out, if_neg]
            rw [← hst.out, List.drop_length]; simp)
          go_wp2
          go_ret
          exact ⟨by rw [hf.out]; rfl, HK.out⟩
    · rw [if_pos (by rw [Bool.and_eq_true, decide_eq_true_eq, decide_eq_true_eq] at h3; omega)] at her
      have h3' : (decide ((0 : Int) ≤ (asks.length : Int)) && decide ((asks.length : Int) ≤ (0 : Int))) = false := by simpa only [Bool.not_eq_true] using h3
      have hkr := Lib.hid her
      have H3 := Lib.hid h3'
      clear Her her h3 h3'
      go_enter Tryd.func34, Tryd.ntmps34
      go_wp2_with (first
        | ((with_reducible refine at_dst (N := 3) rfl ?_); go_must (refine ev_box (cs := #[.int .i64 1, .int .i64 n, .slice A asks.length c]) rfl rfl rfl ?_; intro g3 w1 hg3 hl3 hb3 hk3); have f0 := (blk_cell hb3 0).trans rfl; have f1 := (blk_cell hb3 1).trans rfl; have f2 := (blk_cell hb3 2).trans rfl; clear hb3; (try simp only [Act.put, List.setIfInBounds_toArray, List.set_cons_zero, List.set_cons_succ]))
        | (go_at_call 54; go_must (refine (within_any _ _ _ _).mono ?_; rintro e w' ⟨rfl, rfl⟩; first | rw [H1.out] | rw [H3.out])))
      go_ret
      exact ⟨by rw [← hkr.out]; rfl, hk3⟩
  · have h1' : (decide ((0 : Int) ≤ n) && decide (n ≤ (0 : Int))) = false := by simpa only [Bool.not_eq_true] using h1
    have her := Her.out
    rw [if_pos (by simp at h1; omega)] at her
    have hkr := Lib.hid her
    have H1 := Lib.hid h1'
    clear Her her h1 h1'
    go_enter Tryd.func34, Tryd.ntmps34
    go_wp2_with (first
      | ((with_reducible refine at_dst (N := 3) rfl ?_); go_must (refine ev_box (cs := #[.int .i64 1, .int .i64 n, .slice A asks.length c]) rfl rfl rfl ?_; intro g3 w1 hg3 hl3 hb3 hk3); have f0 := (blk_cell hb3 0).trans rfl; have f1 := (blk_cell hb3 1).trans rfl; have f2 := (blk_cell hb3 2).trans rfl; clear hb3; (try simp only [Act.put, List.setIfInBounds_toArray, List.set_cons_zero, List.set_cons_succ]))
      | (go_at_call 54; go_must (refine (within_any _ _ _ _).mono ?_; rintro e w' ⟨rfl, rfl⟩; rw [H1.out])))
    go_ret
    exact ⟨by rw [← hkr.out]; rfl, hk3⟩
set_option maxHeartbeats 2000000 in
theorem one_2 (n : Int) (asks : List Int) (A' : Option Addr) (many c' : Nat) (w : World) (X : Nat → Prop) (sv : Value) (hx : IntsX w X sv asks) :
    Calls Tryd.prog 34 #[.slice A' many c', .agg #[.int .i64 2, .int .i64 n, sv]] w fun e w' => e = .returned (.int .i64 (ruleErr many ⟨2, n, asks⟩)) ∧ Keeps Nob w w' := by
  obtain ⟨A, c, rfl, -, hcell⟩ := id hx
  obtain ⟨er, her⟩ : ∃ x, ruleErr many ⟨2, n, asks⟩ = x := ⟨_, rfl⟩
  rw [her]
  unfold ruleErr at her
  rw [if_neg (by show ¬ ((2 : Int) < 1 ∨ (7 : Int) ≤ 2); decide), show bnds 2 = (0, 12, 1, 1048576) from rfl] at her
  dsimp only at her
  have Hcell := Lib.hid hcell
  have Her := Lib.hid her
  clear hx hcell her
  by_cases h1 : (decide ((1 : Int) ≤ n) && decide (n ≤ (1048576 : Int))) = true
  · have her := Her.out
    rw [if_neg (by simp at h1; omega)] at her
    have H1 := Lib.hid h1
    clear h1
    by_cases h2 : 12 < (asks.length : Int)
    · rw [if_pos h2] at her
      have hkr := Lib.hid her
      clear Her her
      go_enter Tryd.func34, Tryd.ntmps34
      go_wp2_with (first
        | ((with_reducible refine at_dst (N := 3) rfl ?_); go_must (refine ev_box (cs := #[.int .i64 2, .int .i64 n, .slice A asks.length c]) rfl rfl rfl ?_; intro g3 w1 hg3 hl3 hb3 hk3); have f0 := (blk_cell hb3 0).trans rfl; have f1 := (blk_cell hb3 1).trans rfl; have f2 := (blk_cell hb3 2).trans rfl; clear hb3; (try simp only [Act.put, List.setIfInBounds_toArray, List.set_cons_zero, List.set_cons_succ]))
        | (go_at_call 54; go_must (refine (within_any _ _ _ _).mono ?_; rintro e w' ⟨rfl, rfl⟩; rw [H1.out])))
      go_ret
      exact ⟨by rw [← hkr.out]; rfl, hk3⟩
    rw [if_neg h2] at her
    by_cases h3 : (decide ((0 : Int) ≤ (asks.length : Int)) && decide ((asks.length : Int) ≤ (12 : Int))) = true
    · rw [if_neg (by rw [Bool.and_eq_true, decide_eq_true_eq, decide_eq_true_eq] at h3; omega)] at her
      have Her2 := Lib.hid her
      have H3 := Lib.hid h3
      clear her Her h3
      have hal : (asks.length : Int) ≤ 12 := by omega
      go_enter Tryd.func34, Tryd.ntmps34
      go_wp2_with (first
        | ((with_reducible refine at_dst (N := 3) rfl ?_); go_must (refine ev_box (cs := #[.int .i64 2, .int .i64 n, .slice A asks.length c]) rfl rfl rfl ?_; intro g3 w1 hg3 hl3 hb3 hk3); have f0 := (blk_cell hb3 0).trans rfl; have f1 := (blk_cell hb3 1).trans rfl; have f2 := (blk_cell hb3 2).trans rfl; clear hb3; (try simp only [Act.put, List.setIfInBounds_toArray, List.set_cons_zero, List.set_cons_succ]))
        | (go_at_call 54; go_must (refine (within_any _ _ _ _).mono ?_; rintro e w' ⟨rfl, rfl⟩; first | rw [H1.out] | rw [H3.out])))
      have HK := Lib.hid hk3
      clear hk3
      go_loopw [48] (fun v wr => ∃ k : Nat, v = .int .i64 k ∧ k ≤ asks.length ∧ wr = w1 ∧ Hid ((asks.drop k).any (askOut many) = asks.any (askOut many)))
        (fun v _ => asks.length - (intOf v).toNat)
      case atStart => exact ⟨0, rfl, Nat.zero_le _, rfl, Lib.hid rfl⟩
      case round =>
        obtain ⟨k, rfl, hk, rfl, hst⟩ := hrel
        by_cases hlt : k < asks.length
        · obtain ⟨b, o, rfl, _, hcw⟩ := Hcell.out k hlt
          have hcw := HK.out.cell hcw id
          have hstep : (asks.drop k).any (askOut many) = (askOut many (asks.getD k 0) || (asks.drop (k + 1)).any (askOut many)) := by
            rw [drop_getD hlt, List.any_cons]
          rw [hst.out] at hstep
          unfold askOut at hstep
          have Hstep := Lib.hid hstep
          clear hstep
          generalize asks.getD k 0 = q at *
          by_cases hq0 : q < 0
          · have hf := Lib.hid (show er = 5 by rw [← Her2.out, if_pos (by have := Hstep.out; simp [hq0] at this; unfold askOut; simpa using this)])
            go_wp2
            go_ret
            exact ⟨by rw [hf.out]; rfl, HK.out⟩
          by_cases hq1 : (many : Int) ≤ q
          · have hf := Lib.hid (show er = 5 by rw [← Her2.out, if_pos (by have := Hstep.out; simp [hq1] at this; unfold askOut; simpa using this)])
            go_wp2
            go_ret
            exact ⟨by rw [hf.out]; rfl, HK.out⟩
          have Hn := Lib.hid (show (asks.drop (k + 1)).any (askOut many) = asks.any (askOut many) by
            have h := Hstep.out
            rw [decide_eq_false hq0, decide_eq_false hq1, Bool.false_or, Bool.false_or] at h
            exact h.symm)
          go_wp2
          go_roundw
          case rel => exact ⟨k + 1, by go_num, by omega, by first | rfl | trivial, Hn⟩
          case measure => simp [intOf]; omega
        · have hk' : k = asks.length := by omega
          subst hk'
          have hf := Lib.hid (show er = 0 by
            rw [← Her2.out, if_neg]
            rw [← hst.out, List.drop_length]; simp)
          go_wp2
          go_ret
          exact ⟨by rw [hf.out]; rfl, HK.out⟩
    · rw [if_pos (by rw [Bool.and_eq_true, decide_eq_true_eq, decide_eq_true_eq] at h3; omega)] at her
      have h3' : (decide ((0 : Int) ≤ (asks.length : Int)) && decide ((asks.length : Int) ≤ (12 : Int))) = false := by simpa only [Bool.not_eq_true] using h3
      have hkr := Lib.hid her
      have H3 := Lib.hid h3'
      clear Her her h3 h3'
      go_enter Tryd.func34, Tryd.ntmps34
      go_wp2_with (first
        | ((with_reducible refine at_dst (N := 3) rfl ?_); go_must (refine ev_box (cs := #[.int .i64 2, .int .i64 n, .slice A asks.length c]) rfl rfl rfl ?_; intro g3 w1 hg3 hl3 hb3 hk3); have f0 := (blk_cell hb3 0).trans rfl; have f1 := (blk_cell hb3 1).trans rfl; have f2 := (blk_cell hb3 2).trans rfl; clear hb3; (try simp only [Act.put, List.setIfInBounds_toArray, List.set_cons_zero, List.set_cons_succ]))
        | (go_at_call 54; go_must (refine (within_any _ _ _ _).mono ?_; rintro e w' ⟨rfl, rfl⟩; first | rw [H1.out] | rw [H3.out])))
      go_ret
      exact ⟨by rw [← hkr.out]; rfl, hk3⟩
  · have h1' : (decide ((1 : Int) ≤ n) && decide (n ≤ (1048576 : Int))) = false := by simpa only [Bool.not_eq_true] using h1
    have her := Her.out
    rw [if_pos (by simp at h1; omega)] at her
    have hkr := Lib.hid her
    have H1 := Lib.hid h1'
    clear Her her h1 h1'
    go_enter Tryd.func34, Tryd.ntmps34
    go_wp2_with (first
      | ((with_reducible refine at_dst (N := 3) rfl ?_); go_must (refine ev_box (cs := #[.int .i64 2, .int .i64 n, .slice A asks.length c]) rfl rfl rfl ?_; intro g3 w1 hg3 hl3 hb3 hk3); have f0 := (blk_cell hb3 0).trans rfl; have f1 := (blk_cell hb3 1).trans rfl; have f2 := (blk_cell hb3 2).trans rfl; clear hb3; (try simp only [Act.put, List.setIfInBounds_toArray, List.set_cons_zero, List.set_cons_succ]))
      | (go_at_call 54; go_must (refine (within_any _ _ _ _).mono ?_; rintro e w' ⟨rfl, rfl⟩; rw [H1.out])))
    go_ret
    exact ⟨by rw [← hkr.out]; rfl, hk3⟩
set_option maxHeartbeats 2000000 in
theorem one_3 (n : Int) (asks : List Int) (A' : Option Addr) (many c' : Nat) (w : World) (X : Nat → Prop) (sv : Value) (hx : IntsX w X sv asks) :
    Calls Tryd.prog 34 #[.slice A' many c', .agg #[.int .i64 3, .int .i64 n, sv]] w fun e w' => e = .returned (.int .i64 (ruleErr many ⟨3, n, asks⟩)) ∧ Keeps Nob w w' := by
  obtain ⟨A, c, rfl, -, hcell⟩ := id hx
  obtain ⟨er, her⟩ : ∃ x, ruleErr many ⟨3, n, asks⟩ = x := ⟨_, rfl⟩
  rw [her]
  unfold ruleErr at her
  rw [if_neg (by show ¬ ((3 : Int) < 1 ∨ (7 : Int) ≤ 3); decide), show bnds 3 = (2, 12, 0, 0) from rfl] at her
  dsimp only at her
  have Hcell := Lib.hid hcell
  have Her := Lib.hid her
  clear hx hcell her
  by_cases h1 : (decide ((0 : Int) ≤ n) && decide (n ≤ (0 : Int))) = true
  · have her := Her.out
    rw [if_neg (by simp at h1; omega)] at her
    have H1 := Lib.hid h1
    clear h1
    by_cases h2 : 12 < (asks.length : Int)
    · rw [if_pos h2] at her
      have hkr := Lib.hid her
      clear Her her
      go_enter Tryd.func34, Tryd.ntmps34
      go_wp2_with (first
        | ((with_reducible refine at_dst (N := 3) rfl ?_); go_must (refine ev_box (cs := #[.int .i64 3, .int .i64 n, .slice A asks.length c]) rfl rfl rfl ?_; intro g3 w1 hg3 hl3 hb3 hk3); have f0 := (blk_cell hb3 0).trans rfl; have f1 := (blk_cell hb3 1).trans rfl; have f2 := (blk_cell hb3 2).trans rfl; clear hb3; (try simp only [Act.put, List.setIfInBounds_toArray, List.set_cons_zero, List.set_cons_succ]))
        | (go_at_call 54; go_must (refine (within_any _ _ _ _).mono ?_; rintro e w' ⟨rfl, rfl⟩; rw [H1.out])))
      go_ret
      exact ⟨by rw [← hkr.out]; rfl, hk3⟩
    rw [if_neg h2] at her
    by_cases h3 : (decide ((2 : Int) ≤ (asks.length : Int)) && decide ((asks.length : Int) ≤ (12 : Int))) = true
    · rw [if_neg (by rw [Bool.and_eq_true, decide_eq_true_eq, decide_eq_true_eq] at h3; omega)] at her
      have Her2 := Lib.hid her
      have H3 := Lib.hid h3
      clear her Her h3
      have hal : (asks.length : Int) ≤ 12 := by omega
      go_enter Tryd.func34, Tryd.ntmps34
      go_wp2_with (first
        | ((with_reducible refine at_dst (N := 3) rfl ?_); go_must (refine ev_box (cs := #[.int .i64 3, .int .i64 n, .slice A asks.length c]) rfl rfl rfl ?_; intro g3 w1 hg3 hl3 hb3 hk3); have f0 := (blk_cell hb3 0).trans rfl; have f1 := (blk_cell hb3 1).trans rfl; have f2 := (blk_cell hb3 2).trans rfl; clear hb3; (try simp only [Act.put, List.setIfInBounds_toArray, List.set_cons_zero, List.set_cons_succ]))
        | (go_at_call 54; go_must (refine (within_any _ _ _ _).mono ?_; rintro e w' ⟨rfl, rfl⟩; first | rw [H1.out] | rw [H3.out])))
      have HK := Lib.hid hk3
      clear hk3
      go_loopw [48] (fun v wr => ∃ k : Nat, v = .int .i64 k ∧ k ≤ asks.length ∧ wr = w1 ∧ Hid ((asks.drop k).any (askOut many) = asks.any (askOut many)))
        (fun v _ => asks.length - (intOf v).toNat)
      case atStart => exact ⟨0, rfl, Nat.zero_le _, rfl, Lib.hid rfl⟩
      case round =>
        obtain ⟨k, rfl, hk, rfl, hst⟩ := hrel
        by_cases hlt : k < asks.length
        · obtain ⟨b, o, rfl, _, hcw⟩ := Hcell.out k hlt
          have hcw := HK.out.cell hcw id
          have hstep : (asks.drop k).any (askOut many) = (askOut many (asks.getD k 0) || (asks.drop (k + 1)).any (askOut many)) := by
            rw [drop_getD hlt, List.any_cons]
          rw [hst.out] at hstep
          unfold askOut at hstep
          have Hstep := Lib.hid hstep
          clear hstep
          generalize asks.getD k 0 = q at *
          by_cases hq0 : q < 0
          · have hf := Lib.hid (show er = 5 by rw [← Her2.out, if_pos (by have := Hstep.out; simp [hq0] at this; unfold askOut; simpa using this)])
            go_wp2
            go_ret
            exact ⟨by rw [hf.out]; rfl, HK.out⟩
          by_cases hq1 : (many : Int) ≤ q
          · have hf := Lib.hid (show er = 5 by rw [← Her2.out, if_pos (by have := Hstep.out; simp [hq1] at this; unfold askOut; simpa using this)])
            go_wp2
            go_ret
            exact ⟨by rw [hf.out]; rfl, HK.out⟩
          have Hn := Lib.hid (show (asks.drop (k + 1)).any (askOut many) = asks.any (askOut many) by
            have h := Hstep.out
            rw [decide_eq_false hq0, decide_eq_false hq1, Bool.false_or, Bool.false_or] at h
            exact h.symm)
          go_wp2
          go_roundw
          case rel => exact ⟨k + 1, by go_num, by omega, by first | rfl | trivial, Hn⟩
          case measure => simp [intOf]; omega
        · have hk' : k = asks.length := by omega
          subst hk'
          have hf := Lib.hid (show er = 0 by
            rw [← Her2.out, if_neg]
            rw [← hst.out, List.drop_length]; simp)
          go_wp2
          go_ret
          exact ⟨by rw [hf.out]; rfl, HK.out⟩
    · rw [if_pos (by rw [Bool.and_eq_true, decide_eq_true_eq, decide_eq_true_eq] at h3; omega)] at her
      have h3' : (decide ((2 : Int) ≤ (asks.length : Int)) && decide ((asks.length : Int) ≤ (12 : Int))) = false := by simpa only [Bool.not_eq_true] using h3
      have hkr := Lib.hid her
      have H3 := Lib.hid h3'
      clear Her her h3 h3'
      go_enter Tryd.func34, Tryd.ntmps34
      go_wp2_with (first
        | ((with_reducible refine at_dst (N := 3) rfl ?_); go_must (refine ev_box (cs := #[.int .i64 3, .int .i64 n, .slice A asks.length c]) rfl rfl rfl ?_; intro g3 w1 hg3 hl3 hb3 hk3); have f0 := (blk_cell hb3 0).trans rfl; have f1 := (blk_cell hb3 1).trans rfl; have f2 := (blk_cell hb3 2).trans rfl; clear hb3; (try simp only [Act.put, List.setIfInBounds_toArray, List.set_cons_zero, List.set_cons_succ]))
        | (go_at_call 54; go_must (refine (within_any _ _ _ _).mono ?_; rintro e w' ⟨rfl, rfl⟩; first | rw [H1.out] | rw [H3.out])))
      go_ret
      exact ⟨by rw [← hkr.out]; rfl, hk3⟩
  · have h1' : (decide ((0 : Int) ≤ n) && decide (n ≤ (0 : Int))) = false := by simpa only [Bool.not_eq_true] using h1
    have her := Her.out
    rw [if_pos (by simp at h1; omega)] at her
    have hkr := Lib.hid her
    have H1 := Lib.hid h1'
    clear Her her h1 h1'
    go_enter Tryd.func34, Tryd.ntmps34
    go_wp2_with (first
      | ((with_reducible refine at_dst (N := 3) rfl ?_); go_must (refine ev_box (cs := #[.int .i64 3, .int .i64 n, .slice A asks.length c]) rfl rfl rfl ?_; intro g3 w1 hg3 hl3 hb3 hk3); have f0 := (blk_cell hb3 0).trans rfl; have f1 := (blk_cell hb3 1).trans rfl; have f2 := (blk_cell hb3 2).trans rfl; clear hb3; (try simp only [Act.put, List.setIfInBounds_toArray, List.set_cons_zero, List.set_cons_succ]))
      | (go_at_call 54; go_must (refine (within_any _ _ _ _).mono ?_; rintro e w' ⟨rfl, rfl⟩; rw [H1.out])))
    go_ret
    exact ⟨by rw [← hkr.out]; rfl, hk3⟩
set_option maxHeartbeats 2000000 in
theorem one_4 (n : Int) (asks : List Int) (A' : Option Addr) (many c' : Nat) (w : World) (X : Nat → Prop) (sv : Value) (hx : IntsX w X sv asks) :
    Calls Tryd.prog 34 #[.slice A' many c', .agg #[.int .i64 4, .int .i64 n, sv]] w fun e w' => e = .returned (.int .i64 (ruleErr many ⟨4, n, asks⟩)) ∧ Keeps Nob w w' := by
  obtain ⟨A, c, rfl, -, hcell⟩ := id hx
  obtain ⟨er, her⟩ : ∃ x, ruleErr many ⟨4, n, asks⟩ = x := ⟨_, rfl⟩
  rw [her]
  unfold ruleErr at her
  rw [if_neg (by show ¬ ((4 : Int) < 1 ∨ (7 : Int) ≤ 4); decide), show bnds 4 = (0, 12, 0, 0) from rfl] at her
  dsimp only at her
  have Hcell := Lib.hid hcell
  have Her := Lib.hid her
  clear hx hcell her
  by_cases h1 : (decide ((0 : Int) ≤ n) && decide (n ≤ (0 : Int))) = true
  · have her := Her.out
    rw [if_neg (by simp at h1; omega)] at her
    have H1 := Lib.hid h1
    clear h1
    by_cases h2 : 12 < (asks.length : Int)
    · rw [if_pos h2] at her
      have hkr := Lib.hid her
      clear Her her
      go_enter Tryd.func34, Tryd.ntmps34
      go_wp2_with (first
        | ((with_reducible refine at_dst (N := 3) rfl ?_); go_must (refine ev_box (cs := #[.int .i64 4, .int .i64 n, .slice A asks.length c]) rfl rfl rfl ?_; intro g3 w1 hg3 hl3 hb3 hk3); have f0 := (blk_cell hb3 0).trans rfl; have f1 := (blk_cell hb3 1).trans rfl; have f2 := (blk_cell hb3 2).trans rfl; clear hb3; (try simp only [Act.put, List.setIfInBounds_toArray, List.set_cons_zero, List.set_cons_succ]))
        | (go_at_call 54; go_must (refine (within_any _ _ _ _).mono ?_; rintro e w' ⟨rfl, rfl⟩; rw [H1.out])))
      go_ret
      exact ⟨by rw [← hkr.out]; rfl, hk3⟩
    rw [if_neg h2] at her
    by_cases h3 : (decide ((0 : Int) ≤ (asks.length : Int)) && decide ((asks.length : Int) ≤ (12 : Int))) = true
    · rw [if_neg (by rw [Bool.and_eq_true, decide_eq_true_eq, decide_eq_true_eq] at h3; omega)] at her
      have Her2 := Lib.hid her
      have H3 := Lib.hid h3
      clear her Her h3
      have hal : (asks.length : Int) ≤ 12 := by omega
      go_enter Tryd.func34, Tryd.ntmps34
      go_wp2_with (first
        | ((with_reducible refine at_dst (N := 3) rfl ?_); go_must (refine ev_box (cs := #[.int .i64 4, .int .i64 n, .slice A asks.length c]) rfl rfl rfl ?_; intro g3 w1 hg3 hl3 hb3 hk3); have f0 := (blk_cell hb3 0).trans rfl; have f1 := (blk_cell hb3 1).trans rfl; have f2 := (blk_cell hb3 2).trans rfl; clear hb3; (try simp only [Act.put, List.setIfInBounds_toArray, List.set_cons_zero, List.set_cons_succ]))
        | (go_at_call 54; go_must (refine (within_any _ _ _ _).mono ?_; rintro e w' ⟨rfl, rfl⟩; first | rw [H1.out] | rw [H3.out])))
      have HK := Lib.hid hk3
      clear hk3
      go_loopw [48] (fun v wr => ∃ k : Nat, v = .int .i64 k ∧ k ≤ asks.length ∧ wr = w1 ∧ Hid ((asks.drop k).any (askOut many) = asks.any (askOut many)))
        (fun v _ => asks.length - (intOf v).toNat)
      case atStart => exact ⟨0, rfl, Nat.zero_le _, rfl, Lib.hid rfl⟩
      case round =>
        obtain ⟨k, rfl, hk, rfl, hst⟩ := hrel
        by_cases hlt : k < asks.length
        · obtain ⟨b, o, rfl, _, hcw⟩ := Hcell.out k hlt
          have hcw := HK.out.cell hcw id
          have hstep : (asks.drop k).any (askOut many) = (askOut many (asks.getD k 0) || (asks.drop (k + 1)).any (askOut many)) := by
            rw [drop_getD hlt, List.any_cons]
          rw [hst.out] at hstep
          unfold askOut at hstep
          have Hstep := Lib.hid hstep
          clear hstep
          generalize asks.getD k 0 = q at *
          by_cases hq0 : q < 0
          · have hf := Lib.hid (show er = 5 by rw [← Her2.out, if_pos (by have := Hstep.out; simp [hq0] at this; unfold askOut; simpa using this)])
            go_wp2
            go_ret
            exact ⟨by rw [hf.out]; rfl, HK.out⟩
          by_cases hq1 : (many : Int) ≤ q
          · have hf := Lib.hid (show er = 5 by rw [← Her2.out, if_pos (by have := Hstep.out; simp [hq1] at this; unfold askOut; simpa using this)])
            go_wp2
            go_ret
            exact ⟨by rw [hf.out]; rfl, HK.out⟩
          have Hn := Lib.hid (show (asks.drop (k + 1)).any (askOut many) = asks.any (askOut many) by
            have h := Hstep.out
            rw [decide_eq_false hq0, decide_eq_false hq1, Bool.false_or, Bool.false_or] at h
            exact h.symm)
          go_wp2
          go_roundw
          case rel => exact ⟨k + 1, by go_num, by omega, by first | rfl | trivial, Hn⟩
          case measure => simp [intOf]; omega
        · have hk' : k = asks.length := by omega
          subst hk'
          have hf := Lib.hid (show er = 0 by
            rw [← Her2.out, if_neg]
            rw [← hst.out, List.drop_length]; simp)
          go_wp2
          go_ret
          exact ⟨by rw [hf.out]; rfl, HK.out⟩
    · rw [if_pos (by rw [Bool.and_eq_true, decide_eq_true_eq, decide_eq_true_eq] at h3; omega)] at her
      have h3' : (decide ((0 : Int) ≤ (asks.length : Int)) && decide ((asks.length : Int) ≤ (12 : Int))) = false := by simpa only [Bool.not_eq_true] using h3
      have hkr := Lib.hid her
      have H3 := Lib.hid h3'
      clear Her her h3 h3'
      go_enter Tryd.func34, Tryd.ntmps34
      go_wp2_with (first
        | ((with_reducible refine at_dst (N := 3) rfl ?_); go_must (refine ev_box (cs := #[.int .i64 4, .int .i64 n, .slice A asks.length c]) rfl rfl rfl ?_; intro g3 w1 hg3 hl3 hb3 hk3); have f0 := (blk_cell hb3 0).trans rfl; have f1 := (blk_cell hb3 1).trans rfl; have f2 := (blk_cell hb3 2).trans rfl; clear hb3; (try simp only [Act.put, List.setIfInBounds_toArray, List.set_cons_zero, List.set_cons_succ]))
        | (go_at_call 54; go_must (refine (within_any _ _ _ _).mono ?_; rintro e w' ⟨rfl, rfl⟩; first | rw [H1.out] | rw [H3.out])))
      go_ret
      exact ⟨by rw [← hkr.out]; rfl, hk3⟩
  · have h1' : (decide ((0 : Int) ≤ n) && decide (n ≤ (0 : Int))) = false := by simpa only [Bool.not_eq_true] using h1
    have her := Her.out
    rw [if_pos (by simp at h1; omega)] at her
    have hkr := Lib.hid her
    have H1 := Lib.hid h1'
    clear Her her h1 h1'
    go_enter Tryd.func34, Tryd.ntmps34
    go_wp2_with (first
      | ((with_reducible refine at_dst (N := 3) rfl ?_); go_must (refine ev_box (cs := #[.int .i64 4, .int .i64 n, .slice A asks.length c]) rfl rfl rfl ?_; intro g3 w1 hg3 hl3 hb3 hk3); have f0 := (blk_cell hb3 0).trans rfl; have f1 := (blk_cell hb3 1).trans rfl; have f2 := (blk_cell hb3 2).trans rfl; clear hb3; (try simp only [Act.put, List.setIfInBounds_toArray, List.set_cons_zero, List.set_cons_succ]))
      | (go_at_call 54; go_must (refine (within_any _ _ _ _).mono ?_; rintro e w' ⟨rfl, rfl⟩; rw [H1.out])))
    go_ret
    exact ⟨by rw [← hkr.out]; rfl, hk3⟩
set_option maxHeartbeats 2000000 in
theorem one_5 (n : Int) (asks : List Int) (A' : Option Addr) (many c' : Nat) (w : World) (X : Nat → Prop) (sv : Value) (hx : IntsX w X sv asks) :
    Calls Tryd.prog 34 #[.slice A' many c', .agg #[.int .i64 5, .int .i64 n, sv]] w fun e w' => e = .returned (.int .i64 (ruleErr many ⟨5, n, asks⟩)) ∧ Keeps Nob w w' := by
  obtain ⟨A, c, rfl, -, hcell⟩ := id hx
  obtain ⟨er, her⟩ : ∃ x, ruleErr many ⟨5, n, asks⟩ = x := ⟨_, rfl⟩
  rw [her]
  unfold ruleErr at her
  rw [if_neg (by show ¬ ((5 : Int) < 1 ∨ (7 : Int) ≤ 5); decide), show bnds 5 = (2, 2, 0, 0) from rfl] at her
  dsimp only at her
  have Hcell := Lib.hid hcell
  have Her := Lib.hid her
  clear hx hcell her
  by_cases h1 : (decide ((0 : Int) ≤ n) && decide (n ≤ (0 : Int))) = true
  · have her := Her.out
    rw [if_neg (by simp at h1; omega)] at her
    have H1 := Lib.hid h1
    clear h1
    by_cases h2 : 12 < (asks.length : Int)
    · rw [if_pos h2] at her
      have hkr := Lib.hid her
      clear Her her
      go_enter Tryd.func34, Tryd.ntmps34
      go_wp2_with (first
        | ((with_reducible refine at_dst (N := 3) rfl ?_); go_must (refine ev_box (cs := #[.int .i64 5, .int .i64 n, .slice A asks.length c]) rfl rfl rfl ?_; intro g3 w1 hg3 hl3 hb3 hk3); have f0 := (blk_cell hb3 0).trans rfl; have f1 := (blk_cell hb3 1).trans rfl; have f2 := (blk_cell hb3 2).trans rfl; clear hb3; (try simp only [Act.put, List.setIfInBounds_toArray, List.set_cons_zero, List.set_cons_succ]))
        | (go_at_call 54; go_must (refine (within_any _ _ _ _).mono ?_; rintro e w' ⟨rfl, rfl⟩; rw [H1.out])))
      go_ret
      exact ⟨by rw [← hkr.out]; rfl, hk3⟩
    rw [if_neg h2] at her
    by_cases h3 : (decide ((2 : Int) ≤ (asks.length : Int)) && decide ((asks.length : Int) ≤ (2 : Int))) = true
    · rw [if_neg (by rw [Bool.and_eq_true, decide_eq_true_eq, decide_eq_true_eq] at h3; omega)] at her
      have Her2 := Lib.hid her
      have H3 := Lib.hid h3
      clear her Her h3
      have hal : (asks.length : Int) ≤ 12 := by omega
      go_enter Tryd.func34, Tryd.ntmps34
      go_wp2_with (first
        | ((with_reducible refine at_dst (N := 3) rfl ?_); go_must (refine ev_box (cs := #[.int .i64 5, .int .i64 n, .slice A asks.length c]) rfl rfl rfl ?_; intro g3 w1 hg3 hl3 hb3 hk3); have f0 := (blk_cell hb3 0).trans rfl; have f1 := (blk_cell hb3 1).trans rfl; have f2 := (blk_cell hb3 2).trans rfl; clear hb3; (try simp only [Act.put, List.setIfInBounds_toArray, List.set_cons_zero, List.set_cons_succ]))
        | (go_at_call 54; go_must (refine (within_any _ _ _ _).mono ?_; rintro e w' ⟨rfl, rfl⟩; first | rw [H1.out] | rw [H3.out])))
      have HK := Lib.hid hk3
      clear hk3
      go_loopw [48] (fun v wr => ∃ k : Nat, v = .int .i64 k ∧ k ≤ asks.length ∧ wr = w1 ∧ Hid ((asks.drop k).any (askOut many) = asks.any (askOut many)))
        (fun v _ => asks.length - (intOf v).toNat)
      case atStart => exact ⟨0, rfl, Nat.zero_le _, rfl, Lib.hid rfl⟩
      case round =>
        obtain ⟨k, rfl, hk, rfl, hst⟩ := hrel
        by_cases hlt : k < asks.length
        · obtain ⟨b, o, rfl, _, hcw⟩ := Hcell.out k hlt
          have hcw := HK.out.cell hcw id
          have hstep : (asks.drop k).any (askOut many) = (askOut many (asks.getD k 0) || (asks.drop (k + 1)).any (askOut many)) := by
            rw [drop_getD hlt, List.any_cons]
          rw [hst.out] at hstep
          unfold askOut at hstep
          have Hstep := Lib.hid hstep
          clear hstep
          generalize asks.getD k 0 = q at *
          by_cases hq0 : q < 0
          · have hf := Lib.hid (show er = 5 by rw [← Her2.out, if_pos (by have := Hstep.out; simp [hq0] at this; unfold askOut; simpa using this)])
            go_wp2
            go_ret
            exact ⟨by rw [hf.out]; rfl, HK.out⟩
          by_cases hq1 : (many : Int) ≤ q
          · have hf := Lib.hid (show er = 5 by rw [← Her2.out, if_pos (by have := Hstep.out; simp [hq1] at this; unfold askOut; simpa using this)])
            go_wp2
            go_ret
            exact ⟨by rw [hf.out]; rfl, HK.out⟩
          have Hn := Lib.hid (show (asks.drop (k + 1)).any (askOut many) = asks.any (askOut many) by
            have h := Hstep.out
            rw [decide_eq_false hq0, decide_eq_false hq1, Bool.false_or, Bool.false_or] at h
            exact h.symm)
          go_wp2
          go_roundw
          case rel => exact ⟨k + 1, by go_num, by omega, by first | rfl | trivial, Hn⟩
          case measure => simp [intOf]; omega
        · have hk' : k = asks.length := by omega
          subst hk'
          have hf := Lib.hid (show er = 0 by
            rw [← Her2.out, if_neg]
            rw [← hst.out, List.drop_length]; simp)
          go_wp2
          go_ret
          exact ⟨by rw [hf.out]; rfl, HK.out⟩
    · rw [if_pos (by rw [Bool.and_eq_true, decide_eq_true_eq, decide_eq_true_eq] at h3; omega)] at her
      have h3' : (decide ((2 : Int) ≤ (asks.length : Int)) && decide ((asks.length : Int) ≤ (2 : Int))) = false := by simpa only [Bool.not_eq_true] using h3
      have hkr := Lib.hid her
      have H3 := Lib.hid h3'
      clear Her her h3 h3'
      go_enter Tryd.func34, Tryd.ntmps34
      go_wp2_with (first
        | ((with_reducible refine at_dst (N := 3) rfl ?_); go_must (refine ev_box (cs := #[.int .i64 5, .int .i64 n, .slice A asks.length c]) rfl rfl rfl ?_; intro g3 w1 hg3 hl3 hb3 hk3); have f0 := (blk_cell hb3 0).trans rfl; have f1 := (blk_cell hb3 1).trans rfl; have f2 := (blk_cell hb3 2).trans rfl; clear hb3; (try simp only [Act.put, List.setIfInBounds_toArray, List.set_cons_zero, List.set_cons_succ]))
        | (go_at_call 54; go_must (refine (within_any _ _ _ _).mono ?_; rintro e w' ⟨rfl, rfl⟩; first | rw [H1.out] | rw [H3.out])))
      go_ret
      exact ⟨by rw [← hkr.out]; rfl, hk3⟩
  · have h1' : (decide ((0 : Int) ≤ n) && decide (n ≤ (0 : Int))) = false := by simpa only [Bool.not_eq_true] using h1
    have her := Her.out
    rw [if_pos (by simp at h1; omega)] at her
    have hkr := Lib.hid her
    have H1 := Lib.hid h1'
    clear Her her h1 h1'
    go_enter Tryd.func34, Tryd.ntmps34
    go_wp2_with (first
      | ((with_reducible refine at_dst (N := 3) rfl ?_); go_must (refine ev_box (cs := #[.int .i64 5, .int .i64 n, .slice A asks.length c]) rfl rfl rfl ?_; intro g3 w1 hg3 hl3 hb3 hk3); have f0 := (blk_cell hb3 0).trans rfl; have f1 := (blk_cell hb3 1).trans rfl; have f2 := (blk_cell hb3 2).trans rfl; clear hb3; (try simp only [Act.put, List.setIfInBounds_toArray, List.set_cons_zero, List.set_cons_succ]))
      | (go_at_call 54; go_must (refine (within_any _ _ _ _).mono ?_; rintro e w' ⟨rfl, rfl⟩; rw [H1.out])))
    go_ret
    exact ⟨by rw [← hkr.out]; rfl, hk3⟩
set_option maxHeartbeats 2000000 in
theorem one_6 (n : Int) (asks : List Int) (A' : Option Addr) (many c' : Nat) (w : World) (X : Nat → Prop) (sv : Value) (hx : IntsX w X sv asks) :
    Calls Tryd.prog 34 #[.slice A' many c', .agg #[.int .i64 6, .int .i64 n, sv]] w fun e w' => e = .returned (.int .i64 (ruleErr many ⟨6, n, asks⟩)) ∧ Keeps Nob w w' := by
  obtain ⟨A, c, rfl, -, hcell⟩ := id hx
  obtain ⟨er, her⟩ : ∃ x, ruleErr many ⟨6, n, asks⟩ = x := ⟨_, rfl⟩
  rw [her]
  unfold ruleErr at her
  rw [if_neg (by show ¬ ((6 : Int) < 1 ∨ (7 : Int) ≤ 6); decide), show bnds 6 = (1, 1, (-1000), 1000) from rfl] at her
  dsimp only at her
  have Hcell := Lib.hid hcell
  have Her := Lib.hid her
  clear hx hcell her
  by_cases h1 : (decide (((-1000) : Int) ≤ n) && decide (n ≤ (1000 : Int))) = true
  · have her := Her.out
    rw [if_neg (by simp at h1; omega)] at her
    have H1 := Lib.hid h1
    clear h1
    by_cases h2 : 12 < (asks.length : Int)
    · rw [if_pos h2] at her
      have hkr := Lib.hid her
      clear Her her
      go_enter Tryd.func34, Tryd.ntmps34
      go_wp2_with (first
        | ((with_reducible refine at_dst (N := 3) rfl ?_); go_must (refine ev_box (cs := #[.int .i64 6, .int .i64 n, .slice A asks.length c]) rfl rfl rfl ?_; intro g3 w1 hg3 hl3 hb3 hk3); have f0 := (blk_cell hb3 0).trans rfl; have f1 := (blk_cell hb3 1).trans rfl; have f2 := (blk_cell hb3 2).trans rfl; clear hb3; (try simp only [Act.put, List.setIfInBounds_toArray, List.set_cons_zero, List.set_cons_succ]))
        | (go_at_call 54; go_must (refine (within_any _ _ _ _).mono ?_; rintro e w' ⟨rfl, rfl⟩; rw [H1.out])))
      go_ret
      exact ⟨by rw [← hkr.out]; rfl, hk3⟩
    rw [if_neg h2] at her
    by_cases h3 : (decide ((1 : Int) ≤ (asks.length : Int)) && decide ((asks.length : Int) ≤ (1 : Int))) = true
    · rw [if_neg (by rw [Bool.and_eq_true, decide_eq_true_eq, decide_eq_true_eq] at h3; omega)] at her
      have Her2 := Lib.hid her
      have H3 := Lib.hid h3
      clear her Her h3
      have hal : (asks.length : Int) ≤ 12 := by omega
      go_enter Tryd.func34, Tryd.ntmps34
      go_wp2_with (first
        | ((with_reducible refine at_dst (N := 3) rfl ?_); go_must (refine ev_box (cs := #[.int .i64 6, .int .i64 n, .slice A asks.length c]) rfl rfl rfl ?_; intro g3 w1 hg3 hl3 hb3 hk3); have f0 := (blk_cell hb3 0).trans rfl; have f1 := (blk_cell hb3 1).trans rfl; have f2 := (blk_cell hb3 2).trans rfl; clear hb3; (try simp only [Act.put, List.setIfInBounds_toArray, List.set_cons_zero, List.set_cons_succ]))
        | (go_at_call 54; go_must (refine (within_any _ _ _ _).mono ?_; rintro e w' ⟨rfl, rfl⟩; first | rw [H1.out] | rw [H3.out])))
      have HK := Lib.hid hk3
      clear hk3
      go_loopw [48] (fun v wr => ∃ k : Nat, v = .int .i64 k ∧ k ≤ asks.length ∧ wr = w1 ∧ Hid ((asks.drop k).any (askOut many) = asks.any (askOut many)))
        (fun v _ => asks.length - (intOf v).toNat)
      case atStart => exact ⟨0, rfl, Nat.zero_le _, rfl, Lib.hid rfl⟩
      case round =>
        obtain ⟨k, rfl, hk, rfl, hst⟩ := hrel
        by_cases hlt : k < asks.length
        · obtain ⟨b, o, rfl, _, hcw⟩ := Hcell.out k hlt
          have hcw := HK.out.cell hcw id
          have hstep : (asks.drop k).any (askOut many) = (askOut many (asks.getD k 0) || (asks.drop (k + 1)).any (askOut many)) := by
            rw [drop_getD hlt, List.any_cons]
          rw [hst.out] at hstep
          unfold askOut at hstep
          have Hstep := Lib.hid hstep
          clear hstep
          generalize asks.getD k 0 = q at *
          by_cases hq0 : q < 0
          · have hf := Lib.hid (show er = 5 by rw [← Her2.out, if_pos (by have := Hstep.out; simp [hq0] at this; unfold askOut; simpa using this)])
            go_wp2
            go_ret
            exact ⟨by rw [hf.out]; rfl, HK.out⟩
          by_cases hq1 : (many : Int) ≤ q
          · have hf := Lib.hid (show er = 5 by rw [← Her2.out, if_pos (by have := Hstep.out; simp [hq1] at this; unfold askOut; simpa using this)])
            go_wp2
            go_ret
            exact ⟨by rw [hf.out]; rfl, HK.out⟩
          have Hn := Lib.hid (show (asks.drop (k + 1)).any (askOut many) = asks.any (askOut many) by
            have h := Hstep.out
            rw [decide_eq_false hq0, decide_eq_false hq1, Bool.false_or, Bool.false_or] at h
            exact h.symm)
          go_wp2
          go_roundw
          case rel => exact ⟨k + 1, by go_num, by omega, by first | rfl | trivial, Hn⟩
          case measure => simp [intOf]; omega
        · have hk' : k = asks.length := by omega
          subst hk'
          have hf := Lib.hid (show er = 0 by
            rw [← Her2.out, if_neg]
            rw [← hst.out, List.drop_length]; simp)
          go_wp2
          go_ret
          exact ⟨by rw [hf.out]; rfl, HK.out⟩
    · rw [if_pos (by rw [Bool.and_eq_true, decide_eq_true_eq, decide_eq_true_eq] at h3; omega)] at her
      have h3' : (decide ((1 : Int) ≤ (asks.length : Int)) && decide ((asks.length : Int) ≤ (1 : Int))) = false := by simpa only [Bool.not_eq_true] using h3
      have hkr := Lib.hid her
      have H3 := Lib.hid h3'
      clear Her her h3 h3'
      go_enter Tryd.func34, Tryd.ntmps34
      go_wp2_with (first
        | ((with_reducible refine at_dst (N := 3) rfl ?_); go_must (refine ev_box (cs := #[.int .i64 6, .int .i64 n, .slice A asks.length c]) rfl rfl rfl ?_; intro g3 w1 hg3 hl3 hb3 hk3); have f0 := (blk_cell hb3 0).trans rfl; have f1 := (blk_cell hb3 1).trans rfl; have f2 := (blk_cell hb3 2).trans rfl; clear hb3; (try simp only [Act.put, List.setIfInBounds_toArray, List.set_cons_zero, List.set_cons_succ]))
        | (go_at_call 54; go_must (refine (within_any _ _ _ _).mono ?_; rintro e w' ⟨rfl, rfl⟩; first | rw [H1.out] | rw [H3.out])))
      go_ret
      exact ⟨by rw [← hkr.out]; rfl, hk3⟩
  · have h1' : (decide (((-1000) : Int) ≤ n) && decide (n ≤ (1000 : Int))) = false := by simpa only [Bool.not_eq_true] using h1
    have her := Her.out
    rw [if_pos (by simp at h1; omega)] at her
    have hkr := Lib.hid her
    have H1 := Lib.hid h1'
    clear Her her h1 h1'
    go_enter Tryd.func34, Tryd.ntmps34
    go_wp2_with (first
      | ((with_reducible refine at_dst (N := 3) rfl ?_); go_must (refine ev_box (cs := #[.int .i64 6, .int .i64 n, .slice A asks.length c]) rfl rfl rfl ?_; intro g3 w1 hg3 hl3 hb3 hk3); have f0 := (blk_cell hb3 0).trans rfl; have f1 := (blk_cell hb3 1).trans rfl; have f2 := (blk_cell hb3 2).trans rfl; clear hb3; (try simp only [Act.put, List.setIfInBounds_toArray, List.set_cons_zero, List.set_cons_succ]))
      | (go_at_call 54; go_must (refine (within_any _ _ _ _).mono ?_; rintro e w' ⟨rfl, rfl⟩; rw [H1.out])))
    go_ret
    exact ⟨by rw [← hkr.out]; rfl, hk3⟩
set_option maxHeartbeats 2000000 in
theorem one_bad (r : QRule) (A' : Option Addr) (many c' : Nat) (w : World) (X : Nat → Prop) (sv : Value) (hx : IntsX w X sv r.asks) (hb : r.kind < 1 ∨ 7 ≤ r.kind) :
    Calls Tryd.prog 34 #[.slice A' many c', .agg #[.int .i64 r.kind, .int .i64 r.n, sv]] w fun e w' => e = .returned (.int .i64 (ruleErr many r)) ∧ Keeps Nob w w' := by
  obtain ⟨kind, n, asks⟩ := r
  dsimp only at *
  obtain ⟨A, c, rfl, -, -⟩ := hx
  have hr : ruleErr many ⟨kind, n, asks⟩ = 2 := by unfold ruleErr; rw [if_pos hb]
  rw [hr]
  have e1 : (kind == 1) = false := by simp; omega
  have e2 : (kind == 2) = false := by simp; omega
  have e3 : (kind == 3) = false := by simp; omega
  have e4 : (kind == 4) = false := by simp; omega
  have e5 : (kind == 5) = false := by simp; omega
  have e6 : (kind == 6) = false := by simp; omega
  clear hb hr
  go_enter Tryd.func34, Tryd.ntmps34
  go_wp2_with ((with_reducible refine at_dst (N := 3) rfl ?_); go_must (refine ev_box (cs := #[.int .i64 kind, .int .i64 n, .slice A asks.length c]) rfl rfl rfl ?_; intro g3 w1 hg3 hl3 hb3 hk3); have f0 := (blk_cell hb3 0).trans rfl; have f1 := (blk_cell hb3 1).trans rfl; have f2 := (blk_cell hb3 2).trans rfl; clear hb3; (try simp only [Act.put, List.setIfInBounds_toArray, List.set_cons_zero, List.set_cons_succ]))
  go_ret
  exact ⟨rfl, hk3⟩
theorem one_any (r : QRule) (A' : Option Addr) (many c' : Nat) (w : World) (X : Nat → Prop) (sv : Value) (hx : IntsX w X sv r.asks) :
    Calls Tryd.prog 34 #[.slice A' many c', .agg #[.int .i64 r.kind, .int .i64 r.n, sv]] w fun e w' => e = .returned (.int .i64 (ruleErr many r)) ∧ Keeps Nob w w' := by
  by_cases hb : r.kind < 1 ∨ 7 ≤ r.kind
  · exact one_bad r A' many c' w X sv hx hb
  obtain ⟨kind, n, asks⟩ := r
  dsimp only at *
  have hk : kind = 1 ∨ kind = 2 ∨ kind = 3 ∨ kind = 4 ∨ kind = 5 ∨ kind = 6 := by omega
  rcases hk with rfl | rfl | rfl | rfl | rfl | rfl
  · exact one_1 n asks A' many c' w X sv hx
  · exact one_2 n asks A' many c' w X sv hx
  · exact one_3 n asks A' many c' w X sv hx
  · exact one_4 n asks A' many c' w X sv hx
  · exact one_5 n asks A' many c' w X sv hx
  · exact one_6 n asks A' many c' w X sv hx
end Go.Proofs.QW
