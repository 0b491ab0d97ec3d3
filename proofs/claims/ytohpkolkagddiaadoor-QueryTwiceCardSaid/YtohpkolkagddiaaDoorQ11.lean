/-
  Whether rules may be (rule, Check), in memory: the model's 'check'. Condition: the table of kinds lies as it is laid.
-/
import Derived.Test.YtohpkolkagddiaaDoorQ3
import Derived.Test.YtohpkolkagddiaaDoorK5
import Derived.Test.YtohpkolkagddiaaDoorK6
namespace Go.Proofs.QW
open Go.RowKit Go.Proofs.KL Go.Proofs.QM
set_option maxRecDepth 100000
set_option linter.unusedSimpArgs false
set_option linter.unusedVariables false

/-- The table of kinds, as the program lays it. -/
def Tab (w : World) : Prop := ∀ k : Nat, 1 ≤ k → k < 7 → w.cell? ⟨0, k * 4, none⟩ = some (.int .i64 (bnds k).1) ∧ w.cell? ⟨0, k * 4 + 1, none⟩ = some (.int .i64 (bnds k).2.1) ∧ w.cell? ⟨0, k * 4 + 2, none⟩ = some (.int .i64 (bnds k).2.2.1) ∧ w.cell? ⟨0, k * 4 + 3, none⟩ = some (.int .i64 (bnds k).2.2.2)
theorem Tab.keep {M : Nat → Prop} {w w' : World} (h : Tab w) (hk : Keeps M w w') (hn : ¬ M 0) : Tab w' := fun k h1 h2 =>
  ⟨hk.cell (h k h1 h2).1 hn, hk.cell (h k h1 h2).2.1 hn, hk.cell (h k h1 h2).2.2.1 hn, hk.cell (h k h1 h2).2.2.2 hn⟩
/-- rule's closure. -/
theorem askOut_any (g3 : Nat) (many q : Int) (w : World) (h : w.cell? ⟨g3, 0, none⟩ = some (.int .i64 many)) :
    Calls Tryd.prog 59 #[.int .i64 q, .pointer (some ⟨g3, 0, none⟩)] w fun e w' => e = .returned (.bool (askOut many q)) ∧ w = w' := by
  unfold askOut
  by_cases h0 : q < 0
  · go_enter Tryd.func59, Tryd.ntmps59
    go_wp2
    go_ret
    simp [h0]
  · go_enter Tryd.func59, Tryd.ntmps59
    go_wp2
    go_ret
    simp [h0]
    try omega
theorem drop_getD {xs : List Int} {k : Nat} (h : k < xs.length) : xs.drop k = xs.getD k 0 :: xs.drop (k + 1) := by
  rw [List.drop_eq_getElem_cons h]
  simp [List.getD_eq_getElem?_getD, h]
/-- slices.IndexFunc over what a rule asks. -/
theorem indexOut (g3 : Nat) (many : Int) (w : World) (X : Nat → Prop) (sv : Value) (xs : List Int) (hx : IntsX w X sv xs) (hl : xs.length ≤ 12) (h : w.cell? ⟨g3, 0, none⟩ = some (.int .i64 many)) :
    Calls Tryd.prog 68 #[sv, .func (.func 59) #[] #[.pointer (some ⟨g3, 0, none⟩)]] w fun e w' => ∃ n : Int, e = .returned (.int .i64 n) ∧ xs.any (askOut many) = decide (0 ≤ n) ∧ w = w' := by
  obtain ⟨A, c, rfl, hcc, hcell⟩ := id hx
  have Hcell := Lib.hid hcell
  have Hh := Lib.hid h
  clear hx hcell h
  go_enter Tryd.func68, Tryd.ntmps68
  go_wp2
  go_loopw [8] (fun v wr => ∃ k : Nat, v = .int .i64 k ∧ k ≤ xs.length ∧ wr = w ∧ Hid ((xs.drop k).any (askOut many) = xs.any (askOut many)))
    (fun v _ => xs.length - (intOf v).toNat)
  case atStart => exact ⟨0, rfl, Nat.zero_le _, rfl, Lib.hid rfl⟩
  case round =>
    obtain ⟨k, rfl, hk, rfl, hst⟩ := hrel
    by_cases hlt : k < xs.length
    · obtain ⟨b, o, rfl, _, hcw⟩ := Hcell.out k hlt
      have hstep : (xs.drop k).any (askOut many) = (askOut many (xs.getD k 0) || (xs.drop (k + 1)).any (askOut many)) := by
        rw [drop_getD hlt, List.any_cons]
      have Hstep := Lib.hid hstep
      clear hstep
      generalize xs.getD k 0 = q at *
      obtain ⟨t, ht⟩ : ∃ t, askOut many q = t := ⟨_, rfl⟩
      have hrun := askOut_any g3 many q wr Hh.out
      rw [ht] at hrun
      have hs := Hstep.out
      rw [ht] at hs
      have Hs := Lib.hid hs
      have Hrun := Lib.hid hrun
      clear ht hrun Hstep hs
      cases t with
      | true =>
        go_wp2_with (go_at_call 59; go_must (refine Hrun.out.mono ?_; rintro e w1 ⟨rfl, rfl⟩))
        go_ret
        exact ⟨k, rfl, by rw [← hst.out, Hs.out]; simp, rfl⟩
      | false =>
        go_wp2_with (go_at_call 59; go_must (refine Hrun.out.mono ?_; rintro e w1 ⟨rfl, rfl⟩))
        go_roundw
        case rel => exact ⟨k + 1, by go_num, by omega, by first | rfl | trivial, Lib.hid (by rw [← hst.out, Hs.out]; simp)⟩
        case measure => simp [intOf]; omega
    · have hk' : k = xs.length := by omega
      subst hk'
      go_wp2
      go_ret
      exact ⟨-1, by first | rfl | trivial, by rw [← hst.out, List.drop_length]; rfl, by first | rfl | trivial⟩
theorem containsOut (g3 : Nat) (many : Int) (w : World) (X : Nat → Prop) (sv : Value) (xs : List Int) (hx : IntsX w X sv xs) (hl : xs.length ≤ 12) (h : w.cell? ⟨g3, 0, none⟩ = some (.int .i64 many)) :
    Calls Tryd.prog 58 #[sv, .func (.func 59) #[] #[.pointer (some ⟨g3, 0, none⟩)]] w fun e w' => e = .returned (.bool (xs.any (askOut many))) ∧ w = w' := by
  have Hrun := Lib.hid (indexOut g3 many w X sv xs hx hl h)
  clear hx h
  go_enter Tryd.func58, Tryd.ntmps58
  go_wp2_with (go_at_call 68; go_must (refine Hrun.out.mono ?_; rintro e w1 ⟨n, rfl, hn, rfl⟩); have Hn := Lib.hid hn; clear hn)
  go_ret
  exact ⟨by rw [Hn.out]; first | rfl | simp, rfl⟩

theorem zero72 : (Tryd.prog.info? 72).map (·.zero) = some (some (.agg #[.int .i64 0, .int .i64 0, .slice none 0 0])) := by kernel_rfl
theorem info72 : ∃ i, Tryd.prog.info? 72 = some i ∧ i.size = 3 := by
  have h : (Tryd.prog.info? 72).map (·.size) = some 3 := by kernel_rfl
  obtain ⟨i, hi, hs⟩ := Option.map_eq_some_iff.1 h
  exact ⟨i, hi, hs⟩
set_option maxHeartbeats 2000000 in
/-- The error of a rule. -/
theorem rule_any (r : QRule) (many : Int) (w : World) (X : Nat → Prop) (sv : Value) (hx : IntsX w X sv r.asks) (ht : Tab w) :
    Calls Tryd.prog 43 #[.agg #[.int .i64 r.kind, .int .i64 r.n, sv], .int .i64 many] w fun e w' => e = .returned (.int .i64 (ruleErr many r)) ∧ Keeps Nob w w' := by
  obtain ⟨kind, n, asks⟩ := r
  dsimp only at *
  obtain ⟨A, c, rfl, hcc, _⟩ := id hx
  have l0 : 0 < w.heap.size := World.block_lt_of_cell? _ _ (ht 1 (by omega) (by omega)).1
  obtain ⟨er, her⟩ : ∃ x, ruleErr many ⟨kind, n, asks⟩ = x := ⟨_, rfl⟩
  rw [her]
  unfold ruleErr at her
  dsimp only at her
  have Hx := Lib.hid hx
  have Ht := Lib.hid ht
  have Her := Lib.hid her
  clear hx ht her
  go_enter Tryd.func43, Tryd.ntmps43
  go_wp2_with (first
    | ((with_reducible refine at_dst (N := 2) rfl ?_); go_must (refine ev_box (cs := #[.int .i64 kind, .int .i64 n, .slice A asks.length c]) rfl rfl rfl ?_; intro g2 w1 hg2 hl2 hb2 hk2); have Hb2 := Lib.hid hb2; clear hb2; (try simp only [Act.put, List.setIfInBounds_toArray, List.set_cons_zero, List.set_cons_succ]))
    | ((with_reducible refine at_dst (N := 3) rfl ?_); go_must (refine ev_box (cs := #[.int .i64 many]) rfl rfl rfl ?_; intro g3 w2 hg3 hl3 hb3 hk3); have Hb3 := Lib.hid hb3; clear hb3; (try simp only [Act.put, List.setIfInBounds_toArray, List.set_cons_zero, List.set_cons_succ])))
  have hk02 : Keeps Nob w w2 := hk2.trans hk3 (fun _ _ h => h)
  have Hb2' := Lib.hid (hk3.blk Hb2.out id)
  have HK := Lib.hid hk02
  have HT := Lib.hid (Ht.out.keep hk02 id)
  have f0 := (blk_cell Hb2'.out 0).trans rfl
  have f1 := (blk_cell Hb2'.out 1).trans rfl
  have f2 := (blk_cell Hb2'.out 2).trans rfl
  have f3 := (blk_cell Hb3.out 0).trans rfl
  clear hk2 hk3 hk02 Hb2
  by_cases h1 : kind < 1
  · have hkr := Lib.hid (show er = 2 by rw [← Her.out, if_pos (.inl h1)])
    refine wp_region_perm [(0, true), (1, true), (2, true), (3, true), (4, true), (5, true), (6, true), (7, true), (8, true), (9, true), (10, true), (11, true), (12, true), (13, true), (14, true), (15, true), (16, true), (17, true), (18, true), (19, true), (20, true), (21, true), (22, true), (23, true), (24, true), (25, true), (26, true), (27, true)] (fun w' => w'.cell? ⟨g2, 0, none⟩ = some (.int .i64 kind) ∧ w'.cell? ⟨g2, 1, none⟩ = some (.int .i64 n)) rfl (by kernel_rfl) (by kernel_rfl) (by decide) (fun c a d v w h => by cases d <;> exact h) ⟨f0, f1⟩ ?_
    refine perm_q (v := ?v1_0) (some 6) rfl rfl rfl ?q1_0 ?h1_0; (case q1_0 => (intro w' hS; obtain ⟨s1, s2⟩ := hS; first | (go_simp; done) | (go_simp; rfl))); (try simp only [Act.put, List.setIfInBounds_toArray, List.set_cons_zero, List.set_cons_succ])
    refine perm_q (v := ?v1_1) (some 7) rfl rfl rfl ?q1_1 ?h1_1; (case q1_1 => (intro w' hS; obtain ⟨s1, s2⟩ := hS; first | (go_simp; done) | (go_simp; rfl))); (try simp only [Act.put, List.setIfInBounds_toArray, List.set_cons_zero, List.set_cons_succ])
    refine perm_q (v := ?v1_2) (some 8) rfl rfl rfl ?q1_2 ?h1_2; (case q1_2 => (intro w' hS; obtain ⟨s1, s2⟩ := hS; first | (go_simp; done) | (go_simp; rfl))); (try simp only [Act.put, List.setIfInBounds_toArray, List.set_cons_zero, List.set_cons_succ])
    refine perm_q (v := ?v1_3) (some 9) rfl rfl rfl ?q1_3 ?h1_3; (case q1_3 => (intro w' hS; obtain ⟨s1, s2⟩ := hS; first | (go_simp; done) | (go_simp; rfl))); (try simp only [Act.put, List.setIfInBounds_toArray, List.set_cons_zero, List.set_cons_succ])
    refine perm_skip (some 10) rfl rfl rfl ?_; (try simp only [Act.put, List.setIfInBounds_toArray, List.set_cons_zero, List.set_cons_succ])
    refine perm_skip (some 11) rfl rfl rfl ?_; (try simp only [Act.put, List.setIfInBounds_toArray, List.set_cons_zero, List.set_cons_succ])
    refine perm_skip (some 12) rfl rfl rfl ?_; (try simp only [Act.put, List.setIfInBounds_toArray, List.set_cons_zero, List.set_cons_succ])
    refine perm_q (v := ?v1_7) (some 13) rfl rfl rfl ?q1_7 ?h1_7; (case q1_7 => (intro w' hS; obtain ⟨s1, s2⟩ := hS; first | (go_simp; done) | (go_simp; rfl))); (try simp only [Act.put, List.setIfInBounds_toArray, List.set_cons_zero, List.set_cons_succ])
    refine perm_q (v := ?v1_8) (some 14) rfl rfl rfl ?q1_8 ?h1_8; (case q1_8 => (intro w' hS; obtain ⟨s1, s2⟩ := hS; first | (go_simp; done) | (go_simp; rfl))); (try simp only [Act.put, List.setIfInBounds_toArray, List.set_cons_zero, List.set_cons_succ])
    refine perm_skip (some 15) rfl rfl rfl ?_; (try simp only [Act.put, List.setIfInBounds_toArray, List.set_cons_zero, List.set_cons_succ])
    refine perm_skip (some 16) rfl rfl rfl ?_; (try simp only [Act.put, List.setIfInBounds_toArray, List.set_cons_zero, List.set_cons_succ])
    refine perm_skip (some 17) rfl rfl rfl ?_; (try simp only [Act.put, List.setIfInBounds_toArray, List.set_cons_zero, List.set_cons_succ])
    refine perm_skip (some 18) rfl rfl rfl ?_; (try simp only [Act.put, List.setIfInBounds_toArray, List.set_cons_zero, List.set_cons_succ])
    refine perm_skip (some 19) rfl rfl rfl ?_; (try simp only [Act.put, List.setIfInBounds_toArray, List.set_cons_zero, List.set_cons_succ])
    refine perm_skip (some 20) rfl rfl rfl ?_; (try simp only [Act.put, List.setIfInBounds_toArray, List.set_cons_zero, List.set_cons_succ])
    refine perm_skip (some 21) rfl rfl rfl ?_; (try simp only [Act.put, List.setIfInBounds_toArray, List.set_cons_zero, List.set_cons_succ])
    refine perm_skip (some 22) rfl rfl rfl ?_; (try simp only [Act.put, List.setIfInBounds_toArray, List.set_cons_zero, List.set_cons_succ])
    refine perm_q (v := ?v1_17) (some 23) rfl rfl rfl ?q1_17 ?h1_17; (case q1_17 => (intro w' hS; obtain ⟨s1, s2⟩ := hS; first | (go_simp; done) | (go_simp; rfl))); (try simp only [Act.put, List.setIfInBounds_toArray, List.set_cons_zero, List.set_cons_succ])
    refine perm_q (v := ?v1_18) (some 24) rfl rfl rfl ?q1_18 ?h1_18; (case q1_18 => (intro w' hS; obtain ⟨s1, s2⟩ := hS; first | (go_simp; done) | (go_simp; rfl))); (try simp only [Act.put, List.setIfInBounds_toArray, List.set_cons_zero, List.set_cons_succ])
    refine perm_skip (some 25) rfl rfl rfl ?_; (try simp only [Act.put, List.setIfInBounds_toArray, List.set_cons_zero, List.set_cons_succ])
    refine perm_skip (some 26) rfl rfl rfl ?_; (try simp only [Act.put, List.setIfInBounds_toArray, List.set_cons_zero, List.set_cons_succ])
    refine perm_skip (some 27) rfl rfl rfl ?_; (try simp only [Act.put, List.setIfInBounds_toArray, List.set_cons_zero, List.set_cons_succ])
    refine perm_skip (some 28) rfl rfl rfl ?_; (try simp only [Act.put, List.setIfInBounds_toArray, List.set_cons_zero, List.set_cons_succ])
    refine perm_skip (some 29) rfl rfl rfl ?_; (try simp only [Act.put, List.setIfInBounds_toArray, List.set_cons_zero, List.set_cons_succ])
    refine perm_skip (some 30) rfl rfl rfl ?_; (try simp only [Act.put, List.setIfInBounds_toArray, List.set_cons_zero, List.set_cons_succ])
    refine perm_skip (some 31) rfl rfl rfl ?_; (try simp only [Act.put, List.setIfInBounds_toArray, List.set_cons_zero, List.set_cons_succ])
    refine perm_skip (some 32) rfl rfl rfl ?_; (try simp only [Act.put, List.setIfInBounds_toArray, List.set_cons_zero, List.set_cons_succ])
    refine perm_q (v := ?v1_27) (some 33) rfl rfl rfl ?q1_27 ?h1_27; (case q1_27 => (intro w' hS; obtain ⟨s1, s2⟩ := hS; first | (go_simp; done) | (go_simp; rfl))); (try simp only [Act.put, List.setIfInBounds_toArray, List.set_cons_zero, List.set_cons_succ])
    refine perm_nil ?_
    go_wp2
    go_ret
    exact ⟨by rw [hkr.out]; rfl, HK.out.drew⟩
  by_cases h7 : 7 ≤ kind
  · have hkr := Lib.hid (show er = 2 by rw [← Her.out, if_pos (.inr h7)])
    refine wp_region_perm [(0, true), (1, true), (2, true), (3, true), (4, true), (5, true), (6, true), (7, true), (8, true), (9, true), (10, true), (11, true), (12, true), (13, true), (14, true), (15, true), (16, true), (17, true), (18, true), (19, true), (20, true), (21, true), (22, true), (23, true), (24, true), (25, true), (26, true), (27, true)] (fun w' => w'.cell? ⟨g2, 0, none⟩ = some (.int .i64 kind) ∧ w'.cell? ⟨g2, 1, none⟩ = some (.int .i64 n)) rfl (by kernel_rfl) (by kernel_rfl) (by decide) (fun c a d v w h => by cases d <;> exact h) ⟨f0, f1⟩ ?_
    refine perm_q (v := ?v2_0) (some 6) rfl rfl rfl ?q2_0 ?h2_0; (case q2_0 => (intro w' hS; obtain ⟨s1, s2⟩ := hS; first | (go_simp; done) | (go_simp; rfl))); (try simp only [Act.put, List.setIfInBounds_toArray, List.set_cons_zero, List.set_cons_succ])
    refine perm_q (v := ?v2_1) (some 7) rfl rfl rfl ?q2_1 ?h2_1; (case q2_1 => (intro w' hS; obtain ⟨s1, s2⟩ := hS; first | (go_simp; done) | (go_simp; rfl))); (try simp only [Act.put, List.setIfInBounds_toArray, List.set_cons_zero, List.set_cons_succ])
    refine perm_q (v := ?v2_2) (some 8) rfl rfl rfl ?q2_2 ?h2_2; (case q2_2 => (intro w' hS; obtain ⟨s1, s2⟩ := hS; first | (go_simp; done) | (go_simp; rfl))); (try simp only [Act.put, List.setIfInBounds_toArray, List.set_cons_zero, List.set_cons_succ])
    refine perm_q (v := ?v2_3) (some 9) rfl rfl rfl ?q2_3 ?h2_3; (case q2_3 => (intro w' hS; obtain ⟨s1, s2⟩ := hS; first | (go_simp; done) | (go_simp; rfl))); (try simp only [Act.put, List.setIfInBounds_toArray, List.set_cons_zero, List.set_cons_succ])
    refine perm_q (v := ?v2_4) (some 10) rfl rfl rfl ?q2_4 ?h2_4; (case q2_4 => (intro w' hS; obtain ⟨s1, s2⟩ := hS; first | (go_simp; done) | (go_simp; rfl))); (try simp only [Act.put, List.setIfInBounds_toArray, List.set_cons_zero, List.set_cons_succ])
    refine perm_q (v := ?v2_5) (some 11) rfl rfl rfl ?q2_5 ?h2_5; (case q2_5 => (intro w' hS; obtain ⟨s1, s2⟩ := hS; first | (go_simp; done) | (go_simp; rfl))); (try simp only [Act.put, List.setIfInBounds_toArray, List.set_cons_zero, List.set_cons_succ])
    refine perm_q (v := ?v2_6) (some 12) rfl rfl rfl ?q2_6 ?h2_6; (case q2_6 => (intro w' hS; obtain ⟨s1, s2⟩ := hS; first | (go_simp; done) | (go_simp; rfl))); (try simp only [Act.put, List.setIfInBounds_toArray, List.set_cons_zero, List.set_cons_succ])
    refine perm_q (v := ?v2_7) (some 13) rfl rfl rfl ?q2_7 ?h2_7; (case q2_7 => (intro w' hS; obtain ⟨s1, s2⟩ := hS; first | (go_simp; done) | (go_simp; rfl))); (try simp only [Act.put, List.setIfInBounds_toArray, List.set_cons_zero, List.set_cons_succ])
    refine perm_q (v := ?v2_8) (some 14) rfl rfl rfl ?q2_8 ?h2_8; (case q2_8 => (intro w' hS; obtain ⟨s1, s2⟩ := hS; first | (go_simp; done) | (go_simp; rfl))); (try simp only [Act.put, List.setIfInBounds_toArray, List.set_cons_zero, List.set_cons_succ])
    refine perm_skip (some 15) rfl rfl rfl ?_; (try simp only [Act.put, List.setIfInBounds_toArray, List.set_cons_zero, List.set_cons_succ])
    refine perm_skip (some 16) rfl rfl rfl ?_; (try simp only [Act.put, List.setIfInBounds_toArray, List.set_cons_zero, List.set_cons_succ])
    refine perm_skip (some 17) rfl rfl rfl ?_; (try simp only [Act.put, List.setIfInBounds_toArray, List.set_cons_zero, List.set_cons_succ])
    refine perm_skip (some 18) rfl rfl rfl ?_; (try simp only [Act.put, List.setIfInBounds_toArray, List.set_cons_zero, List.set_cons_succ])
    refine perm_skip (some 19) rfl rfl rfl ?_; (try simp only [Act.put, List.setIfInBounds_toArray, List.set_cons_zero, List.set_cons_succ])
    refine perm_skip (some 20) rfl rfl rfl ?_; (try simp only [Act.put, List.setIfInBounds_toArray, List.set_cons_zero, List.set_cons_succ])
    refine perm_skip (some 21) rfl rfl rfl ?_; (try simp only [Act.put, List.setIfInBounds_toArray, List.set_cons_zero, List.set_cons_succ])
    refine perm_skip (some 22) rfl rfl rfl ?_; (try simp only [Act.put, List.setIfInBounds_toArray, List.set_cons_zero, List.set_cons_succ])
    refine perm_q (v := ?v2_17) (some 23) rfl rfl rfl ?q2_17 ?h2_17; (case q2_17 => (intro w' hS; obtain ⟨s1, s2⟩ := hS; first | (go_simp; done) | (go_simp; rfl))); (try simp only [Act.put, List.setIfInBounds_toArray, List.set_cons_zero, List.set_cons_succ])
    refine perm_q (v := ?v2_18) (some 24) rfl rfl rfl ?q2_18 ?h2_18; (case q2_18 => (intro w' hS; obtain ⟨s1, s2⟩ := hS; first | (go_simp; done) | (go_simp; rfl))); (try simp only [Act.put, List.setIfInBounds_toArray, List.set_cons_zero, List.set_cons_succ])
    refine perm_skip (some 25) rfl rfl rfl ?_; (try simp only [Act.put, List.setIfInBounds_toArray, List.set_cons_zero, List.set_cons_succ])
    refine perm_skip (some 26) rfl rfl rfl ?_; (try simp only [Act.put, List.setIfInBounds_toArray, List.set_cons_zero, List.set_cons_succ])
    refine perm_skip (some 27) rfl rfl rfl ?_; (try simp only [Act.put, List.setIfInBounds_toArray, List.set_cons_zero, List.set_cons_succ])
    refine perm_skip (some 28) rfl rfl rfl ?_; (try simp only [Act.put, List.setIfInBounds_toArray, List.set_cons_zero, List.set_cons_succ])
    refine perm_skip (some 29) rfl rfl rfl ?_; (try simp only [Act.put, List.setIfInBounds_toArray, List.set_cons_zero, List.set_cons_succ])
    refine perm_skip (some 30) rfl rfl rfl ?_; (try simp only [Act.put, List.setIfInBounds_toArray, List.set_cons_zero, List.set_cons_succ])
    refine perm_skip (some 31) rfl rfl rfl ?_; (try simp only [Act.put, List.setIfInBounds_toArray, List.set_cons_zero, List.set_cons_succ])
    refine perm_skip (some 32) rfl rfl rfl ?_; (try simp only [Act.put, List.setIfInBounds_toArray, List.set_cons_zero, List.set_cons_succ])
    refine perm_q (v := ?v2_27) (some 33) rfl rfl rfl ?q2_27 ?h2_27; (case q2_27 => (intro w' hS; obtain ⟨s1, s2⟩ := hS; first | (go_simp; done) | (go_simp; rfl))); (try simp only [Act.put, List.setIfInBounds_toArray, List.set_cons_zero, List.set_cons_succ])
    refine perm_nil ?_
    go_wp2
    go_ret
    exact ⟨by rw [hkr.out]; rfl, HK.out.drew⟩
  have her := Her.out
  rw [if_neg (by omega)] at her
  obtain ⟨kn, rfl⟩ := Int.eq_ofNat_of_zero_le (show 0 ≤ kind by omega)
  obtain ⟨t0, t1, t2, t3⟩ := HT.out kn (by omega) (by omega)
  have hi7 : kn < 7 := by omega
  have hk7 : (kn : Int) < 7 := by omega
  rcases hbb : bnds (kn : Int) with ⟨b0, b1, b2, b3⟩
  rw [hbb] at t0 t1 t2 t3 her
  dsimp only at t0 t1 t2 t3 her
  have Her2 := Lib.hid her
  clear hbb her Her
  by_cases h2 : n < b2
  · have hkr := Lib.hid (show er = 2 by rw [← Her2.out, if_pos (.inl h2)])
    refine wp_region_perm [(0, true), (1, true), (2, true), (3, true), (4, true), (5, true), (6, true), (7, true), (8, true), (9, true), (10, true), (11, true), (12, true), (13, true), (14, true), (15, true), (16, true), (17, true), (18, true), (19, true), (20, true), (21, true), (22, true), (23, true), (24, true), (25, true), (26, true), (27, true)] (fun w' => w'.cell? ⟨g2, 0, none⟩ = some (.int .i64 (kn : Int)) ∧ w'.cell? ⟨g2, 1, none⟩ = some (.int .i64 n) ∧ w'.cell? ⟨0, kn * 4 + 2, none⟩ = some (.int .i64 b2)) rfl (by kernel_rfl) (by kernel_rfl) (by decide) (fun c a d v w h => by cases d <;> exact h) ⟨f0, f1, t2⟩ ?_
    refine perm_q (v := ?v3_0) (some 6) rfl rfl rfl ?q3_0 ?h3_0; (case q3_0 => (intro w' hS; obtain ⟨s1, s2, s3⟩ := hS; first | (go_simp; done) | (go_simp; rfl))); (try simp only [Act.put, List.setIfInBounds_toArray, List.set_cons_zero, List.set_cons_succ])
    refine perm_q (v := ?v3_1) (some 7) rfl rfl rfl ?q3_1 ?h3_1; (case q3_1 => (intro w' hS; obtain ⟨s1, s2, s3⟩ := hS; first | (go_simp; done) | (go_simp; rfl))); (try simp only [Act.put, List.setIfInBounds_toArray, List.set_cons_zero, List.set_cons_succ])
    refine perm_q (v := ?v3_2) (some 8) rfl rfl rfl ?q3_2 ?h3_2; (case q3_2 => (intro w' hS; obtain ⟨s1, s2, s3⟩ := hS; first | (go_simp; done) | (go_simp; rfl))); (try simp only [Act.put, List.setIfInBounds_toArray, List.set_cons_zero, List.set_cons_succ])
    refine perm_q (v := ?v3_3) (some 9) rfl rfl rfl ?q3_3 ?h3_3; (case q3_3 => (intro w' hS; obtain ⟨s1, s2, s3⟩ := hS; first | (go_simp; done) | (go_simp; rfl))); (try simp only [Act.put, List.setIfInBounds_toArray, List.set_cons_zero, List.set_cons_succ])
    refine perm_q (v := ?v3_4) (some 10) rfl rfl rfl ?q3_4 ?h3_4; (case q3_4 => (intro w' hS; obtain ⟨s1, s2, s3⟩ := hS; first | (go_simp; done) | (go_simp; rfl))); (try simp only [Act.put, List.setIfInBounds_toArray, List.set_cons_zero, List.set_cons_succ])
    refine perm_q (v := ?v3_5) (some 11) rfl rfl rfl ?q3_5 ?h3_5; (case q3_5 => (intro w' hS; obtain ⟨s1, s2, s3⟩ := hS; first | (go_simp; done) | (go_simp; rfl))); (try simp only [Act.put, List.setIfInBounds_toArray, List.set_cons_zero, List.set_cons_succ])
    refine perm_q (v := ?v3_6) (some 12) rfl rfl rfl ?q3_6 ?h3_6; (case q3_6 => (intro w' hS; obtain ⟨s1, s2, s3⟩ := hS; first | (go_simp; done) | (go_simp; rfl))); (try simp only [Act.put, List.setIfInBounds_toArray, List.set_cons_zero, List.set_cons_succ])
    refine perm_q (v := ?v3_7) (some 13) rfl rfl rfl ?q3_7 ?h3_7; (case q3_7 => (intro w' hS; obtain ⟨s1, s2, s3⟩ := hS; first | (go_simp; done) | (go_simp; rfl))); (try simp only [Act.put, List.setIfInBounds_toArray, List.set_cons_zero, List.set_cons_succ])
    refine perm_q (v := ?v3_8) (some 14) rfl rfl rfl ?q3_8 ?h3_8; (case q3_8 => (intro w' hS; obtain ⟨s1, s2, s3⟩ := hS; first | (go_simp; done) | (go_simp; rfl))); (try simp only [Act.put, List.setIfInBounds_toArray, List.set_cons_zero, List.set_cons_succ])
    refine perm_q (v := ?v3_9) (some 15) rfl rfl rfl ?q3_9 ?h3_9; (case q3_9 => (intro w' hS; obtain ⟨s1, s2, s3⟩ := hS; first | (go_simp; done) | (go_simp; rfl))); (try simp only [Act.put, List.setIfInBounds_toArray, List.set_cons_zero, List.set_cons_succ])
    refine perm_q (v := ?v3_10) (some 16) rfl rfl rfl ?q3_10 ?h3_10; (case q3_10 => (intro w' hS; obtain ⟨s1, s2, s3⟩ := hS; first | (go_simp; done) | (go_simp; rfl))); (try simp only [Act.put, List.setIfInBounds_toArray, List.set_cons_zero, List.set_cons_succ])
    refine perm_q (v := ?v3_11) (some 17) rfl rfl rfl ?q3_11 ?h3_11; (case q3_11 => (intro w' hS; obtain ⟨s1, s2, s3⟩ := hS; first | (go_simp; done) | (go_simp; rfl))); (try simp only [Act.put, List.setIfInBounds_toArray, List.set_cons_zero, List.set_cons_succ])
    refine perm_q (v := ?v3_12) (some 18) rfl rfl rfl ?q3_12 ?h3_12; (case q3_12 => (intro w' hS; obtain ⟨s1, s2, s3⟩ := hS; first | (go_simp; done) | (go_simp; rfl))); (try simp only [Act.put, List.setIfInBounds_toArray, List.set_cons_zero, List.set_cons_succ])
    refine perm_q (v := ?v3_13) (some 19) rfl rfl rfl ?q3_13 ?h3_13; (case q3_13 => (intro w' hS; obtain ⟨s1, s2, s3⟩ := hS; first | (go_simp; done) | (go_simp; rfl))); (try simp only [Act.put, List.setIfInBounds_toArray, List.set_cons_zero, List.set_cons_succ])
    refine perm_q (v := ?v3_14) (some 20) rfl rfl rfl ?q3_14 ?h3_14; (case q3_14 => (intro w' hS; obtain ⟨s1, s2, s3⟩ := hS; first | (go_simp; done) | (go_simp; rfl))); (try simp only [Act.put, List.setIfInBounds_toArray, List.set_cons_zero, List.set_cons_succ])
    refine perm_q (v := ?v3_15) (some 21) rfl rfl rfl ?q3_15 ?h3_15; (case q3_15 => (intro w' hS; obtain ⟨s1, s2, s3⟩ := hS; first | (go_simp; done) | (go_simp; rfl))); (try simp only [Act.put, List.setIfInBounds_toArray, List.set_cons_zero, List.set_cons_succ])
    refine perm_q (v := ?v3_16) (some 22) rfl rfl rfl ?q3_16 ?h3_16; (case q3_16 => (intro w' hS; obtain ⟨s1, s2, s3⟩ := hS; first | (go_simp; done) | (go_simp; rfl))); (try simp only [Act.put, List.setIfInBounds_toArray, List.set_cons_zero, List.set_cons_succ])
    refine perm_q (v := ?v3_17) (some 23) rfl rfl rfl ?q3_17 ?h3_17; (case q3_17 => (intro w' hS; obtain ⟨s1, s2, s3⟩ := hS; first | (go_simp; done) | (go_simp; rfl))); (try simp only [Act.put, List.setIfInBounds_toArray, List.set_cons_zero, List.set_cons_succ])
    refine perm_q (v := ?v3_18) (some 24) rfl rfl rfl ?q3_18 ?h3_18; (case q3_18 => (intro w' hS; obtain ⟨s1, s2, s3⟩ := hS; first | (go_simp; done) | (go_simp; rfl))); (try simp only [Act.put, List.setIfInBounds_toArray, List.set_cons_zero, List.set_cons_succ])
    refine perm_skip (some 25) rfl rfl rfl ?_; (try simp only [Act.put, List.setIfInBounds_toArray, List.set_cons_zero, List.set_cons_succ])
    refine perm_skip (some 26) rfl rfl rfl ?_; (try simp only [Act.put, List.setIfInBounds_toArray, List.set_cons_zero, List.set_cons_succ])
    refine perm_skip (some 27) rfl rfl rfl ?_; (try simp only [Act.put, List.setIfInBounds_toArray, List.set_cons_zero, List.set_cons_succ])
    refine perm_skip (some 28) rfl rfl rfl ?_; (try simp only [Act.put, List.setIfInBounds_toArray, List.set_cons_zero, List.set_cons_succ])
    refine perm_skip (some 29) rfl rfl rfl ?_; (try simp only [Act.put, List.setIfInBounds_toArray, List.set_cons_zero, List.set_cons_succ])
    refine perm_skip (some 30) rfl rfl rfl ?_; (try simp only [Act.put, List.setIfInBounds_toArray, List.set_cons_zero, List.set_cons_succ])
    refine perm_skip (some 31) rfl rfl rfl ?_; (try simp only [Act.put, List.setIfInBounds_toArray, List.set_cons_zero, List.set_cons_succ])
    refine perm_skip (some 32) rfl rfl rfl ?_; (try simp only [Act.put, List.setIfInBounds_toArray, List.set_cons_zero, List.set_cons_succ])
    refine perm_q (v := ?v3_27) (some 33) rfl rfl rfl ?q3_27 ?h3_27; (case q3_27 => (intro w' hS; obtain ⟨s1, s2, s3⟩ := hS; first | (go_simp; done) | (go_simp; rfl))); (try simp only [Act.put, List.setIfInBounds_toArray, List.set_cons_zero, List.set_cons_succ])
    refine perm_nil ?_
    go_wp2
    go_ret
    exact ⟨by rw [hkr.out]; rfl, HK.out.drew⟩
  by_cases h3 : b3 < n
  · have hkr := Lib.hid (show er = 2 by rw [← Her2.out, if_pos (.inr h3)])
    refine wp_region_perm [(0, true), (1, true), (2, true), (3, true), (4, true), (5, true), (6, true), (7, true), (8, true), (9, true), (10, true), (11, true), (12, true), (13, true), (14, true), (15, true), (16, true), (17, true), (18, true), (19, true), (20, true), (21, true), (22, true), (23, true), (24, true), (25, true), (26, true), (27, true)] (fun w' => w'.cell? ⟨g2, 0, none⟩ = some (.int .i64 (kn : Int)) ∧ w'.cell? ⟨g2, 1, none⟩ = some (.int .i64 n) ∧ w'.cell? ⟨0, kn * 4 + 2, none⟩ = some (.int .i64 b2) ∧ w'.cell? ⟨0, kn * 4 + 3, none⟩ = some (.int .i64 b3)) rfl (by kernel_rfl) (by kernel_rfl) (by decide) (fun c a d v w h => by cases d <;> exact h) ⟨f0, f1, t2, t3⟩ ?_
    refine perm_q (v := ?v4_0) (some 6) rfl rfl rfl ?q4_0 ?h4_0; (case q4_0 => (intro w' hS; obtain ⟨s1, s2, s3, s4⟩ := hS; first | (go_simp; done) | (go_simp; rfl))); (try simp only [Act.put, List.setIfInBounds_toArray, List.set_cons_zero, List.set_cons_succ])
    refine perm_q (v := ?v4_1) (some 7) rfl rfl rfl ?q4_1 ?h4_1; (case q4_1 => (intro w' hS; obtain ⟨s1, s2, s3, s4⟩ := hS; first | (go_simp; done) | (go_simp; rfl))); (try simp only [Act.put, List.setIfInBounds_toArray, List.set_cons_zero, List.set_cons_succ])
    refine perm_q (v := ?v4_2) (some 8) rfl rfl rfl ?q4_2 ?h4_2; (case q4_2 => (intro w' hS; obtain ⟨s1, s2, s3, s4⟩ := hS; first | (go_simp; done) | (go_simp; rfl))); (try simp only [Act.put, List.setIfInBounds_toArray, List.set_cons_zero, List.set_cons_succ])
    refine perm_q (v := ?v4_3) (some 9) rfl rfl rfl ?q4_3 ?h4_3; (case q4_3 => (intro w' hS; obtain ⟨s1, s2, s3, s4⟩ := hS; first | (go_simp; done) | (go_simp; rfl))); (try simp only [Act.put, List.setIfInBounds_toArray, List.set_cons_zero, List.set_cons_succ])
    refine perm_q (v := ?v4_4) (some 10) rfl rfl rfl ?q4_4 ?h4_4; (case q4_4 => (intro w' hS; obtain ⟨s1, s2, s3, s4⟩ := hS; first | (go_simp; done) | (go_simp; rfl))); (try simp only [Act.put, List.setIfInBounds_toArray, List.set_cons_zero, List.set_cons_succ])
    refine perm_q (v := ?v4_5) (some 11) rfl rfl rfl ?q4_5 ?h4_5; (case q4_5 => (intro w' hS; obtain ⟨s1, s2, s3, s4⟩ := hS; first | (go_simp; done) | (go_simp; rfl))); (try simp only [Act.put, List.setIfInBounds_toArray, List.set_cons_zero, List.set_cons_succ])
    refine perm_q (v := ?v4_6) (some 12) rfl rfl rfl ?q4_6 ?h4_6; (case q4_6 => (intro w' hS; obtain ⟨s1, s2, s3, s4⟩ := hS; first | (go_simp; done) | (go_simp; rfl))); (try simp only [Act.put, List.setIfInBounds_toArray, List.set_cons_zero, List.set_cons_succ])
    refine perm_q (v := ?v4_7) (some 13) rfl rfl rfl ?q4_7 ?h4_7; (case q4_7 => (intro w' hS; obtain ⟨s1, s2, s3, s4⟩ := hS; first | (go_simp; done) | (go_simp; rfl))); (try simp only [Act.put, List.setIfInBounds_toArray, List.set_cons_zero, List.set_cons_succ])
    refine perm_q (v := ?v4_8) (some 14) rfl rfl rfl ?q4_8 ?h4_8; (case q4_8 => (intro w' hS; obtain ⟨s1, s2, s3, s4⟩ := hS; first | (go_simp; done) | (go_simp; rfl))); (try simp only [Act.put, List.setIfInBounds_toArray, List.set_cons_zero, List.set_cons_succ])
    refine perm_q (v := ?v4_9) (some 15) rfl rfl rfl ?q4_9 ?h4_9; (case q4_9 => (intro w' hS; obtain ⟨s1, s2, s3, s4⟩ := hS; first | (go_simp; done) | (go_simp; rfl))); (try simp only [Act.put, List.setIfInBounds_toArray, List.set_cons_zero, List.set_cons_succ])
    refine perm_q (v := ?v4_10) (some 16) rfl rfl rfl ?q4_10 ?h4_10; (case q4_10 => (intro w' hS; obtain ⟨s1, s2, s3, s4⟩ := hS; first | (go_simp; done) | (go_simp; rfl))); (try simp only [Act.put, List.setIfInBounds_toArray, List.set_cons_zero, List.set_cons_succ])
    refine perm_q (v := ?v4_11) (some 17) rfl rfl rfl ?q4_11 ?h4_11; (case q4_11 => (intro w' hS; obtain ⟨s1, s2, s3, s4⟩ := hS; first | (go_simp; done) | (go_simp; rfl))); (try simp only [Act.put, List.setIfInBounds_toArray, List.set_cons_zero, List.set_cons_succ])
    refine perm_q (v := ?v4_12) (some 18) rfl rfl rfl ?q4_12 ?h4_12; (case q4_12 => (intro w' hS; obtain ⟨s1, s2, s3, s4⟩ := hS; first | (go_simp; done) | (go_simp; rfl))); (try simp only [Act.put, List.setIfInBounds_toArray, List.set_cons_zero, List.set_cons_succ])
    refine perm_q (v := ?v4_13) (some 19) rfl rfl rfl ?q4_13 ?h4_13; (case q4_13 => (intro w' hS; obtain ⟨s1, s2, s3, s4⟩ := hS; first | (go_simp; done) | (go_simp; rfl))); (try simp only [Act.put, List.setIfInBounds_toArray, List.set_cons_zero, List.set_cons_succ])
    refine perm_q (v := ?v4_14) (some 20) rfl rfl rfl ?q4_14 ?h4_14; (case q4_14 => (intro w' hS; obtain ⟨s1, s2, s3, s4⟩ := hS; first | (go_simp; done) | (go_simp; rfl))); (try simp only [Act.put, List.setIfInBounds_toArray, List.set_cons_zero, List.set_cons_succ])
    refine perm_q (v := ?v4_15) (some 21) rfl rfl rfl ?q4_15 ?h4_15; (case q4_15 => (intro w' hS; obtain ⟨s1, s2, s3, s4⟩ := hS; first | (go_simp; done) | (go_simp; rfl))); (try simp only [Act.put, List.setIfInBounds_toArray, List.set_cons_zero, List.set_cons_succ])
    refine perm_q (v := ?v4_16) (some 22) rfl rfl rfl ?q4_16 ?h4_16; (case q4_16 => (intro w' hS; obtain ⟨s1, s2, s3, s4⟩ := hS; first | (go_simp; done) | (go_simp; rfl))); (try simp only [Act.put, List.setIfInBounds_toArray, List.set_cons_zero, List.set_cons_succ])
    refine perm_q (v := ?v4_17) (some 23) rfl rfl rfl ?q4_17 ?h4_17; (case q4_17 => (intro w' hS; obtain ⟨s1, s2, s3, s4⟩ := hS; first | (go_simp; done) | (go_simp; rfl))); (try simp only [Act.put, List.setIfInBounds_toArray, List.set_cons_zero, List.set_cons_succ])
    refine perm_q (v := ?v4_18) (some 24) rfl rfl rfl ?q4_18 ?h4_18; (case q4_18 => (intro w' hS; obtain ⟨s1, s2, s3, s4⟩ := hS; first | (go_simp; done) | (go_simp; rfl))); (try simp only [Act.put, List.setIfInBounds_toArray, List.set_cons_zero, List.set_cons_succ])
    refine perm_q (v := ?v4_19) (some 25) rfl rfl rfl ?q4_19 ?h4_19; (case q4_19 => (intro w' hS; obtain ⟨s1, s2, s3, s4⟩ := hS; first | (go_simp; done) | (go_simp; rfl))); (try simp only [Act.put, List.setIfInBounds_toArray, List.set_cons_zero, List.set_cons_succ])
    refine perm_q (v := ?v4_20) (some 26) rfl rfl rfl ?q4_20 ?h4_20; (case q4_20 => (intro w' hS; obtain ⟨s1, s2, s3, s4⟩ := hS; first | (go_simp; done) | (go_simp; rfl))); (try simp only [Act.put, List.setIfInBounds_toArray, List.set_cons_zero, List.set_cons_succ])
    refine perm_q (v := ?v4_21) (some 27) rfl rfl rfl ?q4_21 ?h4_21; (case q4_21 => (intro w' hS; obtain ⟨s1, s2, s3, s4⟩ := hS; first | (go_simp; done) | (go_simp; rfl))); (try simp only [Act.put, List.setIfInBounds_toArray, List.set_cons_zero, List.set_cons_succ])
    refine perm_q (v := ?v4_22) (some 28) rfl rfl rfl ?q4_22 ?h4_22; (case q4_22 => (intro w' hS; obtain ⟨s1, s2, s3, s4⟩ := hS; first | (go_simp; done) | (go_simp; rfl))); (try simp only [Act.put, List.setIfInBounds_toArray, List.set_cons_zero, List.set_cons_succ])
    refine perm_q (v := ?v4_23) (some 29) rfl rfl rfl ?q4_23 ?h4_23; (case q4_23 => (intro w' hS; obtain ⟨s1, s2, s3, s4⟩ := hS; first | (go_simp; done) | (go_simp; rfl))); (try simp only [Act.put, List.setIfInBounds_toArray, List.set_cons_zero, List.set_cons_succ])
    refine perm_q (v := ?v4_24) (some 30) rfl rfl rfl ?q4_24 ?h4_24; (case q4_24 => (intro w' hS; obtain ⟨s1, s2, s3, s4⟩ := hS; first | (go_simp; done) | (go_simp; rfl))); (try simp only [Act.put, List.setIfInBounds_toArray, List.set_cons_zero, List.set_cons_succ])
    refine perm_q (v := ?v4_25) (some 31) rfl rfl rfl ?q4_25 ?h4_25; (case q4_25 => (intro w' hS; obtain ⟨s1, s2, s3, s4⟩ := hS; first | (go_simp; done) | (go_simp; rfl))); (try simp only [Act.put, List.setIfInBounds_toArray, List.set_cons_zero, List.set_cons_succ])
    refine perm_q (v := ?v4_26) (some 32) rfl rfl rfl ?q4_26 ?h4_26; (case q4_26 => (intro w' hS; obtain ⟨s1, s2, s3, s4⟩ := hS; first | (go_simp; done) | (go_simp; rfl))); (try simp only [Act.put, List.setIfInBounds_toArray, List.set_cons_zero, List.set_cons_succ])
    refine perm_q (v := ?v4_27) (some 33) rfl rfl rfl ?q4_27 ?h4_27; (case q4_27 => (intro w' hS; obtain ⟨s1, s2, s3, s4⟩ := hS; first | (go_simp; done) | (go_simp; rfl))); (try simp only [Act.put, List.setIfInBounds_toArray, List.set_cons_zero, List.set_cons_succ])
    refine perm_nil ?_
    go_wp2
    go_ret
    exact ⟨by rw [hkr.out]; rfl, HK.out.drew⟩
  have her := Her2.out
  rw [if_neg (by omega)] at her
  have Her3 := Lib.hid her
  clear her Her2
  refine wp_region_perm [(0, true), (1, true), (2, true), (3, true), (4, true), (5, true), (6, true), (7, true), (8, true), (9, true), (10, true), (11, true), (12, true), (13, true), (14, true), (15, true), (16, true), (17, true), (18, true), (19, true), (20, true), (21, true), (22, true), (23, true), (24, true), (25, true), (26, true), (27, true)] (fun w' => w'.cell? ⟨g2, 0, none⟩ = some (.int .i64 (kn : Int)) ∧ w'.cell? ⟨g2, 1, none⟩ = some (.int .i64 n) ∧ w'.cell? ⟨0, kn * 4 + 2, none⟩ = some (.int .i64 b2) ∧ w'.cell? ⟨0, kn * 4 + 3, none⟩ = some (.int .i64 b3)) rfl (by kernel_rfl) (by kernel_rfl) (by decide) (fun c a d v w h => by cases d <;> exact h) ⟨f0, f1, t2, t3⟩ ?_
  refine perm_q (v := ?v5_0) (some 6) rfl rfl rfl ?q5_0 ?h5_0; (case q5_0 => (intro w' hS; obtain ⟨s1, s2, s3, s4⟩ := hS; first | (go_simp; done) | (go_simp; rfl))); (try simp only [Act.put, List.setIfInBounds_toArray, List.set_cons_zero, List.set_cons_succ])
  refine perm_q (v := ?v5_1) (some 7) rfl rfl rfl ?q5_1 ?h5_1; (case q5_1 => (intro w' hS; obtain ⟨s1, s2, s3, s4⟩ := hS; first | (go_simp; done) | (go_simp; rfl))); (try simp only [Act.put, List.setIfInBounds_toArray, List.set_cons_zero, List.set_cons_succ])
  refine perm_q (v := ?v5_2) (some 8) rfl rfl rfl ?q5_2 ?h5_2; (case q5_2 => (intro w' hS; obtain ⟨s1, s2, s3, s4⟩ := hS; first | (go_simp; done) | (go_simp; rfl))); (try simp only [Act.put, List.setIfInBounds_toArray, List.set_cons_zero, List.set_cons_succ])
  refine perm_q (v := ?v5_3) (some 9) rfl rfl rfl ?q5_3 ?h5_3; (case q5_3 => (intro w' hS; obtain ⟨s1, s2, s3, s4⟩ := hS; first | (go_simp; done) | (go_simp; rfl))); (try simp only [Act.put, List.setIfInBounds_toArray, List.set_cons_zero, List.set_cons_succ])
  refine perm_q (v := ?v5_4) (some 10) rfl rfl rfl ?q5_4 ?h5_4; (case q5_4 => (intro w' hS; obtain ⟨s1, s2, s3, s4⟩ := hS; first | (go_simp; done) | (go_simp; rfl))); (try simp only [Act.put, List.setIfInBounds_toArray, List.set_cons_zero, List.set_cons_succ])
  refine perm_q (v := ?v5_5) (some 11) rfl rfl rfl ?q5_5 ?h5_5; (case q5_5 => (intro w' hS; obtain ⟨s1, s2, s3, s4⟩ := hS; first | (go_simp; done) | (go_simp; rfl))); (try simp only [Act.put, List.setIfInBounds_toArray, List.set_cons_zero, List.set_cons_succ])
  refine perm_q (v := ?v5_6) (some 12) rfl rfl rfl ?q5_6 ?h5_6; (case q5_6 => (intro w' hS; obtain ⟨s1, s2, s3, s4⟩ := hS; first | (go_simp; done) | (go_simp; rfl))); (try simp only [Act.put, List.setIfInBounds_toArray, List.set_cons_zero, List.set_cons_succ])
  refine perm_q (v := ?v5_7) (some 13) rfl rfl rfl ?q5_7 ?h5_7; (case q5_7 => (intro w' hS; obtain ⟨s1, s2, s3, s4⟩ := hS; first | (go_simp; done) | (go_simp; rfl))); (try simp only [Act.put, List.setIfInBounds_toArray, List.set_cons_zero, List.set_cons_succ])
  refine perm_q (v := ?v5_8) (some 14) rfl rfl rfl ?q5_8 ?h5_8; (case q5_8 => (intro w' hS; obtain ⟨s1, s2, s3, s4⟩ := hS; first | (go_simp; done) | (go_simp; rfl))); (try simp only [Act.put, List.setIfInBounds_toArray, List.set_cons_zero, List.set_cons_succ])
  refine perm_q (v := ?v5_9) (some 15) rfl rfl rfl ?q5_9 ?h5_9; (case q5_9 => (intro w' hS; obtain ⟨s1, s2, s3, s4⟩ := hS; first | (go_simp; done) | (go_simp; rfl))); (try simp only [Act.put, List.setIfInBounds_toArray, List.set_cons_zero, List.set_cons_succ])
  refine perm_q (v := ?v5_10) (some 16) rfl rfl rfl ?q5_10 ?h5_10; (case q5_10 => (intro w' hS; obtain ⟨s1, s2, s3, s4⟩ := hS; first | (go_simp; done) | (go_simp; rfl))); (try simp only [Act.put, List.setIfInBounds_toArray, List.set_cons_zero, List.set_cons_succ])
  refine perm_q (v := ?v5_11) (some 17) rfl rfl rfl ?q5_11 ?h5_11; (case q5_11 => (intro w' hS; obtain ⟨s1, s2, s3, s4⟩ := hS; first | (go_simp; done) | (go_simp; rfl))); (try simp only [Act.put, List.setIfInBounds_toArray, List.set_cons_zero, List.set_cons_succ])
  refine perm_q (v := ?v5_12) (some 18) rfl rfl rfl ?q5_12 ?h5_12; (case q5_12 => (intro w' hS; obtain ⟨s1, s2, s3, s4⟩ := hS; first | (go_simp; done) | (go_simp; rfl))); (try simp only [Act.put, List.setIfInBounds_toArray, List.set_cons_zero, List.set_cons_succ])
  refine perm_q (v := ?v5_13) (some 19) rfl rfl rfl ?q5_13 ?h5_13; (case q5_13 => (intro w' hS; obtain ⟨s1, s2, s3, s4⟩ := hS; first | (go_simp; done) | (go_simp; rfl))); (try simp only [Act.put, List.setIfInBounds_toArray, List.set_cons_zero, List.set_cons_succ])
  refine perm_q (v := ?v5_14) (some 20) rfl rfl rfl ?q5_14 ?h5_14; (case q5_14 => (intro w' hS; obtain ⟨s1, s2, s3, s4⟩ := hS; first | (go_simp; done) | (go_simp; rfl))); (try simp only [Act.put, List.setIfInBounds_toArray, List.set_cons_zero, List.set_cons_succ])
  refine perm_q (v := ?v5_15) (some 21) rfl rfl rfl ?q5_15 ?h5_15; (case q5_15 => (intro w' hS; obtain ⟨s1, s2, s3, s4⟩ := hS; first | (go_simp; done) | (go_simp; rfl))); (try simp only [Act.put, List.setIfInBounds_toArray, List.set_cons_zero, List.set_cons_succ])
  refine perm_q (v := ?v5_16) (some 22) rfl rfl rfl ?q5_16 ?h5_16; (case q5_16 => (intro w' hS; obtain ⟨s1, s2, s3, s4⟩ := hS; first | (go_simp; done) | (go_simp; rfl))); (try simp only [Act.put, List.setIfInBounds_toArray, List.set_cons_zero, List.set_cons_succ])
  refine perm_q (v := ?v5_17) (some 23) rfl rfl rfl ?q5_17 ?h5_17; (case q5_17 => (intro w' hS; obtain ⟨s1, s2, s3, s4⟩ := hS; first | (go_simp; done) | (go_simp; rfl))); (try simp only [Act.put, List.setIfInBounds_toArray, List.set_cons_zero, List.set_cons_succ])
  refine perm_q (v := ?v5_18) (some 24) rfl rfl rfl ?q5_18 ?h5_18; (case q5_18 => (intro w' hS; obtain ⟨s1, s2, s3, s4⟩ := hS; first | (go_simp; done) | (go_simp; rfl))); (try simp only [Act.put, List.setIfInBounds_toArray, List.set_cons_zero, List.set_cons_succ])
  refine perm_q (v := ?v5_19) (some 25) rfl rfl rfl ?q5_19 ?h5_19; (case q5_19 => (intro w' hS; obtain ⟨s1, s2, s3, s4⟩ := hS; first | (go_simp; done) | (go_simp; rfl))); (try simp only [Act.put, List.setIfInBounds_toArray, List.set_cons_zero, List.set_cons_succ])
  refine perm_q (v := ?v5_20) (some 26) rfl rfl rfl ?q5_20 ?h5_20; (case q5_20 => (intro w' hS; obtain ⟨s1, s2, s3, s4⟩ := hS; first | (go_simp; done) | (go_simp; rfl))); (try simp only [Act.put, List.setIfInBounds_toArray, List.set_cons_zero, List.set_cons_succ])
  refine perm_q (v := ?v5_21) (some 27) rfl rfl rfl ?q5_21 ?h5_21; (case q5_21 => (intro w' hS; obtain ⟨s1, s2, s3, s4⟩ := hS; first | (go_simp; done) | (go_simp; rfl))); (try simp only [Act.put, List.setIfInBounds_toArray, List.set_cons_zero, List.set_cons_succ])
  refine perm_q (v := ?v5_22) (some 28) rfl rfl rfl ?q5_22 ?h5_22; (case q5_22 => (intro w' hS; obtain ⟨s1, s2, s3, s4⟩ := hS; first | (go_simp; done) | (go_simp; rfl))); (try simp only [Act.put, List.setIfInBounds_toArray, List.set_cons_zero, List.set_cons_succ])
  refine perm_q (v := ?v5_23) (some 29) rfl rfl rfl ?q5_23 ?h5_23; (case q5_23 => (intro w' hS; obtain ⟨s1, s2, s3, s4⟩ := hS; first | (go_simp; done) | (go_simp; rfl))); (try simp only [Act.put, List.setIfInBounds_toArray, List.set_cons_zero, List.set_cons_succ])
  refine perm_q (v := ?v5_24) (some 30) rfl rfl rfl ?q5_24 ?h5_24; (case q5_24 => (intro w' hS; obtain ⟨s1, s2, s3, s4⟩ := hS; first | (go_simp; done) | (go_simp; rfl))); (try simp only [Act.put, List.setIfInBounds_toArray, List.set_cons_zero, List.set_cons_succ])
  refine perm_q (v := ?v5_25) (some 31) rfl rfl rfl ?q5_25 ?h5_25; (case q5_25 => (intro w' hS; obtain ⟨s1, s2, s3, s4⟩ := hS; first | (go_simp; done) | (go_simp; rfl))); (try simp only [Act.put, List.setIfInBounds_toArray, List.set_cons_zero, List.set_cons_succ])
  refine perm_q (v := ?v5_26) (some 32) rfl rfl rfl ?q5_26 ?h5_26; (case q5_26 => (intro w' hS; obtain ⟨s1, s2, s3, s4⟩ := hS; first | (go_simp; done) | (go_simp; rfl))); (try simp only [Act.put, List.setIfInBounds_toArray, List.set_cons_zero, List.set_cons_succ])
  refine perm_q (v := ?v5_27) (some 33) rfl rfl rfl ?q5_27 ?h5_27; (case q5_27 => (intro w' hS; obtain ⟨s1, s2, s3, s4⟩ := hS; first | (go_simp; done) | (go_simp; rfl))); (try simp only [Act.put, List.setIfInBounds_toArray, List.set_cons_zero, List.set_cons_succ])
  refine perm_nil ?_
  obtain ⟨al, hal⟩ : ∃ x, asks.length = x := ⟨_, rfl⟩
  rw [hal] at f2 Her3
  have Hal := Lib.hid hal
  clear hal
  by_cases h4 : 12 < (al : Int)
  · have hkr := Lib.hid (show er = 3 by rw [← Her3.out, if_pos h4])
    go_wp2
    go_ret
    exact ⟨by rw [hkr.out]; rfl, HK.out.drew⟩
  have her := Her3.out
  rw [if_neg h4] at her
  have Her4 := Lib.hid her
  clear her Her3
  by_cases h5 : (al : Int) < b0
  · have hkr := Lib.hid (show er = 2 by rw [← Her4.out, if_pos (.inl h5)])
    go_wp2
    go_ret
    exact ⟨by rw [hkr.out]; rfl, HK.out.drew⟩
  by_cases h6 : b1 < (al : Int)
  · have hkr := Lib.hid (show er = 2 by rw [← Her4.out, if_pos (.inr h6)])
    go_wp2
    go_ret
    exact ⟨by rw [hkr.out]; rfl, HK.out.drew⟩
  have her := Her4.out
  rw [if_neg (by omega)] at her
  have hrun := containsOut g3 many w2.drew X (.slice A asks.length c) asks (Hx.out.keep HK.out.drew (fun _ _ _ => id) (fun _ _ h => h)) (by have := Hal.out; omega) f3
  rw [Hal.out] at hrun
  obtain ⟨t, htt⟩ : ∃ t, asks.any (askOut many) = t := ⟨_, rfl⟩
  rw [htt] at hrun her
  have Hrun := Lib.hid hrun
  have Her5 := Lib.hid her
  clear her Her4 hrun htt
  cases t with
  | true =>
    have hkr := Lib.hid (show er = 5 by rw [← Her5.out]; rfl)
    go_wp2_with (go_at_call 58; go_must (refine Hrun.out.mono ?_; rintro e w3 ⟨rfl, rfl⟩))
    go_ret
    exact ⟨by rw [hkr.out]; rfl, HK.out.drew⟩
  | false =>
    have hkr := Lib.hid (show er = 0 by rw [← Her5.out]; rfl)
    go_wp2_with (go_at_call 58; go_must (refine Hrun.out.mono ?_; rintro e w3 ⟨rfl, rfl⟩))
    go_ret
    exact ⟨by rw [hkr.out]; rfl, HK.out.drew⟩
theorem drop_rule {rs : List QRule} {k : Nat} (h : k < rs.length) : rs.drop k = rs.getD k default :: rs.drop (k + 1) := by
  rw [List.drop_eq_getElem_cons h]
  simp [List.getD_eq_getElem?_getD, h]
set_option maxHeartbeats 2000000 in
/-- CHECK. -/
theorem Check_any (rs : List QRule) (w : World) (X : Nat → Prop) (rv : Value) (hr : RulesX w X rv rs) (ht : rs.length ≤ 200 → Tab w) :
    Calls Tryd.prog 22 #[rv] w fun e w' => e = .returned (.tuple #[.int .i64 (check rs).1, .int .i64 (check rs).2]) ∧ Keeps Nob w w' := by
  obtain ⟨A, c, rfl, hcc, hcell⟩ := id hr
  obtain ⟨ce, hce⟩ : ∃ x, check rs = x := ⟨_, rfl⟩
  obtain ⟨c1, c2⟩ := ce
  rw [hce]
  unfold check at hce
  obtain ⟨i72, hi72, hs72⟩ := info72
  have Hi72 := Lib.hid (And.intro hi72 hs72)
  have Hr := Lib.hid hr
  have Hcell := Lib.hid hcell
  obtain ⟨rl, hrl⟩ : ∃ x, rs.length = x := ⟨_, rfl⟩
  rw [hrl] at hce ht ⊢
  have Hrl := Lib.hid hrl
  have Hce := Lib.hid hce
  have Ht := Lib.hid ht
  clear hr hcell hce hrl ht hi72 hs72
  by_cases h2 : 200 < rl
  · have h2' : (200 : Int) < rl := by omega
    have hk := Hce.out
    rw [if_pos h2] at hk
    injection hk with hk1 hk2
    subst hk1; subst hk2
    clear Hce
    go_enter Tryd.func22, Tryd.ntmps22
    go_wp2
    go_ret2
    exact ⟨rfl, Keeps.refl _ _⟩
  have h2' : ¬ (200 : Int) < rl := by omega
  have hk := Hce.out
  rw [if_neg h2] at hk
  have Hk := Lib.hid hk
  have HT := Lib.hid (Ht.out (by omega))
  clear hk Hce Ht
  go_enter Tryd.func22, Tryd.ntmps22
  go_wp2
  go_loopw [12] (fun v wr => ∃ k : Nat, v = .int .i64 k ∧ k ≤ rl ∧ Hid (Keeps Nob w wr) ∧ Hid (checkFrom rl (rs.drop k) k = (c1, c2)))
    (fun v _ => rl - (intOf v).toNat)
  case atStart => exact ⟨0, rfl, Nat.zero_le _, Lib.hid (Keeps.refl _ _), Lib.hid Hk.out⟩
  case round =>
    obtain ⟨k, rfl, hk, hkeep, hst⟩ := hrel
    by_cases hlt : k < rl
    · obtain ⟨b, o, u, rfl, hb, e0, e1, e2, hu⟩ := Hcell.out k (by rw [Hrl.out]; exact hlt)
      have e0 := hkeep.out.cell e0 id
      have e1 := hkeep.out.cell e1 id
      have e2 := hkeep.out.cell e2 id
      have hstep : checkFrom rl (rs.drop k) k = if ruleErr rl (rs.getD k default) = 0 then checkFrom rl (rs.drop (k + 1)) ((k + 1 : Nat) : Int) else ((k : Int), ruleErr rl (rs.getD k default)) := by
        rw [drop_rule (by rw [Hrl.out]; exact hlt), checkFrom]; rfl
      rw [hst.out] at hstep
      have hu' := hu.keep (X' := X) hkeep.out (fun _ _ _ => id) (fun _ _ h => h)
      obtain ⟨uA, uc, rfl, _, _⟩ := id hu
      have Hu := Lib.hid hu'
      have Hstep := Lib.hid hstep
      clear hu hu' hstep hb
      generalize rs.getD k default = r at *
      obtain ⟨er, her⟩ : ∃ x, ruleErr rl r = x := ⟨_, rfl⟩
      have hs2 := Hstep.out
      rw [her] at hs2
      have Her := Lib.hid her
      have Hs2 := Lib.hid hs2
      clear hs2 her Hstep
      go_wp2_with (first
        | ((with_reducible refine at_dst (N := 5) rfl ?_); go_must (refine ev_alloc rfl rfl zero72 rfl ?_; intro g5 w1 hg5 hl5 hb5 hk1); have Hb5 := Lib.hid hb5; clear hb5; (try simp only [Act.put, List.setIfInBounds_toArray, List.set_cons_zero, List.set_cons_succ]))
        | ((with_reducible refine at_store (t := 72) rfl ?_); go_must (refine ev_store (cs' := #[.int .i64 r.kind, .int .i64 r.n, .slice uA r.asks.length uc]) rfl rfl rfl rfl rfl rfl Hi72.out.1 Hi72.out.2 rfl Hb5.out (Nat.le_of_ble_eq_true rfl) rfl ?_; intro w2 hb2 hk2); have f0 := (blk_cell hb2 0).trans rfl; have f1 := (blk_cell hb2 1).trans rfl; have f2 := (blk_cell hb2 2).trans rfl; clear hb2
           have hk2' := (hkeep.out.trans hk1 (fun _ _ h => h)).own hk2 (by have := hkeep.out.size; omega)
           have hk12 : Keeps Nob wr w2 := hk1.own hk2 hg5
           have Hrun := Lib.hid (rule_any r rl w2 X (.slice uA r.asks.length uc) (Hu.out.keep hk12 (fun _ _ _ => id) (fun _ _ h => h)) (HT.out.keep hk2' id))
           have HK2 := Lib.hid hk2'
           clear hk2' hk12 hk1 hk2
           (try simp only [Act.put, List.setIfInBounds_toArray, List.set_cons_zero, List.set_cons_succ]))
        | (go_at_call 43; go_must (refine Hrun.out.mono ?_; rintro e w3 ⟨rfl, hk3⟩; rw [Her.out]); have HK3 := Lib.hid (HK2.out.trans hk3 (fun _ _ h => h)); clear hk3))
      · have hz : er ≠ 0 := by intro hz; simp_all
        have hs3 := Hs2.out
        rw [if_neg hz] at hs3
        injection hs3 with h1 h2
        go_ret2
        exact ⟨by rw [h1, h2]; rfl, HK3.out⟩
      · have hz : er = 0 := by simp_all
        have hs3 := Hs2.out
        rw [if_pos hz] at hs3
        exact ⟨⟨k + 1, by go_num, by omega, HK3, Lib.hid hs3.symm⟩, by simp [intOf]; omega⟩
    · have hk' : k = rl := by omega
      subst hk'
      have hs := hst.out
      rw [← Hrl.out, List.drop_length] at hs
      injection hs with h1 h2
      subst h1; subst h2
      go_wp2
      go_ret2
      exact ⟨rfl, hkeep.out⟩
end Go.Proofs.QW
