/-
  A rule worked out, in memory: the three kinds that ask a fixed number of questions. Condition: nested askings come to the model's.
-/
import Derived.Test.YtohpkolkagddiaaDoorQ6
namespace Go.Proofs.QW
open Go.RowKit Go.Proofs.KL Go.Proofs.QM
set_option maxRecDepth 100000
set_option linter.unusedSimpArgs false
set_option linter.unusedVariables false

set_option maxHeartbeats 1000000 in
/-- RuLess. -/
theorem answer_less {E : Env} {on : List Int} {ask : AskFn} (IH : AskOK E on ask) (hG : QM.Good E on ask) (w : World) (X : Nat → Prop) (ab eb ib mb ob ga gk : Nat) (s : PS) (wv av asv : Value) (n q0 q1 : Int)
    (hw : WW w X ab eb ib mb ob ga gk E s wv [] av) (ho : OpenX w ob on) (hi : PInv E on s) (h0 : InQ E q0) (h1 : InQ E q1) (hx : IntsX w X asv [q0, q1]) :
    Calls Tryd.prog 66 #[.agg #[.int .i64 5, .int .i64 n, asv], .func (.func 67) #[] #[.pointer (some ⟨gk, 0, none⟩), .pointer (some ⟨ga, 0, none⟩)]] w
      (Works w X ab eb ib mb ob ga gk E on wv av [] (evalR ask s ⟨5, n, [q0, q1]⟩)) := by
  generalize hRR : evalR ask s ⟨5, n, [q0, q1]⟩ = RR
  have HRR := Lib.hid hRR
  obtain ⟨A, c, rfl, hcc, hcell⟩ := id hx
  obtain ⟨b, o, rfl, _, hc0⟩ := hcell 0 (by simp)
  have hc1 := hx.cellAt (k := 1) (by simp)
  simp at hc0 hc1
  have Hx := Lib.hid hx
  have Hw := Lib.hid hw
  have Ho := Lib.hid ho
  have Hi := Lib.hid hi
  clear hRR hx hw ho hi hcell hc0 hc1
  simp only [List.length_cons, List.length_nil, Nat.zero_add, Nat.reduceAdd] at hcc ⊢
  go_enter Tryd.func66, Tryd.ntmps66
  go_wp2_with ((with_reducible refine at_dst (N := 2) rfl ?_); go_must (refine ev_box (cs := #[.int .i64 5, .int .i64 n, .slice (some ⟨b, o, none⟩) 2 c]) rfl rfl rfl ?_; intro g2 w1 hg2 hl2 hb2 hk2); have Hb2 := Lib.hid hb2; have f0 := blk_cell hb2 0; have f2 := blk_cell hb2 2; have fq := (Hx.out.keep hk2 (X' := X) (fun _ _ _ h => h) (fun _ _ h => h)).cellAt (k := 0) (by simp); simp only [List.getD_cons_zero, Nat.add_zero] at fq; clear hb2; (try simp only [Act.put, List.setIfInBounds_toArray, List.set_cons_zero, List.set_cons_succ]))
  have Hfar := Lib.hid (Hw.out.far hg2 hl2)
  have Hw1 := Lib.hid (Hw.out.keep hk2)
  have Ho1 := Lib.hid (Ho.out.keep hk2 id)
  have Hx1 := Lib.hid (Hx.out.keep hk2 (X' := X) (fun _ _ _ h => h) (fun _ _ h => h))
  have Hk2 := Lib.hid hk2
  have H0 := Lib.hid (LoopSt.start (ask := ask) (stop := false) (asks := [q0, q1]) Hw1.out Ho1.out Hi.out)
  clear f0 f2 fq hk2
  have hg0 := hG s q0 Hi.out h0
  rcases hr : ask s q0 with ⟨s1, r1⟩
  have Hrun := Lib.hid (step_any IH Hw1.out Ho1.out Hi.out h0 (by simp) hr)
  rw [hr] at hg0
  have Hg0 := Lib.hid hg0
  have Hr := Lib.hid hr
  clear hg0 hr
  cases r1 with
  | error x =>
    refine Hrun.out.mono ?_
    rintro e w2 ⟨X', wv', av', ht', hc', he⟩
    dsimp only [res67] at he hc' ht'
    subst he
    refine ⟨rfl, X', wv', av', WT.after Hk2.out ht', ?_⟩
    rw [← HRR.out, evalR_err (r := ⟨5, n, [q0, q1]⟩) (show (5 : Int) ≠ 3 by decide) (H0.out.err (by simp) Hr.out)]
    exact ⟨hc', rfl⟩
  | ok y =>
    obtain ⟨v0, ch⟩ := y
    have hv0 := Hg0.out.2 v0 ch rfl
    refine Hrun.out.mono ?_
    rintro e w2 ⟨X2, wv2, av2, ht2, hc2, he⟩
    dsimp only [res67] at he hc2 ht2
    obtain ⟨hw2, ho2, rfl⟩ := he
    have H1 := Lib.hid (H0.out.next (k := 0) (by simp) Hr.out hv0 (by simp) Hg0.out.1.inv ht2 hw2 ho2)
    have Hi1 := Lib.hid Hg0.out.1.inv
    have hb3 := Hfar.out.blk ht2 Hb2.out
    have Hfar2 := Lib.hid (Hfar.out.step ht2)
    have f2 := blk_cell hb3 2
    have fq := (ht2.ints Hw1.out Hx1.out).cellAt (k := 1) (by simp)
    simp only [List.getD_cons_zero, List.getD_cons_succ] at fq
    have Hw2 := Lib.hid hw2
    have Ho2 := Lib.hid ho2
    have Ht2 := Lib.hid ht2
    clear hb3 hw2 ho2 ht2 hc2
    go_wp2_with fail
    have hg1 := hG s1 q1 Hi1.out h1
    rcases hr : ask s1 q1 with ⟨s3, r3⟩
    have Hrun2 := Lib.hid (step_any IH Hw2.out Ho2.out Hi1.out h1 (by simp) hr)
    rw [hr] at hg1
    have Hg1 := Lib.hid hg1
    have Hr2 := Lib.hid hr
    clear hg1 hr f2 fq
    cases r3 with
    | error x =>
      refine Hrun2.out.mono ?_
      rintro e w3 ⟨X', wv', av', ht', hc', he⟩
      dsimp only [res67] at he hc' ht'
      subst he
      refine ⟨rfl, X', wv', av', WT.after Hk2.out (Ht2.out.trans ht'), ?_⟩
      rw [← HRR.out, evalR_err (r := ⟨5, n, [q0, q1]⟩) (show (5 : Int) ≠ 3 by decide) (H1.out.err (by simp) Hr2.out)]
      exact ⟨hc', rfl⟩
    | ok y =>
      obtain ⟨v1, ch1⟩ := y
      have hv1 := Hg1.out.2 v1 ch1 rfl
      refine Hrun2.out.mono ?_
      rintro e w3 ⟨X3, wv3, av3, ht3, hc3, he⟩
      dsimp only [res67] at he hc3 ht3
      obtain ⟨hw3, ho3, rfl⟩ := he
      have H2 := Lib.hid (H1.out.next (k := 1) (by simp) Hr2.out hv1 (by simp) Hg1.out.1.inv ht3 hw3 ho3)
      have Hev := Lib.hid (evalR_loop (r := ⟨5, n, [q0, q1]⟩) (show (5 : Int) ≠ 3 by decide) H2.out.end_)
      clear hw3 ho3 ht3 hc3
      by_cases hlt : v0 < v1
      · go_wp2
        go_ret
        refine H2.out.works Hk2.out ?_
        rw [← HRR.out, Hev.out]
        show (s3, Except.ok (if v0 < v1 then (1 : Int) else 0, [q0, q1])) = _
        rw [if_pos hlt]; rfl
      · go_wp2
        go_ret
        refine H2.out.works Hk2.out ?_
        rw [← HRR.out, Hev.out]
        show (s3, Except.ok (if v0 < v1 then (1 : Int) else 0, [q0, q1])) = _
        rw [if_neg (by omega)]; rfl

set_option maxHeartbeats 1000000 in
/-- RuStep. -/
theorem answer_step {E : Env} {on : List Int} {ask : AskFn} (IH : AskOK E on ask) (hG : QM.Good E on ask) (w : World) (X : Nat → Prop) (ab eb ib mb ob ga gk : Nat) (s : PS) (wv av asv : Value) (n q0 : Int)
    (hw : WW w X ab eb ib mb ob ga gk E s wv [] av) (ho : OpenX w ob on) (hi : PInv E on s) (h0 : InQ E q0) (hx : IntsX w X asv [q0]) (hn1 : -1000 ≤ n) (hn2 : n ≤ 1000) :
    Calls Tryd.prog 66 #[.agg #[.int .i64 6, .int .i64 n, asv], .func (.func 67) #[] #[.pointer (some ⟨gk, 0, none⟩), .pointer (some ⟨ga, 0, none⟩)]] w
      (Works w X ab eb ib mb ob ga gk E on wv av [] (evalR ask s ⟨6, n, [q0]⟩)) := by
  generalize hRR : evalR ask s ⟨6, n, [q0]⟩ = RR
  have HRR := Lib.hid hRR
  obtain ⟨A, c, rfl, hcc, hcell⟩ := id hx
  obtain ⟨b, o, rfl, _, hc0⟩ := hcell 0 (by simp)
  have Hx := Lib.hid hx
  have Hw := Lib.hid hw
  have Ho := Lib.hid ho
  have Hi := Lib.hid hi
  clear hRR hx hw ho hi hcell hc0
  simp only [List.length_cons, List.length_nil, Nat.zero_add] at hcc ⊢
  go_enter Tryd.func66, Tryd.ntmps66
  go_wp2_with ((with_reducible refine at_dst (N := 2) rfl ?_); go_must (refine ev_box (cs := #[.int .i64 6, .int .i64 n, .slice (some ⟨b, o, none⟩) 1 c]) rfl rfl rfl ?_; intro g2 w1 hg2 hl2 hb2 hk2); have Hb2 := Lib.hid hb2; have f0 := blk_cell hb2 0; clear hb2; (try simp only [Act.put, List.setIfInBounds_toArray, List.set_cons_zero, List.set_cons_succ]))
  have f1 := blk_cell Hb2.out 1
  have f2 := blk_cell Hb2.out 2
  simp only [List.getElem?_toArray, List.getElem?_cons_zero, List.getElem?_cons_succ] at f0 f1 f2
  have fq := (Hx.out.keep hk2 (X' := X) (fun _ _ _ h => h) (fun _ _ h => h)).cellAt (k := 0) (by simp)
  simp only [List.getD_cons_zero, Nat.add_zero] at fq
  have Hfar := Lib.hid (Hw.out.far (w1 := w1.drew) hg2 hl2)
  have hkd := hk2.drew
  have Hw1 := Lib.hid (Hw.out.keep hkd)
  have Ho1 := Lib.hid (Ho.out.keep hkd id)
  have Hx1 := Lib.hid (Hx.out.keep hkd (X' := X) (fun _ _ _ h => h) (fun _ _ h => h))
  have Hk2 := Lib.hid hkd
  have H0 := Lib.hid (LoopSt.start (ask := ask) (stop := false) (asks := [q0]) Hw1.out Ho1.out Hi.out)
  clear hk2 hkd
  have hg0 := hG s q0 Hi.out h0
  rcases hr : ask s q0 with ⟨s1, r1⟩
  have Hrun := Lib.hid (step_any IH Hw1.out Ho1.out Hi.out h0 (by simp) hr)
  rw [hr] at hg0
  have Hg0 := Lib.hid hg0
  have Hr := Lib.hid hr
  clear hg0 hr
  cases r1 with
  | error x =>
    refine wp_region_perm [(0, true), (1, true), (2, true), (3, true), (4, true), (6, true), (7, true), (5, false), (8, true), (9, true), (10, true), (11, true)] (fun w' => (w'.cell? ⟨g2, 1, none⟩ = some (.int .i64 n) ∧ w'.cell? ⟨g2, 2, none⟩ = some (.slice (some ⟨b, o, none⟩) 1 c)) ∧ w'.cell? ⟨b, o, none⟩ = some (.int .i64 q0)) rfl (by kernel_rfl) (by kernel_rfl) (by decide) (fun c a d v w h => by cases d <;> exact h) ⟨⟨f1, f2⟩, fq⟩ ?_
    refine perm_q (v := ?v1_0) (some 89) rfl rfl rfl ?q1_0 ?h1_0; (case q1_0 => (intro w' hS; obtain ⟨⟨s1, s2⟩, s3⟩ := hS; first | (go_simp; done) | (go_simp; rfl))); (try simp only [Act.put, List.setIfInBounds_toArray, List.set_cons_zero, List.set_cons_succ])
    refine perm_q (v := ?v1_1) (some 90) rfl rfl rfl ?q1_1 ?h1_1; (case q1_1 => (intro w' hS; obtain ⟨⟨s1, s2⟩, s3⟩ := hS; first | (go_simp; done) | (go_simp; rfl))); (try simp only [Act.put, List.setIfInBounds_toArray, List.set_cons_zero, List.set_cons_succ])
    refine perm_q (v := ?v1_2) (some 91) rfl rfl rfl ?q1_2 ?h1_2; (case q1_2 => (intro w' hS; obtain ⟨⟨s1, s2⟩, s3⟩ := hS; first | (go_simp; done) | (go_simp; rfl))); (try simp only [Act.put, List.setIfInBounds_toArray, List.set_cons_zero, List.set_cons_succ])
    refine perm_q (v := ?v1_3) (some 92) rfl rfl rfl ?q1_3 ?h1_3; (case q1_3 => (intro w' hS; obtain ⟨⟨s1, s2⟩, s3⟩ := hS; first | (go_simp; done) | (go_simp; rfl))); (try simp only [Act.put, List.setIfInBounds_toArray, List.set_cons_zero, List.set_cons_succ])
    refine perm_q (v := ?v1_4) (some 93) rfl rfl rfl ?q1_4 ?h1_4; (case q1_4 => (intro w' hS; obtain ⟨⟨s1, s2⟩, s3⟩ := hS; first | (go_simp; done) | (go_simp; rfl))); (try simp only [Act.put, List.setIfInBounds_toArray, List.set_cons_zero, List.set_cons_succ])
    refine perm_q (v := ?v1_6) (some 95) rfl rfl rfl ?q1_6 ?h1_6; (case q1_6 => (intro w' hS; obtain ⟨⟨s1, s2⟩, s3⟩ := hS; first | (go_simp; done) | (go_simp; rfl))); (try simp only [Act.put, List.setIfInBounds_toArray, List.set_cons_zero, List.set_cons_succ])
    refine perm_q (v := ?v1_7) (some 96) rfl rfl rfl ?q1_7 ?h1_7; (case q1_7 => (intro w' hS; obtain ⟨⟨s1, s2⟩, s3⟩ := hS; first | (go_simp; done) | (go_simp; rfl))); (try simp only [Act.put, List.setIfInBounds_toArray, List.set_cons_zero, List.set_cons_succ])
    refine perm_e rfl ?_   -- 5: call t89(t93)
    go_wp2_with (go_at_call 67; go_must (refine Hrun.out.mono ?_; rintro e w2 ⟨X', wv', av', ht', hc', he⟩; dsimp only [res67] at he hc' ht'; subst he))
    refine ⟨rfl, X', wv', av', WT.after Hk2.out ht', ?_⟩
    rw [← HRR.out, evalR_err (r := ⟨6, n, [q0]⟩) (show (6 : Int) ≠ 3 by decide) (H0.out.err (by simp) Hr.out)]
    exact ⟨hc', rfl⟩
  | ok y =>
    obtain ⟨v0, ch⟩ := y
    have hv0 := Hg0.out.2 v0 ch rfl
    have hwr : IntKind.i64.wrap (v0 + n) = v0 + n := IntWalk.i64_in _ (by omega)
    refine wp_region_perm [(0, true), (1, true), (2, true), (3, true), (4, true), (6, true), (7, true), (5, false), (8, true), (9, true), (10, true), (11, true)] (fun w' => w'.cell? ⟨g2, 1, none⟩ = some (.int .i64 n) ∧ w'.cell? ⟨g2, 2, none⟩ = some (.slice (some ⟨b, o, none⟩) 1 c) ∧ w'.cell? ⟨b, o, none⟩ = some (.int .i64 q0)) rfl (by kernel_rfl) (by kernel_rfl) (by decide) (fun c a d v w h => by cases d <;> exact h) ⟨f1, f2, fq⟩ ?_
    refine perm_q (v := ?v2_0) (some 89) rfl rfl rfl ?q2_0 ?h2_0; (case q2_0 => (intro w' hS; obtain ⟨s1, s2, s3⟩ := hS; first | (go_simp; done) | (go_simp; rfl))); (try simp only [Act.put, List.setIfInBounds_toArray, List.set_cons_zero, List.set_cons_succ])
    refine perm_q (v := ?v2_1) (some 90) rfl rfl rfl ?q2_1 ?h2_1; (case q2_1 => (intro w' hS; obtain ⟨s1, s2, s3⟩ := hS; first | (go_simp; done) | (go_simp; rfl))); (try simp only [Act.put, List.setIfInBounds_toArray, List.set_cons_zero, List.set_cons_succ])
    refine perm_q (v := ?v2_2) (some 91) rfl rfl rfl ?q2_2 ?h2_2; (case q2_2 => (intro w' hS; obtain ⟨s1, s2, s3⟩ := hS; first | (go_simp; done) | (go_simp; rfl))); (try simp only [Act.put, List.setIfInBounds_toArray, List.set_cons_zero, List.set_cons_succ])
    refine perm_q (v := ?v2_3) (some 92) rfl rfl rfl ?q2_3 ?h2_3; (case q2_3 => (intro w' hS; obtain ⟨s1, s2, s3⟩ := hS; first | (go_simp; done) | (go_simp; rfl))); (try simp only [Act.put, List.setIfInBounds_toArray, List.set_cons_zero, List.set_cons_succ])
    refine perm_q (v := ?v2_4) (some 93) rfl rfl rfl ?q2_4 ?h2_4; (case q2_4 => (intro w' hS; obtain ⟨s1, s2, s3⟩ := hS; first | (go_simp; done) | (go_simp; rfl))); (try simp only [Act.put, List.setIfInBounds_toArray, List.set_cons_zero, List.set_cons_succ])
    refine perm_q (v := ?v2_6) (some 95) rfl rfl rfl ?q2_6 ?h2_6; (case q2_6 => (intro w' hS; obtain ⟨s1, s2, s3⟩ := hS; first | (go_simp; done) | (go_simp; rfl))); (try simp only [Act.put, List.setIfInBounds_toArray, List.set_cons_zero, List.set_cons_succ])
    refine perm_q (v := ?v2_7) (some 96) rfl rfl rfl ?q2_7 ?h2_7; (case q2_7 => (intro w' hS; obtain ⟨s1, s2, s3⟩ := hS; first | (go_simp; done) | (go_simp; rfl))); (try simp only [Act.put, List.setIfInBounds_toArray, List.set_cons_zero, List.set_cons_succ])
    refine perm_e rfl ?_   -- 5: call t89(t93)
    go_wp2_with (go_at_call 67; go_must (refine Hrun.out.mono ?_; rintro e w2 ⟨X2, wv2, av2, ht2, hc2, he⟩; dsimp only [res67] at he hc2 ht2; obtain ⟨hw2, ho2, rfl⟩ := he))
    have hb3 := Hfar.out.blk (w := w1.drew) ht2 Hb2.out
    refine ⟨⟨(blk_cell hb3 1).trans rfl, (blk_cell hb3 2).trans rfl, ?_⟩, ?_⟩
    · have := (ht2.ints Hw1.out Hx1.out).cellAt (k := 0) (by simp)
      simpa using this
    have H1 := Lib.hid (H0.out.next (k := 0) (by simp) Hr.out hv0 (by simp) Hg0.out.1.inv ht2 hw2 ho2)
    have Hev := Lib.hid (evalR_loop (r := ⟨6, n, [q0]⟩) (show (6 : Int) ≠ 3 by decide) H1.out.end_)
    clear hw2 ho2 ht2 hc2 hb3
    refine perm_q (v := ?v2_8) (some 97) rfl rfl rfl ?q2_8 ?h2_8; (case q2_8 => (intro w' hS; obtain ⟨s1, s2, s3⟩ := hS; first | (go_simp; done) | (go_simp; rfl))); (try simp only [Act.put, List.setIfInBounds_toArray, List.set_cons_zero, List.set_cons_succ])
    refine perm_q (v := ?v2_9) (some 98) rfl rfl rfl ?q2_9 ?h2_9; (case q2_9 => (intro w' hS; obtain ⟨s1, s2, s3⟩ := hS; first | (go_simp; done) | (go_simp; rfl))); (try simp only [Act.put, List.setIfInBounds_toArray, List.set_cons_zero, List.set_cons_succ])
    refine perm_q (v := ?v2_10) (some 99) rfl rfl rfl ?q2_10 ?h2_10; (case q2_10 => (intro w' hS; obtain ⟨s1, s2, s3⟩ := hS; first | (go_simp; done) | (go_simp; rfl))); (try simp only [Act.put, List.setIfInBounds_toArray, List.set_cons_zero, List.set_cons_succ])
    refine perm_q (v := ?v2_11) (some 4) rfl rfl rfl ?q2_11 ?h2_11; (case q2_11 => (intro w' hS; obtain ⟨s1, s2, s3⟩ := hS; first | (go_simp; done) | (go_simp; rfl))); (try simp only [Act.put, List.setIfInBounds_toArray, List.set_cons_zero, List.set_cons_succ])
    refine perm_nil ?_
    clear hwr
    go_wp2
    all_goals go_ret
    all_goals
      refine H1.out.works Hk2.out ?_
      rw [← HRR.out, Hev.out]
      exact Prod.ext rfl (congrArg Except.ok (Prod.ext (show min (max (v0 + n) 0) 1048576 = _ by omega) rfl))

set_option maxHeartbeats 1000000 in
/-- RuPick. -/
theorem answer_pick {E : Env} {on : List Int} {ask : AskFn} (IH : AskOK E on ask) (hG : QM.Good E on ask) (w : World) (X : Nat → Prop) (ab eb ib mb ob ga gk : Nat) (s : PS) (wv av asv : Value) (n : Int) (asks : List Int)
    (hw : WW w X ab eb ib mb ob ga gk E s wv [] av) (ho : OpenX w ob on) (hi : PInv E on s) (hrk : ROk E.rules.length ⟨3, n, asks⟩) (hx : IntsX w X asv asks) (hl1 : 2 ≤ asks.length) (hl2 : asks.length ≤ 12) :
    Calls Tryd.prog 66 #[.agg #[.int .i64 3, .int .i64 n, asv], .func (.func 67) #[] #[.pointer (some ⟨gk, 0, none⟩), .pointer (some ⟨ga, 0, none⟩)]] w
      (Works w X ab eb ib mb ob ga gk E on wv av [] (evalR ask s ⟨3, n, asks⟩)) := by
  generalize hRR : evalR ask s ⟨3, n, asks⟩ = RR
  have HRR := Lib.hid hRR
  obtain ⟨A, c, rfl, hcc, hcell⟩ := id hx
  obtain ⟨b, o, rfl, _, hc0⟩ := hcell 0 (by omega)
  have Hx := Lib.hid hx
  have Hw := Lib.hid hw
  have Ho := Lib.hid ho
  have Hi := Lib.hid hi
  have Hrk := Lib.hid hrk
  have h0 := (pick_mem (E := E) (v := 0) hrk rfl (by decide)).2
  clear hRR hx hw ho hi hcell hc0 hrk
  obtain ⟨q0, Hq0⟩ : ∃ q, Hid (asks.getD 0 0 = q) := ⟨_, rfl⟩
  dsimp only at h0
  rw [Hq0.out] at h0
  go_enter Tryd.func66, Tryd.ntmps66
  go_wp2_with ((with_reducible refine at_dst (N := 2) rfl ?_); go_must (refine ev_box (cs := #[.int .i64 3, .int .i64 n, .slice (some ⟨b, o, none⟩) asks.length c]) rfl rfl rfl ?_; intro g2 w1 hg2 hl2 hb2 hk2); have Hb2 := Lib.hid hb2; have f0 := blk_cell hb2 0; have f2 := blk_cell hb2 2; have fq := (Hx.out.keep hk2 (X' := X) (fun _ _ _ h => h) (fun _ _ h => h)).cellAt (k := 0) (by omega); rw [Hq0.out] at fq; simp only [Nat.add_zero] at fq; clear hb2; (try simp only [Act.put, List.setIfInBounds_toArray, List.set_cons_zero, List.set_cons_succ]))
  have Hfar := Lib.hid (Hw.out.far hg2 (by assumption))
  have Hw1 := Lib.hid (Hw.out.keep hk2)
  have Ho1 := Lib.hid (Ho.out.keep hk2 id)
  have Hx1 := Lib.hid (Hx.out.keep hk2 (X' := X) (fun _ _ _ h => h) (fun _ _ h => h))
  have Hk2 := Lib.hid hk2
  clear f0 f2 fq hk2
  have hg0 := hG s q0 Hi.out h0
  rcases hr : ask s q0 with ⟨s1, r1⟩
  have Hrun := Lib.hid (step_any IH Hw1.out Ho1.out Hi.out h0 (by simp) hr)
  rw [hr] at hg0
  have Hg0 := Lib.hid hg0
  have Hr := Lib.hid hr
  clear hg0 hr
  cases r1 with
  | error x =>
    refine Hrun.out.mono ?_
    rintro e w2 ⟨X', wv', av', ht', hc', he⟩
    dsimp only [res67] at he hc' ht'
    subst he
    refine ⟨rfl, X', wv', av', WT.after Hk2.out ht', ?_⟩
    rw [← HRR.out, show evalR ask s ⟨3, n, asks⟩ = (s1, .error x) by unfold evalR; rw [if_pos rfl]; dsimp only; rw [Hq0.out, Hr.out]]
    exact ⟨hc', rfl⟩
  | ok y =>
    obtain ⟨v0, ch⟩ := y
    have hv0 := Hg0.out.2 v0 ch rfl
    refine Hrun.out.mono ?_
    rintro e w2 ⟨X2, wv2, av2, ht2, hc2, he⟩
    dsimp only [res67] at he hc2 ht2
    obtain ⟨hw2, ho2, rfl⟩ := he
    have Hi1 := Lib.hid Hg0.out.1.inv
    have hb3 := Hfar.out.blk ht2 Hb2.out
    have Hfar2 := Lib.hid (Hfar.out.step ht2)
    have Hb3 := Lib.hid hb3
    have hpk := (pick_mem (E := E) (v := v0) Hrk.out rfl hv0.1).1
    have hpos : 0 < (asks.length : Int) - 1 := by omega
    have a1 := Int.emod_nonneg v0 (show (asks.length : Int) - 1 ≠ 0 by omega)
    have a2 := Int.emod_lt_of_pos v0 hpos
    obtain ⟨j, hj⟩ := Int.eq_ofNat_of_zero_le a1
    have hjl : j + 1 < asks.length := by omega
    have hpe : pickOf ⟨3, n, asks⟩ v0 = asks.getD (1 + j) 0 := by
      show asks.getD (1 + v0 % ((asks.length : Int) - 1)).toNat 0 = _
      rw [hj, show (1 + (j : Int)).toNat = 1 + j by omega]
    obtain ⟨q1, Hq1⟩ : ∃ q, Hid (asks.getD (1 + j) 0 = q) := ⟨_, rfl⟩
    rw [hpe, Hq1.out] at hpk
    have Hpe := Lib.hid (hpe.trans Hq1.out)
    have Hj := Lib.hid hj
    have Hw2 := Lib.hid hw2
    have Ho2 := Lib.hid ho2
    have Ht2 := Lib.hid ht2
    have f1 := blk_cell hb3 2
    simp only [List.getElem?_toArray, List.getElem?_cons_zero, List.getElem?_cons_succ] at f1
    clear hb3 hw2 ho2 ht2 hc2 hj hpe a1 a2
    have fq1 := (Ht2.out.ints Hw1.out Hx1.out).cellAt (k := 1 + j) (by omega)
    rw [Hq1.out] at fq1
    go_wp2_with fail
    have hA : IntKind.i64.wrap ((asks.length : Int) - 1) = (asks.length : Int) - 1 := IntWalk.i64_in _ (by omega)
    have hB : v0.tmod ((asks.length : Int) - 1) = (j : Int) := by rw [Int.tmod_eq_emod_of_nonneg hv0.1]; exact Hj.out
    have hC : IntKind.i64.wrap (1 + (j : Int)) = 1 + (j : Int) := IntWalk.i64_in _ (by omega)
    have hD : IntKind.i64.wrap (j : Int) = (j : Int) := IntWalk.i64_in _ (by omega)
    have hE : (1 + (j : Int)).toNat = 1 + j := by omega
    have hF : ¬ (asks.length : Int) - 1 = 0 := by omega
    have hG1 : 1 + (j : Int) < (asks.length : Int) := by omega
    have hG2 : (0 : Int) ≤ 1 + (j : Int) := by omega
    have hkd : Keeps Nob w2 w2.drew := (Keeps.refl Nob w2).drew
    have hg1 := hG s1 q1 Hi1.out hpk
    rcases hr : ask s1 q1 with ⟨s3, r3⟩
    have Hrun2 := Lib.hid (step_any IH (Hw2.out.keep hkd) (Ho2.out.keep hkd id) Hi1.out hpk (by simp) hr)
    rw [hr] at hg1
    have Hg1 := Lib.hid hg1
    have Hr2 := Lib.hid hr
    have Hkd := Lib.hid hkd
    clear hg1 hr hkd
    cases r3 with
    | error x =>
      refine wp_region_perm [(0, true), (1, true), (2, true), (3, true), (4, true), (5, true), (6, true), (7, true), (8, true), (9, true), (10, true), (11, true), (12, false), (13, true)] (fun w' => w'.cell? ⟨g2, 2, none⟩ = some (.slice (some ⟨b, o, none⟩) asks.length c) ∧ w'.cell? ⟨b, o + (1 + j), none⟩ = some (.int .i64 q1)) rfl (by kernel_rfl) (by kernel_rfl) (by decide) (fun c a d v w h => by cases d <;> exact h) ⟨f1, fq1⟩ ?_
      refine perm_q (v := ?v3_0) (some 43) rfl rfl rfl ?q3_0 ?h3_0; (case q3_0 => (intro w' hS; obtain ⟨s1, s2⟩ := hS; first | (go_simp; done) | (go_simp; rfl))); (try simp only [Act.put, List.setIfInBounds_toArray, List.set_cons_zero, List.set_cons_succ])
      refine perm_q (v := ?v3_1) (some 44) rfl rfl rfl ?q3_1 ?h3_1; (case q3_1 => (intro w' hS; obtain ⟨s1, s2⟩ := hS; first | (go_simp; done) | (go_simp; rfl))); (try simp only [Act.put, List.setIfInBounds_toArray, List.set_cons_zero, List.set_cons_succ])
      refine perm_q (v := ?v3_2) (some 45) rfl rfl rfl ?q3_2 ?h3_2; (case q3_2 => (intro w' hS; obtain ⟨s1, s2⟩ := hS; first | (go_simp; done) | (go_simp; rfl))); (try simp only [Act.put, List.setIfInBounds_toArray, List.set_cons_zero, List.set_cons_succ])
      refine perm_q (v := ?v3_3) (some 46) rfl rfl rfl ?q3_3 ?h3_3; (case q3_3 => (intro w' hS; obtain ⟨s1, s2⟩ := hS; first | (go_simp; done) | (go_simp; rfl))); (try simp only [Act.put, List.setIfInBounds_toArray, List.set_cons_zero, List.set_cons_succ])
      refine perm_q (v := ?v3_4) (some 47) rfl rfl rfl ?q3_4 ?h3_4; (case q3_4 => (intro w' hS; obtain ⟨s1, s2⟩ := hS; first | (go_simp; done) | (go_simp; rfl))); (try simp only [Act.put, List.setIfInBounds_toArray, List.set_cons_zero, List.set_cons_succ])
      refine perm_q (v := ?v3_5) (some 48) rfl rfl rfl ?q3_5 ?h3_5; (case q3_5 => (intro w' hS; obtain ⟨s1, s2⟩ := hS; first | (go_simp; done) | (go_simp; rfl))); (try simp only [Act.put, List.setIfInBounds_toArray, List.set_cons_zero, List.set_cons_succ])
      refine perm_q (v := ?v3_6) (some 49) rfl rfl rfl ?q3_6 ?h3_6; (case q3_6 => (intro w' hS; obtain ⟨s1, s2⟩ := hS; first | (go_simp; done) | (go_simp; rfl))); (try simp only [Act.put, List.setIfInBounds_toArray, List.set_cons_zero, List.set_cons_succ])
      refine perm_q (v := ?v3_7) (some 50) rfl rfl rfl ?q3_7 ?h3_7; (case q3_7 => (intro w' hS; obtain ⟨s1, s2⟩ := hS; first | (go_simp; done) | (go_simp; rfl))); (try simp only [Act.put, List.setIfInBounds_toArray, List.set_cons_zero, List.set_cons_succ])
      refine perm_q (v := ?v3_8) (some 51) rfl rfl rfl ?q3_8 ?h3_8; (case q3_8 => (intro w' hS; obtain ⟨s1, s2⟩ := hS; first | (go_simp; done) | (go_simp; rfl))); (try simp only [Act.put, List.setIfInBounds_toArray, List.set_cons_zero, List.set_cons_succ])
      refine perm_q (v := ?v3_9) (some 52) rfl rfl rfl ?q3_9 ?h3_9; (case q3_9 => (intro w' hS; obtain ⟨s1, s2⟩ := hS; first | (go_simp; done) | (go_simp; rfl))); (try simp only [Act.put, List.setIfInBounds_toArray, List.set_cons_zero, List.set_cons_succ])
      refine perm_q (v := ?v3_10) (some 53) rfl rfl rfl ?q3_10 ?h3_10; (case q3_10 => (intro w' hS; obtain ⟨s1, s2⟩ := hS; first | (go_simp; done) | (go_simp; rfl))); (try simp only [Act.put, List.setIfInBounds_toArray, List.set_cons_zero, List.set_cons_succ])
      refine perm_q (v := ?v3_11) (some 54) rfl rfl rfl ?q3_11 ?h3_11; (case q3_11 => (intro w' hS; obtain ⟨s1, s2⟩ := hS; first | (go_simp; done) | (go_simp; rfl))); (try simp only [Act.put, List.setIfInBounds_toArray, List.set_cons_zero, List.set_cons_succ])
      refine perm_e rfl ?_   -- 12: call t43(t54)
      go_wp2_with (go_at_call 67; go_must (refine Hrun2.out.mono ?_; rintro e w3 ⟨X', wv', av', ht', hc', he⟩; dsimp only [res67] at he hc' ht'; subst he))
      refine ⟨rfl, X', wv', av', WT.after Hk2.out (Ht2.out.trans (WT.after Hkd.out ht')), ?_⟩
      rw [← HRR.out, show evalR ask s ⟨3, n, asks⟩ = (s3, .error x) by unfold evalR; rw [if_pos rfl]; dsimp only; rw [Hq0.out, Hr.out]; dsimp only; rw [Hpe.out, Hr2.out]]
      exact ⟨hc', rfl⟩
    | ok y =>
      obtain ⟨v1, ch1⟩ := y
      refine wp_region_perm [(0, true), (1, true), (2, true), (3, true), (4, true), (5, true), (6, true), (7, true), (8, true), (9, true), (10, true), (11, true), (12, false), (13, true)] (fun w' => w'.cell? ⟨g2, 2, none⟩ = some (.slice (some ⟨b, o, none⟩) asks.length c) ∧ w'.cell? ⟨b, o + (1 + j), none⟩ = some (.int .i64 q1)) rfl (by kernel_rfl) (by kernel_rfl) (by decide) (fun c a d v w h => by cases d <;> exact h) ⟨f1, fq1⟩ ?_
      refine perm_q (v := ?v4_0) (some 43) rfl rfl rfl ?q4_0 ?h4_0; (case q4_0 => (intro w' hS; obtain ⟨s1, s2⟩ := hS; first | (go_simp; done) | (go_simp; rfl))); (try simp only [Act.put, List.setIfInBounds_toArray, List.set_cons_zero, List.set_cons_succ])
      refine perm_q (v := ?v4_1) (some 44) rfl rfl rfl ?q4_1 ?h4_1; (case q4_1 => (intro w' hS; obtain ⟨s1, s2⟩ := hS; first | (go_simp; done) | (go_simp; rfl))); (try simp only [Act.put, List.setIfInBounds_toArray, List.set_cons_zero, List.set_cons_succ])
      refine perm_q (v := ?v4_2) (some 45) rfl rfl rfl ?q4_2 ?h4_2; (case q4_2 => (intro w' hS; obtain ⟨s1, s2⟩ := hS; first | (go_simp; done) | (go_simp; rfl))); (try simp only [Act.put, List.setIfInBounds_toArray, List.set_cons_zero, List.set_cons_succ])
      refine perm_q (v := ?v4_3) (some 46) rfl rfl rfl ?q4_3 ?h4_3; (case q4_3 => (intro w' hS; obtain ⟨s1, s2⟩ := hS; first | (go_simp; done) | (go_simp; rfl))); (try simp only [Act.put, List.setIfInBounds_toArray, List.set_cons_zero, List.set_cons_succ])
      refine perm_q (v := ?v4_4) (some 47) rfl rfl rfl ?q4_4 ?h4_4; (case q4_4 => (intro w' hS; obtain ⟨s1, s2⟩ := hS; first | (go_simp; done) | (go_simp; rfl))); (try simp only [Act.put, List.setIfInBounds_toArray, List.set_cons_zero, List.set_cons_succ])
      refine perm_q (v := ?v4_5) (some 48) rfl rfl rfl ?q4_5 ?h4_5; (case q4_5 => (intro w' hS; obtain ⟨s1, s2⟩ := hS; first | (go_simp; done) | (go_simp; rfl))); (try simp only [Act.put, List.setIfInBounds_toArray, List.set_cons_zero, List.set_cons_succ])
      refine perm_q (v := ?v4_6) (some 49) rfl rfl rfl ?q4_6 ?h4_6; (case q4_6 => (intro w' hS; obtain ⟨s1, s2⟩ := hS; first | (go_simp; done) | (go_simp; rfl))); (try simp only [Act.put, List.setIfInBounds_toArray, List.set_cons_zero, List.set_cons_succ])
      refine perm_q (v := ?v4_7) (some 50) rfl rfl rfl ?q4_7 ?h4_7; (case q4_7 => (intro w' hS; obtain ⟨s1, s2⟩ := hS; first | (go_simp; done) | (go_simp; rfl))); (try simp only [Act.put, List.setIfInBounds_toArray, List.set_cons_zero, List.set_cons_succ])
      refine perm_q (v := ?v4_8) (some 51) rfl rfl rfl ?q4_8 ?h4_8; (case q4_8 => (intro w' hS; obtain ⟨s1, s2⟩ := hS; first | (go_simp; done) | (go_simp; rfl))); (try simp only [Act.put, List.setIfInBounds_toArray, List.set_cons_zero, List.set_cons_succ])
      refine perm_q (v := ?v4_9) (some 52) rfl rfl rfl ?q4_9 ?h4_9; (case q4_9 => (intro w' hS; obtain ⟨s1, s2⟩ := hS; first | (go_simp; done) | (go_simp; rfl))); (try simp only [Act.put, List.setIfInBounds_toArray, List.set_cons_zero, List.set_cons_succ])
      refine perm_q (v := ?v4_10) (some 53) rfl rfl rfl ?q4_10 ?h4_10; (case q4_10 => (intro w' hS; obtain ⟨s1, s2⟩ := hS; first | (go_simp; done) | (go_simp; rfl))); (try simp only [Act.put, List.setIfInBounds_toArray, List.set_cons_zero, List.set_cons_succ])
      refine perm_q (v := ?v4_11) (some 54) rfl rfl rfl ?q4_11 ?h4_11; (case q4_11 => (intro w' hS; obtain ⟨s1, s2⟩ := hS; first | (go_simp; done) | (go_simp; rfl))); (try simp only [Act.put, List.setIfInBounds_toArray, List.set_cons_zero, List.set_cons_succ])
      refine perm_e rfl ?_   -- 12: call t43(t54)
      go_wp2_with (go_at_call 67; go_must (refine Hrun2.out.mono ?_; rintro e w3 ⟨X3, wv3, av3, ht3, hc3, he⟩; dsimp only [res67] at he hc3 ht3; obtain ⟨hw3, ho3, rfl⟩ := he))
      have ht3' := WT.after Hkd.out ht3
      refine ⟨⟨(blk_cell (Hfar2.out.blk ht3' Hb3.out) 2).trans rfl, ?_⟩, ?_⟩
      · have := (ht3'.ints Hw2.out (Ht2.out.ints Hw1.out Hx1.out)).cellAt (k := 1 + j) (by omega)
        rw [Hq1.out] at this
        exact this
      refine perm_q (v := ?v4_13) (some 4) rfl rfl rfl ?q4_13 ?h4_13; (case q4_13 => (intro w' hS; obtain ⟨s1, s2⟩ := hS; first | (go_simp; done) | (go_simp; rfl))); (try simp only [Act.put, List.setIfInBounds_toArray, List.set_cons_zero, List.set_cons_succ])
      refine perm_nil ?_
      have Hfin : Hid (Works w X ab eb ib mb ob ga gk E on wv av [] RR (.returned (.int .i64 v1)) w3) := Lib.hid (by
        refine ⟨X3, wv3, av3, WT.after Hk2.out (Ht2.out.trans ht3'), ?_⟩
        rw [← HRR.out, show evalR ask s ⟨3, n, asks⟩ = (s3, .ok (v1, [q0, q1])) by unfold evalR; rw [if_pos rfl]; dsimp only; rw [Hq0.out, Hr.out]; dsimp only; rw [Hpe.out, Hr2.out]]
        exact ⟨hc3, hw3, ho3, rfl⟩)
      clear hw3 ho3 ht3 hc3 ht3'
      go_wp2
      go_ret
      exact Hfin.out
end Go.Proofs.QW
