/-
  A call of both engines (act, asked), in memory: they answer alike, and both come to the model's. Condition: both lie apart from each other, and are in order.
-/
import Derived.Test.YtohpkolkagddiaaDoorPlays6
import Derived.Test.YtohpkolkagddiaaDoorRows
import Derived.Lib.LaidTab
import Derived.Test.YtohpkolkagddiaaDoorCards
import Derived.Test.YtohpkolkagddiaaDoorTie
import Derived.WalkKit
import Derived.ProofKit
import Derived.OpenShut
import Derived.Deep.DeepHandedRow
import Derived.ChangeSlices
import Derived.ChangeArms
import Derived.Carry
namespace Go.Proofs.QW
open Go.RowKit Go.Proofs.KL Go.Proofs.QM
set_option maxRecDepth 100000
set_option linter.unusedSimpArgs false
set_option linter.unusedVariables false

/-- Both engines, at the same state of the model. -/
structure Both (base : Nat) (w : World) (Xp : Nat → Prop) (eb ib mb : Nat) (X : Nat → Prop) (wb sb hb kb nb : Nat) (dv : Value) (E : Env) (ans : List (Option KeptR)) : Prop where
  eng : EngAt w Xp eb ib mb E ans
  ref : RefAt w X wb sb hb kb nb E ans dv
  xp : ∀ k, Xp k → k < w.heap.size
  be : base ≤ eb ∧ base ≤ ib ∧ base ≤ mb
  bw : ∀ k, MAll wb sb hb kb nb dv k → base ≤ k
  dis : ∀ k, (k = eb ∨ k = ib ∨ k = mb ∨ Xp k) → ¬ RefB wb sb hb kb nb dv X k
section
variable {base : Nat} {w w1 w2 : World} {Xp Xp' X X' : Nat → Prop} {eb ib mb wb sb hb kb nb : Nat} {dv dv' : Value} {E E' : Env} {ans ans' : List (Option KeptR)} {M : Nat → Prop}
theorem MAll.ref {k : Nat} (h : MAll wb sb hb kb nb dv k) : RefB wb sb hb kb nb dv X k := by
  rcases h with h | h | h | h | h | h
  · exact .inl h
  · exact .inr (.inl h)
  · exact .inr (.inr (.inl h))
  · exact .inr (.inr (.inr (.inl h)))
  · exact .inr (.inr (.inr (.inr (.inl h))))
  · exact .inr (.inr (.inr (.inr (.inr (.inl h)))))
theorem Both.after (h : Both base w Xp eb ib mb X wb sb hb kb nb dv E ans) (hk : Keeps Nob w w1) : Both base w1 Xp eb ib mb X wb sb hb kb nb dv E ans :=
  ⟨h.eng.after hk, h.ref.after hk, fun k hx => Nat.lt_of_lt_of_le (h.xp k hx) hk.size, h.be, h.bw, h.dis⟩
theorem Both.mid (h : Both base w Xp eb ib mb X wb sb hb kb nb dv E ans) (hk : Keeps M w w1) (hM : ∀ i, M i → i = eb ∨ i = ib ∨ i = mb) : RefAt w1 X wb sb hb kb nb E ans dv :=
  h.ref.keep hk (fun k _ hm => h.dis k (by rcases hM k hm with e | e | e; exact .inl e; exact .inr (.inl e); exact .inr (.inr (.inl e))))
theorem Both.step (h : Both base w Xp eb ib mb X wb sb hb kb nb dv E ans) (hk : Keeps M w w1) (hM : ∀ i, M i → i = eb ∨ i = ib ∨ i = mb) (he : EngAt w1 Xp' eb ib mb E' ans') (hxx : ∀ b, b < w.heap.size → (Xp' b ↔ Xp b)) (hxl : ∀ b, Xp' b → b < w1.heap.size)
    (hl : RefLeft w1 X wb sb hb kb nb dv w2 X' dv') (hr : RefAt w2 X' wb sb hb kb nb E' ans' dv') (hb0 : base ≤ w.heap.size) :
    Both base w2 Xp' eb ib mb X' wb sb hb kb nb dv' E' ans' ∧ Keeps (fun k => base ≤ k) w w2 := by
  have hfp := h.ref.fp_lt
  have l := h.eng.lts
  have z := hk.size
  have key : ∀ k, (k = eb ∨ k = ib ∨ k = mb ∨ Xp' k) → k < w1.heap.size ∧ ¬ RefB wb sb hb kb nb dv X k := fun k hk' => by
    rcases Nat.lt_or_ge k w.heap.size with hlt | hge
    · refine ⟨by omega, h.dis k ?_⟩
      rcases hk' with e | e | e | e
      · exact .inl e
      · exact .inr (.inl e)
      · exact .inr (.inr (.inl e))
      · exact .inr (.inr (.inr ((hxx k hlt).1 e)))
    · refine ⟨?_, fun hm => by have := hfp k hm; omega⟩
      rcases hk' with e | e | e | e
      · omega
      · omega
      · omega
      · exact hxl k e
  have key2 : ∀ k, (k = eb ∨ k = ib ∨ k = mb ∨ Xp' k) → ¬ MAll wb sb hb kb nb dv k := fun k hk' hm => (key k hk').2 hm.ref
  refine ⟨⟨?_, hr, fun k hx => Nat.lt_of_lt_of_le (hxl k hx) hl.keep.size, h.be, fun k hm => ?_, fun k hk' hm => ?_⟩, ?_⟩
  · exact he.keep hl.keep (key2 eb (.inl rfl)) (key2 ib (.inr (.inl rfl))) (key2 mb (.inr (.inr (.inl rfl)))) (fun b _ hx => key2 b (.inr (.inr (.inr hx)))) (fun _ _ => Iff.rfl)
  · rcases hm with e | e | e | e | e | e
    · exact h.bw k (.inl e)
    · exact h.bw k (.inr (.inl e))
    · exact h.bw k (.inr (.inr (.inl e)))
    · exact h.bw k (.inr (.inr (.inr (.inl e))))
    · exact h.bw k (.inr (.inr (.inr (.inr (.inl e)))))
    · rcases hl.row k e.symm with e | e
      · exact h.bw k (.inr (.inr (.inr (.inr (.inr e.symm)))))
      · omega
  · obtain ⟨h1, h2⟩ := key k hk'
    rcases hm with e | e | e | e | e | e | e
    · exact h2 (.inl e)
    · exact h2 (.inr (.inl e))
    · exact h2 (.inr (.inr (.inl e)))
    · exact h2 (.inr (.inr (.inr (.inl e))))
    · exact h2 (.inr (.inr (.inr (.inr (.inl e)))))
    · rcases hl.row k e.symm with e | e
      · exact h2 (.inr (.inr (.inr (.inr (.inr (.inl e.symm))))))
      · omega
    · exact h2 (.inr (.inr (.inr (.inr (.inr (.inr ((hl.xx k h1).1 e)))))))
  · refine (hk.mono (M' := fun k => base ≤ k) (fun i _ hm => ?_)).trans hl.keep (fun i _ hm => h.bw i hm)
    have := h.be
    rcases hM i hm with e | e | e <;> (rw [e]; omega)
end
/-- What a call of both leaves. -/
def BothOut (base : Nat) (w : World) (eb ib mb wb sb hb kb nb : Nat) (E : Env) (ans : List (Option KeptR)) (e : Ending) (w' : World) : Prop :=
  e = .returned (.bool true) ∧ ∃ Xp X dv, Both base w' Xp eb ib mb X wb sb hb kb nb dv E ans ∧ Keeps (fun k => base ≤ k) w w'
theorem askF_worked {rs : List QRule} {n : Int} {E : Env} {ans : List (Option KeptR)} (hS : SInv rs n (E, ans)) (q most : Int) (hm : most ≤ 9223372036854775807) : (askR E ans q most).worked.length ≤ 200 := by
  have h200 : E.rules.length ≤ 200 := hS.ok.len
  unfold askR
  by_cases hq : isErr E.rules.length q ≠ 0
  · rw [if_pos hq]; exact Nat.zero_le _
  · rw [if_neg hq]
    by_cases hneg : most < 0
    · rw [if_pos hneg]; exact Nat.zero_le _
    · rw [if_neg hneg]
      have h := (askF_good (hS.env (m := most) (by omega) hm) (E.rules.length + 1) [] ⟨ans, []⟩ q (hS.pinv (by omega)) (isErr_in hq)).1.inv.dlen
      have h' : (askF (Env.bound E most) (E.rules.length + 1) [] ⟨ans, []⟩ q).1.done.length ≤ E.rules.length := h
      show (askF (Env.bound E most) (E.rules.length + 1) [] ⟨ans, []⟩ q).1.done.length ≤ 200
      omega
set_option maxHeartbeats 4000000 in
/-- ASKED, of both. -/
theorem asked_both {rs : List QRule} {n : Int} {base : Nat} {E : Env} {ans : List (Option KeptR)} (hS : SInv rs n (E, ans)) (w : World) (Xp : Nat → Prop) (eb ib mb : Nat) (X : Nat → Prop) (wb sb hb kb nb : Nat) (dv : Value) (q most : Int) (hm : most ≤ 9223372036854775807)
    (h : Both base w Xp eb ib mb X wb sb hb kb nb dv E ans) (hb0 : base ≤ w.heap.size) :
    Calls Tryd.prog 47 #[.pointer (some ⟨eb, 0, none⟩), .pointer (some ⟨wb, 0, none⟩), .int .i64 q, .int .i64 most] w (BothOut base w eb ib mb wb sb hb kb nb E (askR E ans q most).ans) := by
  have hwl := askF_worked hS q most hm
  have HS := Lib.hid hS
  have H := Lib.hid h
  have Hrun := Lib.hid (AskR_any hS w Xp eb ib mb q most hm h.eng h.xp)
  have Href := Lib.hid (fun (w1 : World) (h1 : RefAt w1 X wb sb hb kb nb E ans dv) => RefAsk_any hS w1 X wb sb hb kb nb dv q most hm h1)
  generalize askR E ans q most = r at *
  obtain ⟨ra, rw_, rv, re⟩ := r
  simp only at hwl
  have hwl2 : rw_.length ≤ 1000000 := by omega
  have e1 : (re == re) = true := by simp
  have e2 : (rv == rv) = true := by simp
  clear hS h hwl
  go_enter Tryd.func47, Tryd.ntmps47
  go_wp2_with (first
    | (go_at_call 18; go_must (refine Hrun.out.mono ?_; rintro e w1 ⟨Xp1, wl, rfl, hx1, hxl1, hk1, he1, hw1, how1⟩; obtain ⟨wA, wc, rfl⟩ := own_slice hw1)
       have Hx1 := Lib.hid (And.intro hx1 hxl1)
       have HK1 := Lib.hid hk1
       have He1 := Lib.hid he1
       go_must (have HW1 := Lib.hid (IntsX.own (xs := rw_) hw1 (fun b => w.heap.size ≤ b ∧ b < w1.heap.size) (fun b hb => ⟨(how1 b hb.symm).1, (own_lt hw1 b hb.symm).1⟩)))
       go_must (have Hr1 := Lib.hid (H.out.mid hk1 (fun i hi => .inr (.inr hi))))
       clear hx1 hxl1 hk1 he1 hw1 how1
       (try simp only [Act.put, List.setIfInBounds_toArray, List.set_cons_zero, List.set_cons_succ]))
    | (go_at_call 62; go_must (refine (Href.out w1 Hr1.out).mono ?_; rintro e w2 ⟨X2, dv2, wl2, rfl, hl2, hr2, hw2⟩; obtain ⟨wB, wd, rfl, -, -⟩ := id hw2)
       have Hl2 := Lib.hid hl2
       have Hr2 := Lib.hid hr2
       have HW2 := Lib.hid hw2
       go_must (have HW12 := Lib.hid (HW1.out.keep (X' := fun _ => True) hl2.keep (fun b _ hx hm => by have h1 := Hr1.out.fp_lt b (MAll.ref hm); have h2 := H.out.ref.fp_lt b (MAll.ref hm); omega) (fun _ _ _ => trivial)))
       clear hl2 hr2 hw2
       (try simp only [Act.put, List.setIfInBounds_toArray, List.set_cons_zero, List.set_cons_succ]))
    | (go_at_call 32; have hrun := same_any rw_ rw_ _ _ _ _ _ HW12.out HW2.out hwl2; rw [decide_eq_true rfl] at hrun; go_must (refine hrun.mono ?_; rintro e w3 ⟨rfl, hk3⟩); have HK3 := Lib.hid hk3; clear hrun hk3; (try simp only [Act.put, List.setIfInBounds_toArray, List.set_cons_zero, List.set_cons_succ]))
  )
  go_ret
  obtain ⟨hb, hk⟩ := H.out.step HK1.out (fun i hi => .inr (.inr hi)) He1.out Hx1.out.1 Hx1.out.2 Hl2.out Hr2.out hb0
  exact ⟨rfl, Xp1, X2, dv2, hb.after HK3.out, hk.trans HK3.out (fun _ _ h => h.elim)⟩
/-- One call. -/
def stepB (S : State) (a : ActR) : State :=
  if a.kind % 8 < 3 then ((setF S.1 a.q a.v).1, S.2)
  else if a.kind % 8 = 3 then (S.1, (forgetF S.1 S.2 a.q).1)
  else if a.kind % 8 = 4 then (S.1, askS S.1 S.2 a.q a.v)
  else (S.1, askS S.1 S.2 a.q 1000)
theorem SInv.stepB {rs : List QRule} {n : Int} {S : State} (h : SInv rs n S) (a : ActR) (hn : n < 4611686018427387904) (hv : a.v ≤ 9223372036854775807) : SInv rs (n + 1) (stepB S a) := by
  have hup : ∀ {T : State}, SInv rs n T → SInv rs (n + 1) T := fun h => ⟨h.rules, h.ok, by have := h.rev; omega, h.inv, h.his⟩
  unfold QW.stepB
  split
  · exact h.set a.q a.v hn
  split
  · exact hup (h.forget a.q)
  split
  · exact hup (h.ask a.q a.v hv)
  · exact hup (h.ask a.q _ (by decide))
set_option maxHeartbeats 8000000 in
/-- ACT. -/
theorem act_both {rs : List QRule} {n : Int} {base : Nat} {E : Env} {ans : List (Option KeptR)} (hS : SInv rs n (E, ans)) (w : World) (Xp : Nat → Prop) (eb ib mb : Nat) (X : Nat → Prop) (wb sb hb kb nb : Nat) (dv : Value) (d aq av : Int) (kd0 : 0 ≤ d) (kd1 : d ≤ 255) (vmax : av ≤ 9223372036854775807)
    (h : Both base w Xp eb ib mb X wb sb hb kb nb dv E ans) (hb0 : base ≤ w.heap.size) :
    Calls Tryd.prog 26 #[.pointer (some ⟨eb, 0, none⟩), .pointer (some ⟨wb, 0, none⟩), .agg #[.int .u8 d, .int .i64 aq, .int .i64 av]] w (BothOut base w eb ib mb wb sb hb kb nb (stepB (E, ans) ⟨d, aq, av⟩).1 (stepB (E, ans) ⟨d, aq, av⟩).2) := by
  have HS := Lib.hid hS
  have H := Lib.hid h
  have h200 : E.rules.length ≤ 200 := hS.ok.len
  obtain ⟨m, hm⟩ : ∃ m, d % 8 = m := ⟨_, rfl⟩
  have hmr : d.tmod 8 = m := by rw [Int.tmod_eq_emod_of_nonneg kd0]; exact hm
  have hm0 : 0 ≤ m := by omega
  have hm8 : m < 8 := by omega
  have hmw : IntKind.u8.wrap m = m := IntWalk.u8_in _ (by omega)
  have hcase : m = 0 ∨ m = 1 ∨ m = 2 ∨ m = 3 ∨ m = 4 ∨ m = 5 ∨ m = 6 ∨ m = 7 := by omega
  obtain ⟨E1, c1, hst⟩ : ∃ x y, setF E aq av = (x, y) := ⟨_, _, rfl⟩
  obtain ⟨fa, c2, hfo⟩ : ∃ x y, forgetF E ans aq = (x, y) := ⟨_, _, rfl⟩
  have hc1 : (c1 == c1) = true := by simp
  have hc2 : (c2 == c2) = true := by simp
  have Hst := Lib.hid hst
  have Hfo := Lib.hid hfo
  have Hm := Lib.hid hm
  clear hS h hm hst hfo
  rcases hcase with rfl | rfl | rfl | rfl | rfl | rfl | rfl | rfl
  · go_enter Tryd.func26, Tryd.ntmps26
    go_wp2_with (first
      | ((with_reducible refine at_dst (N := 5) rfl ?_); go_must (refine ev_box (cs := #[.int .u8 d, .int .i64 aq, .int .i64 av]) rfl rfl rfl ?_; intro g5 w1 hg5 hl5 hb5 hk1)
         have f0 := (blk_cell hb5 0).trans rfl
         have f1 := (blk_cell hb5 1).trans rfl
         have f2 := (blk_cell hb5 2).trans rfl
         have HK1 := Lib.hid hk1
         have H1 := Lib.hid (H.out.after hk1)
         have Hz1 := Lib.hid (show base ≤ w1.heap.size by have := hk1.size; omega)
         have Hg5 := Lib.hid (show w.heap.size ≤ g5 ∧ ¬ MAll wb sb hb kb nb dv g5 from ⟨hg5, fun hm => by have := H.out.ref.fp_lt g5 hm.ref; omega⟩)
         have Hle := Lib.hid H.out.eng.lts
         clear hb5 hk1 hg5 hl5
         (try simp only [Act.put, List.setIfInBounds_toArray, List.set_cons_zero, List.set_cons_succ]))
    )
    refine wp_region_perm [(0, true), (1, true), (2, true), (3, true), (4, true), (6, true), (7, true), (8, true), (9, true), (10, true), (5, false), (11, false), (12, true), (13, true)] (fun w' => w'.cell? ⟨g5, 1, none⟩ = some (.int .i64 aq) ∧ w'.cell? ⟨g5, 2, none⟩ = some (.int .i64 av)) rfl (by kernel_rfl) (by kernel_rfl) (by decide) (fun c a d v w h => by cases d <;> exact h) ⟨f1, f2⟩ ?_
    refine perm_q (v := ?v1_0) (some 14) rfl rfl rfl ?q1_0 ?h1_0; (case q1_0 => (intro w' hS; obtain ⟨z1, z2⟩ := hS; first | (go_simp; done) | (go_simp; rfl))); (try simp only [Act.put, List.setIfInBounds_toArray, List.set_cons_zero, List.set_cons_succ])
    refine perm_q (v := ?v1_1) (some 15) rfl rfl rfl ?q1_1 ?h1_1; (case q1_1 => (intro w' hS; obtain ⟨z1, z2⟩ := hS; first | (go_simp; done) | (go_simp; rfl))); (try simp only [Act.put, List.setIfInBounds_toArray, List.set_cons_zero, List.set_cons_succ])
    refine perm_q (v := ?v1_2) (some 16) rfl rfl rfl ?q1_2 ?h1_2; (case q1_2 => (intro w' hS; obtain ⟨z1, z2⟩ := hS; first | (go_simp; done) | (go_simp; rfl))); (try simp only [Act.put, List.setIfInBounds_toArray, List.set_cons_zero, List.set_cons_succ])
    refine perm_q (v := ?v1_3) (some 17) rfl rfl rfl ?q1_3 ?h1_3; (case q1_3 => (intro w' hS; obtain ⟨z1, z2⟩ := hS; first | (go_simp; done) | (go_simp; rfl))); (try simp only [Act.put, List.setIfInBounds_toArray, List.set_cons_zero, List.set_cons_succ])
    refine perm_q (v := ?v1_4) (some 18) rfl rfl rfl ?q1_4 ?h1_4; (case q1_4 => (intro w' hS; obtain ⟨z1, z2⟩ := hS; first | (go_simp; done) | (go_simp; rfl))); (try simp only [Act.put, List.setIfInBounds_toArray, List.set_cons_zero, List.set_cons_succ])
    refine perm_q (v := ?v1_6) (some 20) rfl rfl rfl ?q1_6 ?h1_6; (case q1_6 => (intro w' hS; obtain ⟨z1, z2⟩ := hS; first | (go_simp; done) | (go_simp; rfl))); (try simp only [Act.put, List.setIfInBounds_toArray, List.set_cons_zero, List.set_cons_succ])
    refine perm_q (v := ?v1_7) (some 21) rfl rfl rfl ?q1_7 ?h1_7; (case q1_7 => (intro w' hS; obtain ⟨z1, z2⟩ := hS; first | (go_simp; done) | (go_simp; rfl))); (try simp only [Act.put, List.setIfInBounds_toArray, List.set_cons_zero, List.set_cons_succ])
    refine perm_q (v := ?v1_8) (some 22) rfl rfl rfl ?q1_8 ?h1_8; (case q1_8 => (intro w' hS; obtain ⟨z1, z2⟩ := hS; first | (go_simp; done) | (go_simp; rfl))); (try simp only [Act.put, List.setIfInBounds_toArray, List.set_cons_zero, List.set_cons_succ])
    refine perm_q (v := ?v1_9) (some 23) rfl rfl rfl ?q1_9 ?h1_9; (case q1_9 => (intro w' hS; obtain ⟨z1, z2⟩ := hS; first | (go_simp; done) | (go_simp; rfl))); (try simp only [Act.put, List.setIfInBounds_toArray, List.set_cons_zero, List.set_cons_succ])
    refine perm_q (v := ?v1_10) (some 24) rfl rfl rfl ?q1_10 ?h1_10; (case q1_10 => (intro w' hS; obtain ⟨z1, z2⟩ := hS; first | (go_simp; done) | (go_simp; rfl))); (try simp only [Act.put, List.setIfInBounds_toArray, List.set_cons_zero, List.set_cons_succ])
    refine perm_e rfl ?_   -- 5: call F29(t14, t16, t18)
    go_wp2_with (go_at_call 29; go_must (refine (Set_any (HS.out.env (m := 0) (Int.le_refl 0) (by decide)) w1.drew Xp eb ib mb ans aq av ((H1.out.after (Keeps.refl Nob w1).drew).eng.bound 0)).mono ?_; rintro e w2 ⟨rfl, hk2, he2⟩))
    rw [setF_bound, Hst.out] at he2
    rw [setF_bound, Hst.out]
    have HK2 := Lib.hid (show Keeps (fun k => k = eb ∨ k = ib) w1 w2 from (Keeps.refl (fun k => k = eb ∨ k = ib) w1).drew.trans hk2 (fun _ _ h => h))
    have He2 := Lib.hid he2.unbound
    have Hr2 := Lib.hid (H1.out.mid HK2.out (fun i hi => hi.elim .inl (fun h => .inr (.inl h))))
    have hg : ¬ (g5 = eb ∨ g5 = ib) := by have h1 := Hg5.out.1; have h2 := Hle.out; omega
    have f1 := HK2.out.cell f1 hg
    have f2 := HK2.out.cell f2 hg
    (try simp only [Act.put, List.setIfInBounds_toArray, List.set_cons_zero, List.set_cons_succ])
    refine ⟨⟨f1, f2⟩, ?_⟩
    clear hk2 he2 hg
    refine perm_e rfl ?_   -- 11: call F45(t20, t22, t24)
    go_wp2_with (go_at_call 45; go_must (refine (RefPut_any HS.out w2 X wb sb hb kb nb dv aq av Hr2.out).mono ?_; rintro e w3 ⟨rfl, hl3, hr3⟩))
    rw [Hst.out] at hr3
    rw [Hst.out]
    have Hl3 := Lib.hid hl3
    have Hr3 := Lib.hid hr3
    (try simp only [Act.put, List.setIfInBounds_toArray, List.set_cons_zero, List.set_cons_succ])
    refine ⟨⟨hl3.keep.cell f1 Hg5.out.2, hl3.keep.cell f2 Hg5.out.2⟩, ?_⟩
    clear hl3 hr3
    refine perm_q (v := ?v1_12) (some 26) rfl rfl rfl ?q1_12 ?h1_12; (case q1_12 => (intro w' hS; obtain ⟨z1, z2⟩ := hS; first | (go_simp; done) | (go_simp; rfl))); (try simp only [Act.put, List.setIfInBounds_toArray, List.set_cons_zero, List.set_cons_succ])
    refine perm_q (v := ?v1_13) (some 6) rfl rfl rfl ?q1_13 ?h1_13; (case q1_13 => (intro w' hS; obtain ⟨z1, z2⟩ := hS; first | (go_simp; done) | (go_simp; rfl))); (try simp only [Act.put, List.setIfInBounds_toArray, List.set_cons_zero, List.set_cons_succ])
    refine perm_nil ?_
    go_wp2
    go_ret
    obtain ⟨hb, hk⟩ := H1.out.step HK2.out (fun i hi => hi.elim .inl (fun h => .inr (.inl h))) He2.out (fun _ _ => Iff.rfl) (fun b hb => by have h1 := H1.out.xp b hb; have h2 := HK2.out.size; omega) Hl3.out Hr3.out Hz1.out
    have hS2 : stepB (E, ans) ⟨d, aq, av⟩ = (E1, ans) := by unfold stepB; rw [if_pos (by show d % 8 < 3; rw [Hm.out]; decide)]; show ((setF E aq av).1, ans) = _; rw [Hst.out]
    rw [hS2]
    exact ⟨rfl, Xp, X, dv, hb, (HK1.out.mono (fun _ _ h => h.elim)).trans hk (fun _ _ h => h)⟩
  · go_enter Tryd.func26, Tryd.ntmps26
    go_wp2_with (first
      | ((with_reducible refine at_dst (N := 5) rfl ?_); go_must (refine ev_box (cs := #[.int .u8 d, .int .i64 aq, .int .i64 av]) rfl rfl rfl ?_; intro g5 w1 hg5 hl5 hb5 hk1)
         have f0 := (blk_cell hb5 0).trans rfl
         have f1 := (blk_cell hb5 1).trans rfl
         have f2 := (blk_cell hb5 2).trans rfl
         have HK1 := Lib.hid hk1
         have H1 := Lib.hid (H.out.after hk1)
         have Hz1 := Lib.hid (show base ≤ w1.heap.size by have := hk1.size; omega)
         have Hg5 := Lib.hid (show w.heap.size ≤ g5 ∧ ¬ MAll wb sb hb kb nb dv g5 from ⟨hg5, fun hm => by have := H.out.ref.fp_lt g5 hm.ref; omega⟩)
         have Hle := Lib.hid H.out.eng.lts
         clear hb5 hk1 hg5 hl5
         (try simp only [Act.put, List.setIfInBounds_toArray, List.set_cons_zero, List.set_cons_succ]))
    )
    refine wp_region_perm [(0, true), (1, true), (2, true), (3, true), (4, true), (6, true), (7, true), (8, true), (9, true), (10, true), (5, false), (11, false), (12, true), (13, true)] (fun w' => w'.cell? ⟨g5, 1, none⟩ = some (.int .i64 aq) ∧ w'.cell? ⟨g5, 2, none⟩ = some (.int .i64 av)) rfl (by kernel_rfl) (by kernel_rfl) (by decide) (fun c a d v w h => by cases d <;> exact h) ⟨f1, f2⟩ ?_
    refine perm_q (v := ?v2_0) (some 14) rfl rfl rfl ?q2_0 ?h2_0; (case q2_0 => (intro w' hS; obtain ⟨z1, z2⟩ := hS; first | (go_simp; done) | (go_simp; rfl))); (try simp only [Act.put, List.setIfInBounds_toArray, List.set_cons_zero, List.set_cons_succ])
    refine perm_q (v := ?v2_1) (some 15) rfl rfl rfl ?q2_1 ?h2_1; (case q2_1 => (intro w' hS; obtain ⟨z1, z2⟩ := hS; first | (go_simp; done) | (go_simp; rfl))); (try simp only [Act.put, List.setIfInBounds_toArray, List.set_cons_zero, List.set_cons_succ])
    refine perm_q (v := ?v2_2) (some 16) rfl rfl rfl ?q2_2 ?h2_2; (case q2_2 => (intro w' hS; obtain ⟨z1, z2⟩ := hS; first | (go_simp; done) | (go_simp; rfl))); (try simp only [Act.put, List.setIfInBounds_toArray, List.set_cons_zero, List.set_cons_succ])
    refine perm_q (v := ?v2_3) (some 17) rfl rfl rfl ?q2_3 ?h2_3; (case q2_3 => (intro w' hS; obtain ⟨z1, z2⟩ := hS; first | (go_simp; done) | (go_simp; rfl))); (try simp only [Act.put, List.setIfInBounds_toArray, List.set_cons_zero, List.set_cons_succ])
    refine perm_q (v := ?v2_4) (some 18) rfl rfl rfl ?q2_4 ?h2_4; (case q2_4 => (intro w' hS; obtain ⟨z1, z2⟩ := hS; first | (go_simp; done) | (go_simp; rfl))); (try simp only [Act.put, List.setIfInBounds_toArray, List.set_cons_zero, List.set_cons_succ])
    refine perm_q (v := ?v2_6) (some 20) rfl rfl rfl ?q2_6 ?h2_6; (case q2_6 => (intro w' hS; obtain ⟨z1, z2⟩ := hS; first | (go_simp; done) | (go_simp; rfl))); (try simp only [Act.put, List.setIfInBounds_toArray, List.set_cons_zero, List.set_cons_succ])
    refine perm_q (v := ?v2_7) (some 21) rfl rfl rfl ?q2_7 ?h2_7; (case q2_7 => (intro w' hS; obtain ⟨z1, z2⟩ := hS; first | (go_simp; done) | (go_simp; rfl))); (try simp only [Act.put, List.setIfInBounds_toArray, List.set_cons_zero, List.set_cons_succ])
    refine perm_q (v := ?v2_8) (some 22) rfl rfl rfl ?q2_8 ?h2_8; (case q2_8 => (intro w' hS; obtain ⟨z1, z2⟩ := hS; first | (go_simp; done) | (go_simp; rfl))); (try simp only [Act.put, List.setIfInBounds_toArray, List.set_cons_zero, List.set_cons_succ])
    refine perm_q (v := ?v2_9) (some 23) rfl rfl rfl ?q2_9 ?h2_9; (case q2_9 => (intro w' hS; obtain ⟨z1, z2⟩ := hS; first | (go_simp; done) | (go_simp; rfl))); (try simp only [Act.put, List.setIfInBounds_toArray, List.set_cons_zero, List.set_cons_succ])
    refine perm_q (v := ?v2_10) (some 24) rfl rfl rfl ?q2_10 ?h2_10; (case q2_10 => (intro w' hS; obtain ⟨z1, z2⟩ := hS; first | (go_simp; done) | (go_simp; rfl))); (try simp only [Act.put, List.setIfInBounds_toArray, List.set_cons_zero, List.set_cons_succ])
    refine perm_e rfl ?_   -- 5: call F29(t14, t16, t18)
    go_wp2_with (go_at_call 29; go_must (refine (Set_any (HS.out.env (m := 0) (Int.le_refl 0) (by decide)) w1.drew Xp eb ib mb ans aq av ((H1.out.after (Keeps.refl Nob w1).drew).eng.bound 0)).mono ?_; rintro e w2 ⟨rfl, hk2, he2⟩))
    rw [setF_bound, Hst.out] at he2
    rw [setF_bound, Hst.out]
    have HK2 := Lib.hid (show Keeps (fun k => k = eb ∨ k = ib) w1 w2 from (Keeps.refl (fun k => k = eb ∨ k = ib) w1).drew.trans hk2 (fun _ _ h => h))
    have He2 := Lib.hid he2.unbound
    have Hr2 := Lib.hid (H1.out.mid HK2.out (fun i hi => hi.elim .inl (fun h => .inr (.inl h))))
    have hg : ¬ (g5 = eb ∨ g5 = ib) := by have h1 := Hg5.out.1; have h2 := Hle.out; omega
    have f1 := HK2.out.cell f1 hg
    have f2 := HK2.out.cell f2 hg
    (try simp only [Act.put, List.setIfInBounds_toArray, List.set_cons_zero, List.set_cons_succ])
    refine ⟨⟨f1, f2⟩, ?_⟩
    clear hk2 he2 hg
    refine perm_e rfl ?_   -- 11: call F45(t20, t22, t24)
    go_wp2_with (go_at_call 45; go_must (refine (RefPut_any HS.out w2 X wb sb hb kb nb dv aq av Hr2.out).mono ?_; rintro e w3 ⟨rfl, hl3, hr3⟩))
    rw [Hst.out] at hr3
    rw [Hst.out]
    have Hl3 := Lib.hid hl3
    have Hr3 := Lib.hid hr3
    (try simp only [Act.put, List.setIfInBounds_toArray, List.set_cons_zero, List.set_cons_succ])
    refine ⟨⟨hl3.keep.cell f1 Hg5.out.2, hl3.keep.cell f2 Hg5.out.2⟩, ?_⟩
    clear hl3 hr3
    refine perm_q (v := ?v2_12) (some 26) rfl rfl rfl ?q2_12 ?h2_12; (case q2_12 => (intro w' hS; obtain ⟨z1, z2⟩ := hS; first | (go_simp; done) | (go_simp; rfl))); (try simp only [Act.put, List.setIfInBounds_toArray, List.set_cons_zero, List.set_cons_succ])
    refine perm_q (v := ?v2_13) (some 6) rfl rfl rfl ?q2_13 ?h2_13; (case q2_13 => (intro w' hS; obtain ⟨z1, z2⟩ := hS; first | (go_simp; done) | (go_simp; rfl))); (try simp only [Act.put, List.setIfInBounds_toArray, List.set_cons_zero, List.set_cons_succ])
    refine perm_nil ?_
    go_wp2
    go_ret
    obtain ⟨hb, hk⟩ := H1.out.step HK2.out (fun i hi => hi.elim .inl (fun h => .inr (.inl h))) He2.out (fun _ _ => Iff.rfl) (fun b hb => by have h1 := H1.out.xp b hb; have h2 := HK2.out.size; omega) Hl3.out Hr3.out Hz1.out
    have hS2 : stepB (E, ans) ⟨d, aq, av⟩ = (E1, ans) := by unfold stepB; rw [if_pos (by show d % 8 < 3; rw [Hm.out]; decide)]; show ((setF E aq av).1, ans) = _; rw [Hst.out]
    rw [hS2]
    exact ⟨rfl, Xp, X, dv, hb, (HK1.out.mono (fun _ _ h => h.elim)).trans hk (fun _ _ h => h)⟩
  · go_enter Tryd.func26, Tryd.ntmps26
    go_wp2_with (first
      | ((with_reducible refine at_dst (N := 5) rfl ?_); go_must (refine ev_box (cs := #[.int .u8 d, .int .i64 aq, .int .i64 av]) rfl rfl rfl ?_; intro g5 w1 hg5 hl5 hb5 hk1)
         have f0 := (blk_cell hb5 0).trans rfl
         have f1 := (blk_cell hb5 1).trans rfl
         have f2 := (blk_cell hb5 2).trans rfl
         have HK1 := Lib.hid hk1
         have H1 := Lib.hid (H.out.after hk1)
         have Hz1 := Lib.hid (show base ≤ w1.heap.size by have := hk1.size; omega)
         have Hg5 := Lib.hid (show w.heap.size ≤ g5 ∧ ¬ MAll wb sb hb kb nb dv g5 from ⟨hg5, fun hm => by have := H.out.ref.fp_lt g5 hm.ref; omega⟩)
         have Hle := Lib.hid H.out.eng.lts
         clear hb5 hk1 hg5 hl5
         (try simp only [Act.put, List.setIfInBounds_toArray, List.set_cons_zero, List.set_cons_succ]))
    )
    refine wp_region_perm [(0, true), (1, true), (2, true), (3, true), (4, true), (6, true), (7, true), (8, true), (9, true), (10, true), (5, false), (11, false), (12, true), (13, true)] (fun w' => w'.cell? ⟨g5, 1, none⟩ = some (.int .i64 aq) ∧ w'.cell? ⟨g5, 2, none⟩ = some (.int .i64 av)) rfl (by kernel_rfl) (by kernel_rfl) (by decide) (fun c a d v w h => by cases d <;> exact h) ⟨f1, f2⟩ ?_
    refine perm_q (v := ?v3_0) (some 14) rfl rfl rfl ?q3_0 ?h3_0; (case q3_0 => (intro w' hS; obtain ⟨z1, z2⟩ := hS; first | (go_simp; done) | (go_simp; rfl))); (try simp only [Act.put, List.setIfInBounds_toArray, List.set_cons_zero, List.set_cons_succ])
    refine perm_q (v := ?v3_1) (some 15) rfl rfl rfl ?q3_1 ?h3_1; (case q3_1 => (intro w' hS; obtain ⟨z1, z2⟩ := hS; first | (go_simp; done) | (go_simp; rfl))); (try simp only [Act.put, List.setIfInBounds_toArray, List.set_cons_zero, List.set_cons_succ])
    refine perm_q (v := ?v3_2) (some 16) rfl rfl rfl ?q3_2 ?h3_2; (case q3_2 => (intro w' hS; obtain ⟨z1, z2⟩ := hS; first | (go_simp; done) | (go_simp; rfl))); (try simp only [Act.put, List.setIfInBounds_toArray, List.set_cons_zero, List.set_cons_succ])
    refine perm_q (v := ?v3_3) (some 17) rfl rfl rfl ?q3_3 ?h3_3; (case q3_3 => (intro w' hS; obtain ⟨z1, z2⟩ := hS; first | (go_simp; done) | (go_simp; rfl))); (try simp only [Act.put, List.setIfInBounds_toArray, List.set_cons_zero, List.set_cons_succ])
    refine perm_q (v := ?v3_4) (some 18) rfl rfl rfl ?q3_4 ?h3_4; (case q3_4 => (intro w' hS; obtain ⟨z1, z2⟩ := hS; first | (go_simp; done) | (go_simp; rfl))); (try simp only [Act.put, List.setIfInBounds_toArray, List.set_cons_zero, List.set_cons_succ])
    refine perm_q (v := ?v3_6) (some 20) rfl rfl rfl ?q3_6 ?h3_6; (case q3_6 => (intro w' hS; obtain ⟨z1, z2⟩ := hS; first | (go_simp; done) | (go_simp; rfl))); (try simp only [Act.put, List.setIfInBounds_toArray, List.set_cons_zero, List.set_cons_succ])
    refine perm_q (v := ?v3_7) (some 21) rfl rfl rfl ?q3_7 ?h3_7; (case q3_7 => (intro w' hS; obtain ⟨z1, z2⟩ := hS; first | (go_simp; done) | (go_simp; rfl))); (try simp only [Act.put, List.setIfInBounds_toArray, List.set_cons_zero, List.set_cons_succ])
    refine perm_q (v := ?v3_8) (some 22) rfl rfl rfl ?q3_8 ?h3_8; (case q3_8 => (intro w' hS; obtain ⟨z1, z2⟩ := hS; first | (go_simp; done) | (go_simp; rfl))); (try simp only [Act.put, List.setIfInBounds_toArray, List.set_cons_zero, List.set_cons_succ])
    refine perm_q (v := ?v3_9) (some 23) rfl rfl rfl ?q3_9 ?h3_9; (case q3_9 => (intro w' hS; obtain ⟨z1, z2⟩ := hS; first | (go_simp; done) | (go_simp; rfl))); (try simp only [Act.put, List.setIfInBounds_toArray, List.set_cons_zero, List.set_cons_succ])
    refine perm_q (v := ?v3_10) (some 24) rfl rfl rfl ?q3_10 ?h3_10; (case q3_10 => (intro w' hS; obtain ⟨z1, z2⟩ := hS; first | (go_simp; done) | (go_simp; rfl))); (try simp only [Act.put, List.setIfInBounds_toArray, List.set_cons_zero, List.set_cons_succ])
    refine perm_e rfl ?_   -- 5: call F29(t14, t16, t18)
    go_wp2_with (go_at_call 29; go_must (refine (Set_any (HS.out.env (m := 0) (Int.le_refl 0) (by decide)) w1.drew Xp eb ib mb ans aq av ((H1.out.after (Keeps.refl Nob w1).drew).eng.bound 0)).mono ?_; rintro e w2 ⟨rfl, hk2, he2⟩))
    rw [setF_bound, Hst.out] at he2
    rw [setF_bound, Hst.out]
    have HK2 := Lib.hid (show Keeps (fun k => k = eb ∨ k = ib) w1 w2 from (Keeps.refl (fun k => k = eb ∨ k = ib) w1).drew.trans hk2 (fun _ _ h => h))
    have He2 := Lib.hid he2.unbound
    have Hr2 := Lib.hid (H1.out.mid HK2.out (fun i hi => hi.elim .inl (fun h => .inr (.inl h))))
    have hg : ¬ (g5 = eb ∨ g5 = ib) := by have h1 := Hg5.out.1; have h2 := Hle.out; omega
    have f1 := HK2.out.cell f1 hg
    have f2 := HK2.out.cell f2 hg
    (try simp only [Act.put, List.setIfInBounds_toArray, List.set_cons_zero, List.set_cons_succ])
    refine ⟨⟨f1, f2⟩, ?_⟩
    clear hk2 he2 hg
    refine perm_e rfl ?_   -- 11: call F45(t20, t22, t24)
    go_wp2_with (go_at_call 45; go_must (refine (RefPut_any HS.out w2 X wb sb hb kb nb dv aq av Hr2.out).mono ?_; rintro e w3 ⟨rfl, hl3, hr3⟩))
    rw [Hst.out] at hr3
    rw [Hst.out]
    have Hl3 := Lib.hid hl3
    have Hr3 := Lib.hid hr3
    (try simp only [Act.put, List.setIfInBounds_toArray, List.set_cons_zero, List.set_cons_succ])
    refine ⟨⟨hl3.keep.cell f1 Hg5.out.2, hl3.keep.cell f2 Hg5.out.2⟩, ?_⟩
    clear hl3 hr3
    refine perm_q (v := ?v3_12) (some 26) rfl rfl rfl ?q3_12 ?h3_12; (case q3_12 => (intro w' hS; obtain ⟨z1, z2⟩ := hS; first | (go_simp; done) | (go_simp; rfl))); (try simp only [Act.put, List.setIfInBounds_toArray, List.set_cons_zero, List.set_cons_succ])
    refine perm_q (v := ?v3_13) (some 6) rfl rfl rfl ?q3_13 ?h3_13; (case q3_13 => (intro w' hS; obtain ⟨z1, z2⟩ := hS; first | (go_simp; done) | (go_simp; rfl))); (try simp only [Act.put, List.setIfInBounds_toArray, List.set_cons_zero, List.set_cons_succ])
    refine perm_nil ?_
    go_wp2
    go_ret
    obtain ⟨hb, hk⟩ := H1.out.step HK2.out (fun i hi => hi.elim .inl (fun h => .inr (.inl h))) He2.out (fun _ _ => Iff.rfl) (fun b hb => by have h1 := H1.out.xp b hb; have h2 := HK2.out.size; omega) Hl3.out Hr3.out Hz1.out
    have hS2 : stepB (E, ans) ⟨d, aq, av⟩ = (E1, ans) := by unfold stepB; rw [if_pos (by show d % 8 < 3; rw [Hm.out]; decide)]; show ((setF E aq av).1, ans) = _; rw [Hst.out]
    rw [hS2]
    exact ⟨rfl, Xp, X, dv, hb, (HK1.out.mono (fun _ _ h => h.elim)).trans hk (fun _ _ h => h)⟩
  · go_enter Tryd.func26, Tryd.ntmps26
    go_wp2_with (first
      | ((with_reducible refine at_dst (N := 5) rfl ?_); go_must (refine ev_box (cs := #[.int .u8 d, .int .i64 aq, .int .i64 av]) rfl rfl rfl ?_; intro g5 w1 hg5 hl5 hb5 hk1)
         have f0 := (blk_cell hb5 0).trans rfl
         have f1 := (blk_cell hb5 1).trans rfl
         have f2 := (blk_cell hb5 2).trans rfl
         have HK1 := Lib.hid hk1
         have H1 := Lib.hid (H.out.after hk1)
         have Hz1 := Lib.hid (show base ≤ w1.heap.size by have := hk1.size; omega)
         have Hg5 := Lib.hid (show w.heap.size ≤ g5 ∧ ¬ MAll wb sb hb kb nb dv g5 from ⟨hg5, fun hm => by have := H.out.ref.fp_lt g5 hm.ref; omega⟩)
         have Hle := Lib.hid H.out.eng.lts
         clear hb5 hk1 hg5 hl5
         (try simp only [Act.put, List.setIfInBounds_toArray, List.set_cons_zero, List.set_cons_succ]))
    )
    refine wp_region_perm [(0, true), (1, true), (2, true), (4, true), (5, true), (6, true), (3, false), (7, false), (8, true), (9, true)] (fun w' => w'.cell? ⟨g5, 1, none⟩ = some (.int .i64 aq) ∧ w'.cell? ⟨g5, 2, none⟩ = some (.int .i64 av)) rfl (by kernel_rfl) (by kernel_rfl) (by decide) (fun c a d v w h => by cases d <;> exact h) ⟨f1, f2⟩ ?_
    refine perm_q (v := ?v4_0) (some 29) rfl rfl rfl ?q4_0 ?h4_0; (case q4_0 => (intro w' hS; obtain ⟨z1, z2⟩ := hS; first | (go_simp; done) | (go_simp; rfl))); (try simp only [Act.put, List.setIfInBounds_toArray, List.set_cons_zero, List.set_cons_succ])
    refine perm_q (v := ?v4_1) (some 30) rfl rfl rfl ?q4_1 ?h4_1; (case q4_1 => (intro w' hS; obtain ⟨z1, z2⟩ := hS; first | (go_simp; done) | (go_simp; rfl))); (try simp only [Act.put, List.setIfInBounds_toArray, List.set_cons_zero, List.set_cons_succ])
    refine perm_q (v := ?v4_2) (some 31) rfl rfl rfl ?q4_2 ?h4_2; (case q4_2 => (intro w' hS; obtain ⟨z1, z2⟩ := hS; first | (go_simp; done) | (go_simp; rfl))); (try simp only [Act.put, List.setIfInBounds_toArray, List.set_cons_zero, List.set_cons_succ])
    refine perm_q (v := ?v4_4) (some 33) rfl rfl rfl ?q4_4 ?h4_4; (case q4_4 => (intro w' hS; obtain ⟨z1, z2⟩ := hS; first | (go_simp; done) | (go_simp; rfl))); (try simp only [Act.put, List.setIfInBounds_toArray, List.set_cons_zero, List.set_cons_succ])
    refine perm_q (v := ?v4_5) (some 34) rfl rfl rfl ?q4_5 ?h4_5; (case q4_5 => (intro w' hS; obtain ⟨z1, z2⟩ := hS; first | (go_simp; done) | (go_simp; rfl))); (try simp only [Act.put, List.setIfInBounds_toArray, List.set_cons_zero, List.set_cons_succ])
    refine perm_q (v := ?v4_6) (some 35) rfl rfl rfl ?q4_6 ?h4_6; (case q4_6 => (intro w' hS; obtain ⟨z1, z2⟩ := hS; first | (go_simp; done) | (go_simp; rfl))); (try simp only [Act.put, List.setIfInBounds_toArray, List.set_cons_zero, List.set_cons_succ])
    refine perm_e rfl ?_   -- 3: call F30(t29, t31)
    go_wp2_with (go_at_call 30; go_must (refine (Forget_any Xp eb ib mb E ans aq w1.drew (H1.out.after (Keeps.refl Nob w1).drew).eng h200).mono ?_; rintro e w2 ⟨rfl, hk2, he2⟩))
    rw [Hfo.out] at he2
    rw [Hfo.out]
    have HK2 := Lib.hid (show Keeps (· = mb) w1 w2 from (Keeps.refl (· = mb) w1).drew.trans hk2 (fun _ _ h => h))
    have He2 := Lib.hid he2
    have Hr2 := Lib.hid (H1.out.mid HK2.out (fun i hi => .inr (.inr hi)))
    have hg : ¬ (g5 = mb) := by have h1 := Hg5.out.1; have h2 := Hle.out; omega
    have f1 := HK2.out.cell f1 hg
    have f2 := HK2.out.cell f2 hg
    (try simp only [Act.put, List.setIfInBounds_toArray, List.set_cons_zero, List.set_cons_succ])
    refine ⟨⟨f1, f2⟩, ?_⟩
    clear hk2 he2 hg
    refine perm_e rfl ?_   -- 7: call F46(t33, t35)
    go_wp2_with (go_at_call 46; go_must (refine (RefForget_any HS.out w2 X wb sb hb kb nb dv aq Hr2.out).mono ?_; rintro e w3 ⟨rfl, hl3, hr3⟩))
    rw [Hfo.out] at hr3
    rw [Hfo.out]
    have Hl3 := Lib.hid hl3
    have Hr3 := Lib.hid hr3
    (try simp only [Act.put, List.setIfInBounds_toArray, List.set_cons_zero, List.set_cons_succ])
    refine ⟨⟨hl3.keep.cell f1 Hg5.out.2, hl3.keep.cell f2 Hg5.out.2⟩, ?_⟩
    clear hl3 hr3
    refine perm_q (v := ?v4_8) (some 37) rfl rfl rfl ?q4_8 ?h4_8; (case q4_8 => (intro w' hS; obtain ⟨z1, z2⟩ := hS; first | (go_simp; done) | (go_simp; rfl))); (try simp only [Act.put, List.setIfInBounds_toArray, List.set_cons_zero, List.set_cons_succ])
    refine perm_q (v := ?v4_9) (some 6) rfl rfl rfl ?q4_9 ?h4_9; (case q4_9 => (intro w' hS; obtain ⟨z1, z2⟩ := hS; first | (go_simp; done) | (go_simp; rfl))); (try simp only [Act.put, List.setIfInBounds_toArray, List.set_cons_zero, List.set_cons_succ])
    refine perm_nil ?_
    go_wp2
    go_ret
    obtain ⟨hb, hk⟩ := H1.out.step HK2.out (fun i hi => .inr (.inr hi)) He2.out (fun _ _ => Iff.rfl) (fun b hb => by have h1 := H1.out.xp b hb; have h2 := HK2.out.size; omega) Hl3.out Hr3.out Hz1.out
    have hS2 : stepB (E, ans) ⟨d, aq, av⟩ = (E, fa) := by unfold stepB; rw [if_neg (by show ¬ d % 8 < 3; rw [Hm.out]; decide), if_pos (by show d % 8 = 3; rw [Hm.out])]; show (E, (forgetF E ans aq).1) = _; rw [Hfo.out]
    rw [hS2]
    exact ⟨rfl, Xp, X, dv, hb, (HK1.out.mono (fun _ _ h => h.elim)).trans hk (fun _ _ h => h)⟩
  · go_enter Tryd.func26, Tryd.ntmps26
    go_wp2_with (first
      | ((with_reducible refine at_dst (N := 5) rfl ?_); go_must (refine ev_box (cs := #[.int .u8 d, .int .i64 aq, .int .i64 av]) rfl rfl rfl ?_; intro g5 w1 hg5 hl5 hb5 hk1)
         have f0 := (blk_cell hb5 0).trans rfl
         have f1 := (blk_cell hb5 1).trans rfl
         have f2 := (blk_cell hb5 2).trans rfl
         have HK1 := Lib.hid hk1
         have H1 := Lib.hid (H.out.after hk1)
         have Hz1 := Lib.hid (show base ≤ w1.heap.size by have := hk1.size; omega)
         have Hg5 := Lib.hid (show w.heap.size ≤ g5 ∧ ¬ MAll wb sb hb kb nb dv g5 from ⟨hg5, fun hm => by have := H.out.ref.fp_lt g5 hm.ref; omega⟩)
         have Hle := Lib.hid H.out.eng.lts
         clear hb5 hk1 hg5 hl5
         (try simp only [Act.put, List.setIfInBounds_toArray, List.set_cons_zero, List.set_cons_succ]))
      | (go_at_call 47; go_must (refine (asked_both HS.out w1 Xp eb ib mb X wb sb hb kb nb dv aq av vmax H1.out Hz1.out).mono ?_; rintro e w2 ⟨rfl, Xp2, X2, dv2, hb2, hk2⟩); have Hb2 := Lib.hid hb2; have HK2 := Lib.hid hk2; clear hb2 hk2; (try simp only [Act.put, List.setIfInBounds_toArray, List.set_cons_zero, List.set_cons_succ]))
    )
    go_ret
    have hS2 : stepB (E, ans) ⟨d, aq, av⟩ = (E, (askR E ans aq av).ans) := by unfold stepB; rw [if_neg (by show ¬ d % 8 < 3; rw [Hm.out]; decide), if_neg (by show ¬ d % 8 = 3; rw [Hm.out]; decide), askR_ans]; rw [if_pos (by show d % 8 = 4; rw [Hm.out])]
    rw [hS2]
    exact ⟨rfl, Xp2, X2, dv2, Hb2.out, (HK1.out.mono (fun _ _ h => h.elim)).trans HK2.out (fun _ _ h => h)⟩
  · go_enter Tryd.func26, Tryd.ntmps26
    go_wp2_with (first
      | ((with_reducible refine at_dst (N := 5) rfl ?_); go_must (refine ev_box (cs := #[.int .u8 d, .int .i64 aq, .int .i64 av]) rfl rfl rfl ?_; intro g5 w1 hg5 hl5 hb5 hk1)
         have f0 := (blk_cell hb5 0).trans rfl
         have f1 := (blk_cell hb5 1).trans rfl
         have f2 := (blk_cell hb5 2).trans rfl
         have HK1 := Lib.hid hk1
         have H1 := Lib.hid (H.out.after hk1)
         have Hz1 := Lib.hid (show base ≤ w1.heap.size by have := hk1.size; omega)
         have Hg5 := Lib.hid (show w.heap.size ≤ g5 ∧ ¬ MAll wb sb hb kb nb dv g5 from ⟨hg5, fun hm => by have := H.out.ref.fp_lt g5 hm.ref; omega⟩)
         have Hle := Lib.hid H.out.eng.lts
         clear hb5 hk1 hg5 hl5
         (try simp only [Act.put, List.setIfInBounds_toArray, List.set_cons_zero, List.set_cons_succ]))
      | (go_at_call 47; go_must (refine (asked_both HS.out w1 Xp eb ib mb X wb sb hb kb nb dv aq 1000 (by decide) H1.out Hz1.out).mono ?_; rintro e w2 ⟨rfl, Xp2, X2, dv2, hb2, hk2⟩); have Hb2 := Lib.hid hb2; have HK2 := Lib.hid hk2; clear hb2 hk2; (try simp only [Act.put, List.setIfInBounds_toArray, List.set_cons_zero, List.set_cons_succ]))
    )
    go_ret
    have hS2 : stepB (E, ans) ⟨d, aq, av⟩ = (E, (askR E ans aq 1000).ans) := by unfold stepB; rw [if_neg (by show ¬ d % 8 < 3; rw [Hm.out]; decide), if_neg (by show ¬ d % 8 = 3; rw [Hm.out]; decide), askR_ans]; rw [if_neg (by show ¬ d % 8 = 4; rw [Hm.out]; decide)]
    rw [hS2]
    exact ⟨rfl, Xp2, X2, dv2, Hb2.out, (HK1.out.mono (fun _ _ h => h.elim)).trans HK2.out (fun _ _ h => h)⟩
  · go_enter Tryd.func26, Tryd.ntmps26
    go_wp2_with (first
      | ((with_reducible refine at_dst (N := 5) rfl ?_); go_must (refine ev_box (cs := #[.int .u8 d, .int .i64 aq, .int .i64 av]) rfl rfl rfl ?_; intro g5 w1 hg5 hl5 hb5 hk1)
         have f0 := (blk_cell hb5 0).trans rfl
         have f1 := (blk_cell hb5 1).trans rfl
         have f2 := (blk_cell hb5 2).trans rfl
         have HK1 := Lib.hid hk1
         have H1 := Lib.hid (H.out.after hk1)
         have Hz1 := Lib.hid (show base ≤ w1.heap.size by have := hk1.size; omega)
         have Hg5 := Lib.hid (show w.heap.size ≤ g5 ∧ ¬ MAll wb sb hb kb nb dv g5 from ⟨hg5, fun hm => by have := H.out.ref.fp_lt g5 hm.ref; omega⟩)
         have Hle := Lib.hid H.out.eng.lts
         clear hb5 hk1 hg5 hl5
         (try simp only [Act.put, List.setIfInBounds_toArray, List.set_cons_zero, List.set_cons_succ]))
      | (go_at_call 47; go_must (refine (asked_both HS.out w1 Xp eb ib mb X wb sb hb kb nb dv aq 1000 (by decide) H1.out Hz1.out).mono ?_; rintro e w2 ⟨rfl, Xp2, X2, dv2, hb2, hk2⟩); have Hb2 := Lib.hid hb2; have HK2 := Lib.hid hk2; clear hb2 hk2; (try simp only [Act.put, List.setIfInBounds_toArray, List.set_cons_zero, List.set_cons_succ]))
    )
    go_ret
    have hS2 : stepB (E, ans) ⟨d, aq, av⟩ = (E, (askR E ans aq 1000).ans) := by unfold stepB; rw [if_neg (by show ¬ d % 8 < 3; rw [Hm.out]; decide), if_neg (by show ¬ d % 8 = 3; rw [Hm.out]; decide), askR_ans]; rw [if_neg (by show ¬ d % 8 = 4; rw [Hm.out]; decide)]
    rw [hS2]
    exact ⟨rfl, Xp2, X2, dv2, Hb2.out, (HK1.out.mono (fun _ _ h => h.elim)).trans HK2.out (fun _ _ h => h)⟩
  · go_enter Tryd.func26, Tryd.ntmps26
    go_wp2_with (first
      | ((with_reducible refine at_dst (N := 5) rfl ?_); go_must (refine ev_box (cs := #[.int .u8 d, .int .i64 aq, .int .i64 av]) rfl rfl rfl ?_; intro g5 w1 hg5 hl5 hb5 hk1)
         have f0 := (blk_cell hb5 0).trans rfl
         have f1 := (blk_cell hb5 1).trans rfl
         have f2 := (blk_cell hb5 2).trans rfl
         have HK1 := Lib.hid hk1
         have H1 := Lib.hid (H.out.after hk1)
         have Hz1 := Lib.hid (show base ≤ w1.heap.size by have := hk1.size; omega)
         have Hg5 := Lib.hid (show w.heap.size ≤ g5 ∧ ¬ MAll wb sb hb kb nb dv g5 from ⟨hg5, fun hm => by have := H.out.ref.fp_lt g5 hm.ref; omega⟩)
         have Hle := Lib.hid H.out.eng.lts
         clear hb5 hk1 hg5 hl5
         (try simp only [Act.put, List.setIfInBounds_toArray, List.set_cons_zero, List.set_cons_succ]))
      | (go_at_call 47; go_must (refine (asked_both HS.out w1 Xp eb ib mb X wb sb hb kb nb dv aq 1000 (by decide) H1.out Hz1.out).mono ?_; rintro e w2 ⟨rfl, Xp2, X2, dv2, hb2, hk2⟩); have Hb2 := Lib.hid hb2; have HK2 := Lib.hid hk2; clear hb2 hk2; (try simp only [Act.put, List.setIfInBounds_toArray, List.set_cons_zero, List.set_cons_succ]))
    )
    go_ret
    have hS2 : stepB (E, ans) ⟨d, aq, av⟩ = (E, (askR E ans aq 1000).ans) := by unfold stepB; rw [if_neg (by show ¬ d % 8 < 3; rw [Hm.out]; decide), if_neg (by show ¬ d % 8 = 3; rw [Hm.out]; decide), askR_ans]; rw [if_neg (by show ¬ d % 8 = 4; rw [Hm.out]; decide)]
    rw [hS2]
    exact ⟨rfl, Xp2, X2, dv2, Hb2.out, (HK1.out.mono (fun _ _ h => h.elim)).trans HK2.out (fun _ _ h => h)⟩
end Go.Proofs.QW

/-
  QueryPlays, in memory: the law returns true. Condition: rules and calls lie, and the table of kinds is as laid.
-/
namespace Go.Proofs.QW
open Go.RowKit Go.Proofs.KL Go.Proofs.QM
set_option maxRecDepth 100000
set_option linter.unusedSimpArgs false
set_option linter.unusedVariables false

def playB (rs : List QRule) (acts : List ActR) (k : Nat) : State := (acts.take k).foldl stepB (fresh rs 0, List.replicate rs.length none)
theorem playB_succ {rs : List QRule} {acts : List ActR} {k : Nat} (h : k < acts.length) : playB rs acts (k + 1) = stepB (playB rs acts k) (acts.getD k default) := by
  unfold playB
  rw [List.take_succ_eq_append_getElem h, List.foldl_append]
  simp [List.getD_eq_getElem?_getD, h]
theorem playB_inv {rs : List QRule} {acts : List ActR} (hc : (check rs).2 = 0) (hv : ∀ a ∈ acts, a.v ≤ 9223372036854775807) : ∀ k : Nat, k ≤ 1000000 → SInv rs k (playB rs acts k)
  | 0, _ => by have := SInv.start hc; unfold playB; simpa using this
  | k + 1, h => by
    have ih := playB_inv hc hv k (by omega)
    rcases Nat.lt_or_ge k acts.length with hk | hk
    · rw [playB_succ hk]
      have hm : acts.getD k default ∈ acts := by rw [List.getD_eq_getElem?_getD, List.getElem?_eq_getElem hk]; exact List.getElem_mem hk
      have := ih.stepB (acts.getD k default) (by omega) (hv _ hm)
      rwa [show ((k + 1 : Nat) : Int) = (k : Int) + 1 by omega]
    · have : playB rs acts (k + 1) = playB rs acts k := by unfold playB; rw [List.take_of_length_le (by omega), List.take_of_length_le hk]
      rw [this]
      exact ⟨ih.rules, ih.ok, by have := ih.rev; omega, ih.inv, ih.his⟩
theorem SInv.alen {rs : List QRule} {n : Int} {E : Env} {ans : List (Option KeptR)} (h : SInv rs n (E, ans)) : ∀ p, (foundF E ans p).1.asked.length ≤ 12 := fun p => by
  unfold foundF
  split
  · decide
  rename_i hp
  split
  · exact Nat.zero_le _
  · split
    · decide
    · rename_i k hk
      exact (h.inv.kok p k (isErr_in hp) hk).alen
set_option maxHeartbeats 40000000 in
/-- QUERYPLAYS. -/
theorem QueryPlays_any (rs : List QRule) (acts : List ActR) (w : World) (X Y : Nat → Prop) (rv av : Value) (hr : RulesX w X rv rs) (ha : ActsX w Y av acts) (ht : Tab w) :
    Calls Tryd.prog 7 #[rv, av] w fun e w' => e = .returned (.bool true) ∧ Keeps Nob w w' := by
  have HC := Lib.hid (fun (w1 : World) (hk : Keeps Nob w w1) => cut_any rs w1 X rv (hr.keep hk (fun _ _ _ => id) (fun _ _ h => h)))
  have HT := Lib.hid ht
  have HT0 := Lib.hid (show 0 < w.heap.size from World.block_lt_of_cell? _ _ (ht 1 (by omega) (by omega)).1)
  have HR := Lib.hid hr
  have hpn : ∀ (n : Nat) (w : World), (binOp .eql 35 (.pointer (some ⟨n, 0, none⟩)) (.pointer none)).run Tryd.prog w = .ok (.bool false) w := fun _ _ => by kernel_rfl
  have hpn2 : ∀ (n : Nat) (w : World), (binOp .neq 35 (.pointer (some ⟨n, 0, none⟩)) (.pointer none)).run Tryd.prog w = .ok (.bool true) w := fun _ _ => by kernel_rfl
  have hpn3 : ∀ (w : World), (binOp .eql 35 (.pointer none) (.pointer none)).run Tryd.prog w = .ok (.bool true) w := fun _ => by kernel_rfl
  obtain ⟨rA, rc, rfl, -, -⟩ := id hr
  obtain ⟨A, ac, rfl, hcc, hcell⟩ := id ha
  have Hcell := Lib.hid hcell
  have hl := cutM_len rs
  have Hasks := Lib.hid (cutM_asks rs)
  generalize cutM rs = own at *
  have hl1 : own.length ≤ 202 := hl.1
  rcases hck : check own with ⟨c1, c2⟩
  have hnew : ∀ (wx : World) (Z : Nat → Prop) (v : Value), RulesX wx Z v own → (own.length ≤ 200 → Tab wx) → Calls Tryd.prog 23 #[v] wx fun e w' => Keeps Nob wx w' ∧ (c2 ≠ 0 → e = .returned (.tuple #[.pointer none, .int .i64 c2])) ∧
      (c2 = 0 → ∃ eb ib mb Y, e = .returned (.tuple #[.pointer (some ⟨eb, 0, none⟩), .int .i64 0]) ∧ (∀ most, EngAt w' Y eb ib mb (fresh own most) (List.replicate own.length none)) ∧ (∀ k, Y k → wx.heap.size ≤ k ∧ k < w'.heap.size) ∧ wx.heap.size ≤ eb ∧ wx.heap.size ≤ ib ∧ wx.heap.size ≤ mb) := fun wx Z v h1 h2 => by
    have h := New_any own wx Z v h1 h2
    rw [hck] at h
    exact h
  have Hnew := Lib.hid hnew
  have Hck := Lib.hid hck
  have hq1 : (c1 != c1) = false := by simp
  have hq2 : (c2 != c2) = false := by simp
  obtain ⟨al, hal⟩ : ∃ x, acts.length = x := ⟨_, rfl⟩
  have Hal := Lib.hid hal
  have Hacts : Hid (∀ a ∈ acts, a.v ≤ 9223372036854775807) := Lib.hid (fun a ham => by
    obtain ⟨i, hi, rfl⟩ := List.mem_iff_getElem.1 ham
    obtain ⟨_, _, _, _, _, _, _, _, h⟩ := Hcell.out i hi
    rwa [List.getD_eq_getElem?_getD, List.getElem?_eq_getElem hi] at h)
  rw [hal] at hcc ⊢
  clear hr ha ht hcell hl hck hnew hal
  by_cases hc : c2 = 0
  · subst hc
    have hc0 : (check own).2 = 0 := by rw [Hck.out]
    have h200 : own.length ≤ 200 := (check_ok hc0).1
    have Hinv := Lib.hid (playB_inv (rs := own) (acts := acts) hc0 Hacts.out)
    clear hc0
    go_enter Tryd.func7, Tryd.ntmps7
    go_wp2_with (first
      | (go_at_call 10; have hz := HK1.out.size; go_must (refine (HC.out w1 HK1.out).mono ?_; rintro e w2 ⟨gv, rfl, hk2, hr2⟩; obtain ⟨gA, gc, rfl, _, _⟩ := id hr2)
         have HK2 := Lib.hid (HK1.out.trans hk2 (fun _ _ h => h))
         have Hr2 := Lib.hid hr2
         have Ho2 := Lib.hid (Ho1.out.keep (X' := fun k => w.heap.size ≤ k ∧ k < w1.heap.size) hk2 (fun _ _ _ => id) (fun _ _ h => h))
         have Hz12 := Lib.hid (show w.heap.size ≤ w1.heap.size ∧ w1.heap.size ≤ w2.heap.size from ⟨hz, hk2.size⟩)
         clear hk2 hr2 hz
         (try simp only [Act.put, List.setIfInBounds_toArray, List.set_cons_zero, List.set_cons_succ]))
      | (go_at_call 10; go_must (refine (HC.out w (Keeps.refl _ _)).mono ?_; rintro e w1 ⟨ov, rfl, hk1, hr1⟩; obtain ⟨oA, oc, rfl, _, _⟩ := id hr1)
         have HK1 := Lib.hid hk1
         have Ho1 := Lib.hid hr1
         clear hk1 hr1
         (try simp only [Act.put, List.setIfInBounds_toArray, List.set_cons_zero, List.set_cons_succ]))
      | (go_at_call 22; have hrun := Check_any own w2 _ _ Ho2.out (fun _ => HT.out.keep HK2.out id); rw [Hck.out] at hrun; go_must (refine hrun.mono ?_; rintro e w3 ⟨rfl, hk3⟩); have HK23 := Lib.hid hk3; clear hrun hk3; (try simp only [Act.put, List.setIfInBounds_toArray, List.set_cons_zero, List.set_cons_succ]))
      | (go_at_call 11; have hrun := RefCheck_any own w3 _ _ (Ho2.out.keep (X' := fun k => w.heap.size ≤ k ∧ k < w1.heap.size) HK23.out (fun _ _ _ => id) (fun _ _ h => h)); rw [Hck.out] at hrun; go_must (refine hrun.mono ?_; rintro e w4 ⟨rfl, hk4⟩); have HK24 := Lib.hid (HK23.out.trans hk4 (fun _ _ h => h)); clear hrun hk4; (try simp only [Act.put, List.setIfInBounds_toArray, List.set_cons_zero, List.set_cons_succ]))
      | (go_at_call 23; go_must (refine (Hnew.out w4 _ _ (Ho2.out.keep (X' := fun k => w.heap.size ≤ k ∧ k < w1.heap.size) HK24.out (fun _ _ _ => id) (fun _ _ h => h)) (fun _ => HT.out.keep (HK2.out.trans HK24.out (fun _ _ h => h)) id)).mono ?_; rintro e w5 ⟨hk5, -, hx⟩; obtain ⟨eb, ib, mb, Xp, rfl, heng, hxl, be1, be2, be3⟩ := hx rfl)
         have HK25 := Lib.hid (HK24.out.trans hk5 (fun _ _ h => h))
         have Heng := Lib.hid (And.intro (heng 0) (And.intro hxl (And.intro be1 (And.intro be2 be3))))
         have Hz5 := Lib.hid (show w2.heap.size ≤ w4.heap.size ∧ w4.heap.size ≤ w5.heap.size from ⟨HK24.out.size, hk5.size⟩)
         clear hk5 hx heng hxl be1 be2 be3
         (try simp only [Act.put, List.setIfInBounds_toArray, List.set_cons_zero, List.set_cons_succ]))
      | (go_at_call 24; go_must (refine (equal_any own (by omega) Hasks.out _ _ _ _ _ (Ho2.out.keep (X' := fun k => w.heap.size ≤ k ∧ k < w1.heap.size) (HK25.out) (fun _ _ hx hm => by have h1 := Hz12.out; have h2 := hx.2; first | exact hm | omega) (fun _ _ h => h)) (Hr2.out.keep (X' := fun k => w1.heap.size ≤ k ∧ k < w2.heap.size) (HK25.out) (fun _ _ hx hm => by have h1 := Hz12.out; have h2 := hx.2; first | exact hm | omega) (fun _ _ h => h))).mono ?_; rintro e w6 ⟨rfl, hk6⟩); have HKe6 := Lib.hid hk6; clear hk6; (try simp only [Act.put, List.setIfInBounds_toArray, List.set_cons_zero, List.set_cons_succ]))
      | (go_at_call 25; go_must (refine (RefNew_any own h200 w6 (fun k => w1.heap.size ≤ k ∧ k < w2.heap.size) _ (Hr2.out.keep (X' := fun k => w1.heap.size ≤ k ∧ k < w2.heap.size) (HK25.out.trans HKe6.out (fun _ _ h => h)) (fun _ _ _ => id) (fun _ _ h => h))).mono ?_; rintro e w7 ⟨wb, sb, hb, kb, nb, rfl, hk7, href, ⟨b1, b2, b3⟩, b4, b5⟩)
         have HK67 := Lib.hid hk7
         have Href := Lib.hid href
         have Hbw := Lib.hid (And.intro (And.intro b1 (And.intro b2 b3)) (And.intro b4 b5))
         clear hk7 href b1 b2 b3 b4 b5
         (try simp only [Act.put, List.setIfInBounds_toArray, List.set_cons_zero, List.set_cons_succ]))
    )
    have HK27 := Lib.hid ((HK25.out.trans HKe6.out (fun _ _ h => h)).trans HK67.out (fun _ _ h => h))
    have H0 := Lib.hid (show Both w2.heap.size w7 Xp eb ib mb (fun b => (w1.heap.size ≤ b ∧ b < w2.heap.size) ∧ b < w6.heap.size) wb sb hb kb nb (.slice none 0 0) (playB own acts 0).1 (playB own acts 0).2 from by
      obtain ⟨h1, h2, h3, h4, h5⟩ := Heng.out
      have l := h1.lts
      have z5 := Hz5.out
      have z6 := HKe6.out.size
      have z7 := HK67.out.size
      have hbw := Hbw.out
      refine ⟨?_, Href.out, fun k hx => by have := (h2 k hx).2; omega, ⟨by omega, by omega, by omega⟩, fun k hm => ?_, fun k hk hm => ?_⟩
      · exact (h1.after HKe6.out).after HK67.out
      · rcases hm with e | e | e | e | e | e
        · omega
        · omega
        · omega
        · omega
        · omega
        · cases e
      · have hk1 : w4.heap.size ≤ k ∧ k < w5.heap.size := by
          rcases hk with e | e | e | e
          · omega
          · omega
          · omega
          · exact h2 k e
        rcases hm with e | e | e | e | e | e | e
        · omega
        · omega
        · omega
        · omega
        · omega
        · cases e
        · have := e.1.2; omega)
    have Hz7 := Lib.hid (show w2.heap.size ≤ w7.heap.size from HK27.out.size)
    clear Heng
    go_loopw [14] (fun v wr => ∃ (k : Nat) (Xk Xq : Nat → Prop) (dv : Value), v = .int .i64 k ∧ k ≤ al ∧ k ≤ 60 ∧ Hid (Both w2.heap.size wr Xk eb ib mb Xq wb sb hb kb nb dv (playB own acts k).1 (playB own acts k).2) ∧ Hid (Keeps (fun i => w2.heap.size ≤ i) w7 wr)) (fun v _ => al - (intOf v).toNat)
    case atStart => exact ⟨0, _, _, _, rfl, Nat.zero_le _, Nat.zero_le _, H0, Lib.hid (Keeps.refl _ _)⟩
    case round =>
      obtain ⟨k, Xk, Xq, dv, rfl, hk, hk60, hst, HKr⟩ := hrel
      have hinv := Hinv.out k (by omega)
      by_cases hlt : k < al
      · by_cases hlt2 : k < 60
        · obtain ⟨b, o, rfl, -, c0, c1, c2, ⟨kd0, kd1⟩, vmax⟩ := Hcell.out k (by rw [Hal.out]; exact hlt)
          have hbl : b < w.heap.size := World.block_lt_of_cell? _ _ c0
          have hnb : ¬ w2.heap.size ≤ b := by have h1 := Hz12.out; omega
          have HKw := Lib.hid ((HK2.out.trans HK27.out (fun _ _ h => h)).mono (M' := fun i => w2.heap.size ≤ i) (fun _ _ h => h.elim))
          have c0 := HKr.out.cell (HKw.out.cell c0 hnb) hnb
          have c1 := HKr.out.cell (HKw.out.cell c1 hnb) hnb
          have c2 := HKr.out.cell (HKw.out.cell c2 hnb) hnb
          have hsucc := playB_succ (rs := own) (acts := acts) (k := k) (by rw [Hal.out]; exact hlt)
          have hinv2 := Hinv.out (k + 1) (by omega)
          rw [hsucc] at hinv2
          generalize acts.getD k default = a at *
          obtain ⟨d, aq, av⟩ := a
          simp only at c0 c1 c2 kd0 kd1 vmax
          rcases hS : playB own acts k with ⟨E, ans⟩
          rw [hS] at hsucc hinv hst hinv2
          rcases hS2 : stepB (E, ans) ⟨d, aq, av⟩ with ⟨E2, ans2⟩
          have hact := act_both hinv wr Xk eb ib mb Xq wb sb hb kb nb dv d aq av kd0 kd1 vmax hst.out (Nat.le_trans Hz7.out HKr.out.size)
          rw [hS2] at hsucc hact hinv2
          have Hact := Lib.hid hact
          have h200' : E2.rules.length ≤ 200 := hinv2.ok.len
          have Hfin := Lib.hid (show (playB own acts (k + 1)).1 = E2 ∧ (playB own acts (k + 1)).2 = ans2 by rw [hsucc]; exact ⟨rfl, rfl⟩)
          have Halen := Lib.hid hinv2.alen
          clear hbl hnb HKw hsucc hinv hinv2 hS hS2 hact
          go_wp2_with (first
            | (go_at_call 26; go_must (refine Hact.out.mono ?_; rintro e w8 ⟨rfl, Xp2, X2, dv2, hb8, hk8⟩); have Hb8 := Lib.hid hb8; have HK8 := Lib.hid (HKr.out.trans hk8 (fun _ _ h => h)); clear hb8 hk8; (try simp only [Act.put, List.setIfInBounds_toArray, List.set_cons_zero, List.set_cons_succ]))
            | (go_at_call 27; go_must (refine (like_any h200' Halen.out w8 Xp2 eb ib mb X2 wb sb hb kb nb dv2 Hb8.out.eng Hb8.out.ref).mono ?_; rintro e w9 ⟨rfl, hk9⟩); have Hb9 := Lib.hid (Hb8.out.after hk9); have HK9 := Lib.hid (HK8.out.trans hk9 (fun _ _ h => h.elim)); clear hk9; (try simp only [Act.put, List.setIfInBounds_toArray, List.set_cons_zero, List.set_cons_succ]))
          )
          go_roundw
          case rel => exact ⟨k + 1, Xp2, X2, dv2, by go_num, by omega, by omega, Lib.hid (by rw [Hfin.out.1, Hfin.out.2]; exact Hb9.out), HK9⟩
          case measure => simp [intOf]; omega
        · have hk' : k = 60 := by omega
          subst hk'
          rcases hS : playB own acts 60 with ⟨E, ans⟩
          rw [hS] at hinv hst
          have h200' : E.rules.length ≤ 200 := hinv.ok.len
          have Halen := Lib.hid hinv.alen
          clear hinv hS
          go_wp2_with (first
            | (go_at_call 28; go_must (refine (Copy_any E ans wr Xk eb ib mb hst.out.eng hst.out.xp h200').mono ?_; rintro e w8 ⟨ec, ic, mc, rfl, hk8, hec, -, -, -⟩); have Hec := Lib.hid hec; have HK8 := Lib.hid hk8; clear hk8 hec; (try simp only [Act.put, List.setIfInBounds_toArray, List.set_cons_zero, List.set_cons_succ]))
            | (go_at_call 27; go_must (refine (like_any h200' Halen.out w8 Xk ec ic mc Xq wb sb hb kb nb dv Hec.out (hst.out.ref.after HK8.out)).mono ?_; rintro e w9 ⟨rfl, hk9⟩); have HK9 := Lib.hid ((HKr.out.trans HK8.out (fun _ _ h => h.elim)).trans hk9 (fun _ _ h => h.elim)); have HK29 := Lib.hid ((HK27.out.mono (M' := fun i => w2.heap.size ≤ i) (fun _ _ h => h.elim)).trans HK9.out (fun _ _ h => h)); clear hk9; (try simp only [Act.put, List.setIfInBounds_toArray, List.set_cons_zero, List.set_cons_succ]))
            | (go_at_call 24; go_must (refine (equal_any own (by omega) Hasks.out _ _ _ _ _ (Ho2.out.keep (X' := fun k => w.heap.size ≤ k ∧ k < w1.heap.size) (HK29.out) (fun _ _ hx hm => by have h1 := Hz12.out; have h2 := hx.2; first | exact hm | omega) (fun _ _ h => h)) (Hr2.out.keep (X' := fun k => w1.heap.size ≤ k ∧ k < w2.heap.size) (HK29.out) (fun _ _ hx hm => by have h1 := Hz12.out; have h2 := hx.2; first | exact hm | omega) (fun _ _ h => h))).mono ?_; rintro e w10 ⟨rfl, hk10⟩); have HKe10 := Lib.hid hk10; clear hk10; (try simp only [Act.put, List.setIfInBounds_toArray, List.set_cons_zero, List.set_cons_succ]))
            | (go_at_call 14; have HKz := Lib.hid (show Keeps Nob w w10 from ((HK2.out.trans HK29.out (fun i hi hm => by have h1 := Hz12.out; have h2 : w2.heap.size ≤ i := hm; omega)).trans HKe10.out (fun _ _ h => h))); go_must (refine (alive_any w10 (HT.out.keep HKz.out id)).mono ?_; rintro e w11 ⟨rfl, hk11⟩); (try simp only [Act.put, List.setIfInBounds_toArray, List.set_cons_zero, List.set_cons_succ]))
          )
          go_ret
          exact ⟨rfl, HKz.out.trans hk11 (fun _ _ h => h)⟩
      · have hk' : k = al := by omega
        subst hk'
        by_cases hlt2 : k < 60
        · skip
          rcases hS : playB own acts k with ⟨E, ans⟩
          rw [hS] at hinv hst
          have h200' : E.rules.length ≤ 200 := hinv.ok.len
          have Halen := Lib.hid hinv.alen
          clear hinv hS
          go_wp2_with (first
            | (go_at_call 28; go_must (refine (Copy_any E ans wr Xk eb ib mb hst.out.eng hst.out.xp h200').mono ?_; rintro e w8 ⟨ec, ic, mc, rfl, hk8, hec, -, -, -⟩); have Hec := Lib.hid hec; have HK8 := Lib.hid hk8; clear hk8 hec; (try simp only [Act.put, List.setIfInBounds_toArray, List.set_cons_zero, List.set_cons_succ]))
            | (go_at_call 27; go_must (refine (like_any h200' Halen.out w8 Xk ec ic mc Xq wb sb hb kb nb dv Hec.out (hst.out.ref.after HK8.out)).mono ?_; rintro e w9 ⟨rfl, hk9⟩); have HK9 := Lib.hid ((HKr.out.trans HK8.out (fun _ _ h => h.elim)).trans hk9 (fun _ _ h => h.elim)); have HK29 := Lib.hid ((HK27.out.mono (M' := fun i => w2.heap.size ≤ i) (fun _ _ h => h.elim)).trans HK9.out (fun _ _ h => h)); clear hk9; (try simp only [Act.put, List.setIfInBounds_toArray, List.set_cons_zero, List.set_cons_succ]))
            | (go_at_call 24; go_must (refine (equal_any own (by omega) Hasks.out _ _ _ _ _ (Ho2.out.keep (X' := fun k => w.heap.size ≤ k ∧ k < w1.heap.size) (HK29.out) (fun _ _ hx hm => by have h1 := Hz12.out; have h2 := hx.2; first | exact hm | omega) (fun _ _ h => h)) (Hr2.out.keep (X' := fun k => w1.heap.size ≤ k ∧ k < w2.heap.size) (HK29.out) (fun _ _ hx hm => by have h1 := Hz12.out; have h2 := hx.2; first | exact hm | omega) (fun _ _ h => h))).mono ?_; rintro e w10 ⟨rfl, hk10⟩); have HKe10 := Lib.hid hk10; clear hk10; (try simp only [Act.put, List.setIfInBounds_toArray, List.set_cons_zero, List.set_cons_succ]))
            | (go_at_call 14; have HKz := Lib.hid (show Keeps Nob w w10 from ((HK2.out.trans HK29.out (fun i hi hm => by have h1 := Hz12.out; have h2 : w2.heap.size ≤ i := hm; omega)).trans HKe10.out (fun _ _ h => h))); go_must (refine (alive_any w10 (HT.out.keep HKz.out id)).mono ?_; rintro e w11 ⟨rfl, hk11⟩); (try simp only [Act.put, List.setIfInBounds_toArray, List.set_cons_zero, List.set_cons_succ]))
          )
          go_ret
          exact ⟨rfl, HKz.out.trans hk11 (fun _ _ h => h)⟩
        · skip
          rcases hS : playB own acts k with ⟨E, ans⟩
          rw [hS] at hinv hst
          have h200' : E.rules.length ≤ 200 := hinv.ok.len
          have Halen := Lib.hid hinv.alen
          clear hinv hS
          go_wp2_with (first
            | (go_at_call 28; go_must (refine (Copy_any E ans wr Xk eb ib mb hst.out.eng hst.out.xp h200').mono ?_; rintro e w8 ⟨ec, ic, mc, rfl, hk8, hec, -, -, -⟩); have Hec := Lib.hid hec; have HK8 := Lib.hid hk8; clear hk8 hec; (try simp only [Act.put, List.setIfInBounds_toArray, List.set_cons_zero, List.set_cons_succ]))
            | (go_at_call 27; go_must (refine (like_any h200' Halen.out w8 Xk ec ic mc Xq wb sb hb kb nb dv Hec.out (hst.out.ref.after HK8.out)).mono ?_; rintro e w9 ⟨rfl, hk9⟩); have HK9 := Lib.hid ((HKr.out.trans HK8.out (fun _ _ h => h.elim)).trans hk9 (fun _ _ h => h.elim)); have HK29 := Lib.hid ((HK27.out.mono (M' := fun i => w2.heap.size ≤ i) (fun _ _ h => h.elim)).trans HK9.out (fun _ _ h => h)); clear hk9; (try simp only [Act.put, List.setIfInBounds_toArray, List.set_cons_zero, List.set_cons_succ]))
            | (go_at_call 24; go_must (refine (equal_any own (by omega) Hasks.out _ _ _ _ _ (Ho2.out.keep (X' := fun k => w.heap.size ≤ k ∧ k < w1.heap.size) (HK29.out) (fun _ _ hx hm => by have h1 := Hz12.out; have h2 := hx.2; first | exact hm | omega) (fun _ _ h => h)) (Hr2.out.keep (X' := fun k => w1.heap.size ≤ k ∧ k < w2.heap.size) (HK29.out) (fun _ _ hx hm => by have h1 := Hz12.out; have h2 := hx.2; first | exact hm | omega) (fun _ _ h => h))).mono ?_; rintro e w10 ⟨rfl, hk10⟩); have HKe10 := Lib.hid hk10; clear hk10; (try simp only [Act.put, List.setIfInBounds_toArray, List.set_cons_zero, List.set_cons_succ]))
            | (go_at_call 14; have HKz := Lib.hid (show Keeps Nob w w10 from ((HK2.out.trans HK29.out (fun i hi hm => by have h1 := Hz12.out; have h2 : w2.heap.size ≤ i := hm; omega)).trans HKe10.out (fun _ _ h => h))); go_must (refine (alive_any w10 (HT.out.keep HKz.out id)).mono ?_; rintro e w11 ⟨rfl, hk11⟩); (try simp only [Act.put, List.setIfInBounds_toArray, List.set_cons_zero, List.set_cons_succ]))
          )
          go_ret
          exact ⟨rfl, HKz.out.trans hk11 (fun _ _ h => h)⟩
  · have hcb : (c2 != 0) = true := by simpa using hc
    have Hc := Lib.hid hc
    clear hc
    go_enter Tryd.func7, Tryd.ntmps7
    go_wp2_with (first
      | (go_at_call 10; have hz := HK1.out.size; go_must (refine (HC.out w1 HK1.out).mono ?_; rintro e w2 ⟨gv, rfl, hk2, hr2⟩; obtain ⟨gA, gc, rfl, _, _⟩ := id hr2)
         have HK2 := Lib.hid (HK1.out.trans hk2 (fun _ _ h => h))
         have Hr2 := Lib.hid hr2
         have Ho2 := Lib.hid (Ho1.out.keep (X' := fun k => w.heap.size ≤ k ∧ k < w1.heap.size) hk2 (fun _ _ _ => id) (fun _ _ h => h))
         have Hz12 := Lib.hid (show w.heap.size ≤ w1.heap.size ∧ w1.heap.size ≤ w2.heap.size from ⟨hz, hk2.size⟩)
         clear hk2 hr2 hz
         (try simp only [Act.put, List.setIfInBounds_toArray, List.set_cons_zero, List.set_cons_succ]))
      | (go_at_call 10; go_must (refine (HC.out w (Keeps.refl _ _)).mono ?_; rintro e w1 ⟨ov, rfl, hk1, hr1⟩; obtain ⟨oA, oc, rfl, _, _⟩ := id hr1)
         have HK1 := Lib.hid hk1
         have Ho1 := Lib.hid hr1
         clear hk1 hr1
         (try simp only [Act.put, List.setIfInBounds_toArray, List.set_cons_zero, List.set_cons_succ]))
      | (go_at_call 22; have hrun := Check_any own w2 _ _ Ho2.out (fun _ => HT.out.keep HK2.out id); rw [Hck.out] at hrun; go_must (refine hrun.mono ?_; rintro e w3 ⟨rfl, hk3⟩); have HK23 := Lib.hid hk3; clear hrun hk3; (try simp only [Act.put, List.setIfInBounds_toArray, List.set_cons_zero, List.set_cons_succ]))
      | (go_at_call 11; have hrun := RefCheck_any own w3 _ _ (Ho2.out.keep (X' := fun k => w.heap.size ≤ k ∧ k < w1.heap.size) HK23.out (fun _ _ _ => id) (fun _ _ h => h)); rw [Hck.out] at hrun; go_must (refine hrun.mono ?_; rintro e w4 ⟨rfl, hk4⟩); have HK24 := Lib.hid (HK23.out.trans hk4 (fun _ _ h => h)); clear hrun hk4; (try simp only [Act.put, List.setIfInBounds_toArray, List.set_cons_zero, List.set_cons_succ]))
      | (go_at_call 23; go_must (refine (Hnew.out w4 _ _ (Ho2.out.keep (X' := fun k => w.heap.size ≤ k ∧ k < w1.heap.size) HK24.out (fun _ _ _ => id) (fun _ _ h => h)) (fun _ => HT.out.keep (HK2.out.trans HK24.out (fun _ _ h => h)) id)).mono ?_; rintro e w5 ⟨hk5, hx, -⟩; obtain rfl := hx Hc.out)
         have HK25 := Lib.hid (HK24.out.trans hk5 (fun _ _ h => h))
         clear hk5 hx
         (try simp only [Act.put, List.setIfInBounds_toArray, List.set_cons_zero, List.set_cons_succ]))
      | (go_at_call 24; go_must (refine (equal_any own (by omega) Hasks.out _ _ _ _ _ (Ho2.out.keep (X' := fun k => w.heap.size ≤ k ∧ k < w1.heap.size) (HK25.out) (fun _ _ hx hm => by have h1 := Hz12.out; have h2 := hx.2; first | exact hm | omega) (fun _ _ h => h)) (Hr2.out.keep (X' := fun k => w1.heap.size ≤ k ∧ k < w2.heap.size) (HK25.out) (fun _ _ hx hm => by have h1 := Hz12.out; have h2 := hx.2; first | exact hm | omega) (fun _ _ h => h))).mono ?_; rintro e w6 ⟨rfl, hk6⟩); have HKe6 := Lib.hid hk6; clear hk6; (try simp only [Act.put, List.setIfInBounds_toArray, List.set_cons_zero, List.set_cons_succ]))
      | (go_at_call 14; go_must (refine (alive_any w6 (HT.out.keep ((HK2.out.trans HK25.out (fun _ _ h => h)).trans HKe6.out (fun _ _ h => h)) id)).mono ?_; rintro e w7 ⟨rfl, hk7⟩); (try simp only [Act.put, List.setIfInBounds_toArray, List.set_cons_zero, List.set_cons_succ]))
    )
    go_ret
    exact ⟨rfl, ((HK2.out.trans HK25.out (fun _ _ h => h)).trans HKe6.out (fun _ _ h => h)).trans hk7 (fun _ _ h => h)⟩
end Go.Proofs.QW

/-
  From a row's list of laid variables to the table of kinds in memory. Condition: the list that the rows of this seat have.
-/
namespace Go.Proofs.QW
open Go.RowKit Go.Proofs.KL Go.Proofs.QM Go.Lib

theorem tab2_cell {H : Type} {enc : TypeId × Value → H} {P : Program} {w : World} {base : Nat} {sp : Nat → Bool} {held : Bool} {fuel : Nat} {t e ee : TypeId} {n m : Nat} {k : IntKind} {cs : List Value} {rows : List (List Int)} {p : List MemPlace}
    (ht : P.underlying t = some (.array n e)) (he : P.underlying e = some (.array m ee)) (hee : P.underlying ee = some (.int k)) (hcee : P.cellsOf ee = 1) (hce : P.cellsOf e = m)
    (h : DataW.trod enc P w base sp held fuel t cs = some (.agg (rows.map (tabData k)), p)) : ∀ i, i < n → ∀ row, rows[i]? = some row → ∀ j, j < m → cs[i * m + j]? = (row.map fun z => Value.int k z)[j]? := by
  intro i hi row hrow j hj
  cases fuel with
  | zero => simp [DataW.trod] at h
  | succ fuel =>
    simp only [DataW.trod, ht] at h
    split at h
    · obtain ⟨xs, hm, hx⟩ := Option.map_eq_some_iff.1 h
      obtain ⟨b, hb, hf⟩ := mapM_at hm i i (by simp [hi])
      have hxs : xs.map (·.1) = rows.map (tabData k) := by
        have := congrArg Prod.fst hx
        simpa using this
      have hb1 : b.1 = tabData k row := by
        have h2 := congrArg (·[i]?) hxs
        simpa [hb, hrow] using h2
      obtain ⟨b1, b2⟩ := b
      simp only at hb1
      subst hb1
      have := cells_of_tab he hee hcee hce hf
      rw [hce] at this
      rw [← this, List.getElem?_take, if_pos hj, List.getElem?_drop]
    · cases h
theorem gTab : Tryd.prog.globalNamed "marginalia/query.asksOf" = some 0 := by kernel_rfl
theorem gTabType : (Tryd.prog.globals[0]?).map (·.type) = some 110 := by kernel_rfl
theorem cells109 : Tryd.prog.cellsOf 109 = 4 := by kernel_rfl
theorem cells3 : Tryd.prog.cellsOf 3 = 1 := by kernel_rfl
def tabRows : List (List Int) := [[0, 0, 0, 0], [0, 0, 0, 0], [0, 12, 1, 1048576], [2, 12, 0, 0], [0, 12, 0, 0], [2, 2, 0, 0], [1, 1, -1000, 1000]]
theorem tab_of_laid {W : World} (h : laidMet Tryd.prog [("marginalia/query.asksOf", YtohpkolkagddiaaDoor.Rows.laid_marginalia_query_asksOf)] W) : Tab W := by
  obtain ⟨ps, ⟨g', t', cs, fuel, p, q, hg', ht', hvar, hd, _, _⟩, _⟩ := h
  obtain rfl := Option.some.inj (gTab.symm.trans hg')
  obtain rfl := Option.some.inj (gTabType.symm.trans ht')
  have key := tab2_cell (rows := tabRows) Tryd.underlying110 Tryd.underlying109 Tryd.underlying3 cells3 cells109 hd
  have cell : ∀ i j, i < 7 → j < 4 → ∀ row, tabRows[i]? = some row → W.cell? ⟨0, i * 4 + j, none⟩ = (row.map fun z => Value.int .i64 z)[j]? := fun i j hi hj row hrow => by
    rw [← key i hi row hrow j hj]
    have := World.var?_cell gTab hvar (i * 4 + j)
    simpa using this
  intro k h1 h7
  match k, h1, h7 with
  | 1, _, _ => exact ⟨cell 1 0 (by decide) (by decide) _ rfl, cell 1 1 (by decide) (by decide) _ rfl, cell 1 2 (by decide) (by decide) _ rfl, cell 1 3 (by decide) (by decide) _ rfl⟩
  | 2, _, _ => exact ⟨cell 2 0 (by decide) (by decide) _ rfl, cell 2 1 (by decide) (by decide) _ rfl, cell 2 2 (by decide) (by decide) _ rfl, cell 2 3 (by decide) (by decide) _ rfl⟩
  | 3, _, _ => exact ⟨cell 3 0 (by decide) (by decide) _ rfl, cell 3 1 (by decide) (by decide) _ rfl, cell 3 2 (by decide) (by decide) _ rfl, cell 3 3 (by decide) (by decide) _ rfl⟩
  | 4, _, _ => exact ⟨cell 4 0 (by decide) (by decide) _ rfl, cell 4 1 (by decide) (by decide) _ rfl, cell 4 2 (by decide) (by decide) _ rfl, cell 4 3 (by decide) (by decide) _ rfl⟩
  | 5, _, _ => exact ⟨cell 5 0 (by decide) (by decide) _ rfl, cell 5 1 (by decide) (by decide) _ rfl, cell 5 2 (by decide) (by decide) _ rfl, cell 5 3 (by decide) (by decide) _ rfl⟩
  | 6, _, _ => exact ⟨cell 6 0 (by decide) (by decide) _ rfl, cell 6 1 (by decide) (by decide) _ rfl, cell 6 2 (by decide) (by decide) _ rfl, cell 6 3 (by decide) (by decide) _ rfl⟩
end Go.Proofs.QW

/-
  What the claims of layer 22 share: the rule that joins a contract to a row's post, and a world for the witness. No condition.
-/
namespace Go.Proofs.YtohpkolkagddiaaDoor.base
open Go.ChangeShapes Go.WideShapes Go.ChangeAt Go.RowKit
set_option maxRecDepth 100000

/-- As 'post_of_same', where blocks that are new may be of any kind. -/
theorem post_of_old {H : Type} {enc : TypeId × Value → H} {P : Program} {f : Func} {s : ChangeSpec} {apart fresh handsOn again : Bool} {W W' : World} {args : Array Value} {v : Value} {ds gs : List (DataW H)} {before pa pv : List MemPlace}
    (hW : DataW.Whole enc P f.params.toList s.vars apart W args.toList ds gs before)
    (hres : ∀ (b : Nat) (sp : Nat → Bool) (hd : Bool), DataW.TrodAll enc P W' b sp hd f.resultTypes.toList (v.resultList f.resultTypes.size) (s.fn H (ds ++ gs)).results [])
    (hargs : ∀ sp : Nat → Bool, (∀ p ∈ before, sp p.block = true) → DataW.TrodAll enc P W' 0 sp true f.params.toList args.toList (s.fn H (ds ++ gs)).args pa)
    (hvars : ∀ sp : Nat → Bool, (∀ p ∈ before, sp p.block = true) → DataW.TrodVars enc P W' sp s.vars (s.fn H (ds ++ gs)).vars pv)
    (hps : before = pa ++ pv) (hb : Below W.heap.size W W')
    (hok : ∀ (j : Nat) (t : TypeId) (r : Value), f.resultTypes[j]? = some t → (v.resultList f.resultTypes.size)[j]? = some r → Value.okWide P W' .any 0 t r) :
    s.post enc P f apart fresh handsOn again W args v W' := by
  have hlt := hW.lt
  have hold : ∀ p ∈ before, (fun b => decide (b < W.heap.size)) p.block = true := fun p hp => by simpa using hlt p hp
  refine ⟨ds, gs, before, [], pa, pv, hW, hres _ _ _, hargs _ hold, hvars _ hold, World.keptBut_mono (fun p hp => ⟨hp, ?_⟩) (hb.frame (· ∈ before)), fun _ => ?_⟩
  · rw [hps, List.mem_append] at hp
    exact Or.inr hp
  · obtain ⟨_, _, _, _, _, hz, hn⟩ := hW
    refine ⟨hok, _, _, ([] ++ pa) ++ pv, ⟨[] ++ pa, pv, trodAll_append (hargs _ (fun _ _ => rfl)) (hres _ _ _), hvars _ (fun _ _ => rfl), rfl, ?_, ?_⟩, ?_⟩
    · intro b off hp
      have hp' : MemPlace.cell b off ∈ before := by rw [hps]; simpa using hp
      rw [hb.frozen (p := ⟨b, off, none⟩) (hlt _ hp')]
      exact hz b off hp'
    · intro ha
      have := hn ha
      rw [hps] at this
      simpa using this
    · intro p hp _
      rw [hps]
      simpa using hp
theorem own : ownKnob Tryd.prog.godebug = none := by kernel_rfl

/-- A world for the witness: the table (block 0) holds what its initialiser lays. -/
noncomputable def laidWorld (os : Os) : World :=
  { World.holding Tryd.prog os ⟨#[], #[], []⟩ with heap := (World.holding Tryd.prog os ⟨#[], #[], []⟩).heap.modify 0 fun
      | .cells _ t frozen => .cells #[.int .i64 0, .int .i64 0, .int .i64 0, .int .i64 0, .int .i64 0, .int .i64 0, .int .i64 0, .int .i64 0, .int .i64 0, .int .i64 12, .int .i64 1, .int .i64 1048576, .int .i64 2, .int .i64 12, .int .i64 0, .int .i64 0, .int .i64 0, .int .i64 12, .int .i64 0, .int .i64 0, .int .i64 2, .int .i64 2, .int .i64 0, .int .i64 0, .int .i64 1, .int .i64 1, .int .i64 (-1000), .int .i64 1000] t frozen
      | o => o }
end Go.Proofs.YtohpkolkagddiaaDoor.base

/-
  How the statements' arguments lie in memory, out of their readings: lists of ints, and of rules; and that they read behind a call as before. No condition.
-/
namespace Go.Proofs.QW
open Go.RowKit Go.Proofs.KL Go.Proofs.QM Go.ChangeShapes
set_option maxRecDepth 100000

theorem laidOut : laidOutB Tryd.prog = true := by kernel_rfl
theorem spot_none {w : World} {a : Addr} {v : Value} (h : w.cell? a = some v) : ∃ b o, a = ⟨b, o, none⟩ := by
  obtain ⟨b, o, s⟩ := a
  cases s with
  | none => exact ⟨b, o, rfl⟩
  | some x => unfold World.cell? at h; simp only [Option.isSome_some, if_true] at h; split at h <;> cases h
theorem add_at (b o i : Nat) : (⟨b, o, none⟩ : Addr).add i = ⟨b, o + i, none⟩ := by
  unfold Addr.add
  split
  · rename_i h; subst h; rfl
  · rfl
section
variable {H : Type} {enc : TypeId × Value → H} {W : World} {base : Nat} {sp : Nat → Bool} {held : Bool}
theorem ints_of {fuel : Nat} {v : Value} {x : DataW H × List MemPlace} (h : DataW.trod enc Tryd.prog W base sp held fuel 23 [v] = some x) : ∃ zs, IntsX W (fun _ => True) v zs := by
  rcases open_ints Tryd.underlying23 Tryd.underlying3 cells3 h with ⟨hc, _⟩ | ⟨a, len, cap, zs, hc, _, hl, _, hz, _, hcell, _⟩
  · injection hc with hc _
    subst hc
    exact ⟨[], none, 0, rfl, Nat.le_refl _, fun i hi => absurd hi (by simp)⟩
  · injection hc with hc _
    subst hc
    have hle : len ≤ zs.length := by rw [hz]; split <;> omega
    have hlt : (zs.take len).length = len := by rw [List.length_take]; omega
    refine ⟨zs.take len, some a, cap, by rw [hlt], by omega, fun i hi => ?_⟩
    rw [hlt] at hi
    obtain ⟨b, o, rfl⟩ := spot_none (hcell 0 (by omega) : W.cell? (a.add 0) = _)
    refine ⟨b, o, rfl, trivial, ?_⟩
    have := hcell i (by omega)
    rw [add_at] at this
    rw [this, List.getD_eq_getElem?_getD, List.getD_eq_getElem?_getD, List.getElem?_take, if_pos hi]
theorem list_of {α : Type} [Inhabited α] {n : Nat} {p : Nat → α → Prop} (h : ∀ i, i < n → ∃ a, p i a) : ∃ l : List α, l.length = n ∧ ∀ i, i < n → p i (l.getD i default) := by
  induction n with
  | zero => exact ⟨[], rfl, fun i hi => absurd hi (by omega)⟩
  | succ n ih =>
    obtain ⟨l, hl, hp⟩ := ih (fun i hi => h i (by omega))
    obtain ⟨a, ha⟩ := h n (by omega)
    refine ⟨l ++ [a], by simp [hl], fun i hi => ?_⟩
    rw [List.getD_eq_getElem?_getD, List.getElem?_append]
    by_cases e : i < n
    · rw [if_pos (by omega), ← List.getD_eq_getElem?_getD]; exact hp i e
    · obtain rfl : i = n := by omega
      rw [if_neg (by omega), hl]; simpa using ha
theorem cells72 : Tryd.prog.cellsOf 72 = 3 := by kernel_rfl
theorem cells23 : Tryd.prog.cellsOf 23 = 1 := by kernel_rfl
theorem one_of {l : List Value} {i : Nat} {v : Value} (h : l[i]? = some v) : (l.drop i).take 1 = [v] := by
  obtain ⟨hi, hv⟩ := List.getElem?_eq_some_iff.1 h
  rw [List.drop_eq_getElem_cons hi, hv]; rfl
theorem rules_of {fuel : Nat} {v : Value} {x : DataW H × List MemPlace} (h : DataW.trod enc Tryd.prog W base sp held fuel 22 [v] = some x) : ∃ rs, RulesX W (fun _ => True) v rs := by
  rcases DataW.trod_slice Tryd.underlying22 h with ⟨hc, _⟩ | ⟨a, len, cap, elems, rest, n, _, hc, _, _, hl, _, hel, hget, _, _⟩
  · injection hc with hc _
    subst hc
    exact ⟨[], none, 0, rfl, Nat.le_refl _, fun i hi => absurd hi (by simp)⟩
  · injection hc with hc _
    subst hc
    have key : ∀ i, i < len → ∃ r : QRule, ∃ u b o, a = ⟨b, o, none⟩ ∧ W.cell? ⟨b, o + i * 3, none⟩ = some (.int .i64 r.kind) ∧ W.cell? ⟨b, o + i * 3 + 1, none⟩ = some (.int .i64 r.n) ∧ W.cell? ⟨b, o + i * 3 + 2, none⟩ = some u ∧ IntsX W (fun _ => True) u r.asks := by
      intro i hi
      have hg := hget i hi
      rw [List.getElem?_eq_getElem (by omega), cells72] at hg
      obtain ⟨cs, hcs, hst⟩ := Option.bind_eq_some_iff.1 hg
      obtain ⟨_, hlen, hcell⟩ := World.cells?_some hcs
      obtain ⟨xs, m, _, _, _, hxl, hf⟩ := DataW.trod_struct Tryd.underlying72 hst
      have e0 := hcell 0 (by omega)
      have e1 := hcell 1 (by omega)
      have e2 := hcell 2 (by omega)
      have f0 : DataW.trod enc Tryd.prog W base sp held m 3 ((cs.drop 0).take (Tryd.prog.cellsOf 3)) = xs[0]? := hf 0 _ rfl
      have f1 : DataW.trod enc Tryd.prog W base sp held m 3 ((cs.drop 1).take (Tryd.prog.cellsOf 3)) = xs[1]? := hf 1 _ rfl
      have f2 : DataW.trod enc Tryd.prog W base sp held m 23 ((cs.drop 2).take (Tryd.prog.cellsOf 23)) = xs[2]? := hf 2 _ rfl
      rw [cells3] at f0 f1
      rw [cells23] at f2
      have hxs : xs.length = 3 := hxl
      rw [one_of (List.getElem?_eq_getElem (by omega)), List.getElem?_eq_getElem (by omega)] at f0 f1 f2
      obtain ⟨k0, hk0, _, _⟩ := DataW.trod_int Tryd.underlying3 f0
      obtain ⟨k1, hk1, _, _⟩ := DataW.trod_int Tryd.underlying3 f1
      obtain ⟨zs, hzs⟩ := ints_of f2
      injection hk0 with hk0 _
      injection hk1 with hk1 _
      rw [List.getElem?_eq_getElem (by omega)] at e0 e1 e2
      rw [hk0] at e0
      rw [hk1] at e1
      have hadd : (a.add (i * 3)).add 0 = a.add (i * 3) := by simp [Addr.add]
      rw [hadd] at e0
      have hsp : ∃ b o, a = ⟨b, o, none⟩ := by
        by_cases h0 : i = 0
        · subst h0
          rw [show (0 * 3 : Nat) = 0 from rfl, show a.add 0 = a by simp [Addr.add]] at e0
          exact spot_none e0
        · have hg0 := hget 0 (by omega)
          rw [List.getElem?_eq_getElem (by omega), cells72] at hg0
          obtain ⟨cs0, hcs0, _⟩ := Option.bind_eq_some_iff.1 hg0
          obtain ⟨_, hlen0, hcell0⟩ := World.cells?_some hcs0
          have := hcell0 0 (by omega)
          rw [List.getElem?_eq_getElem (by omega), show (0 * 3 : Nat) = 0 from rfl, show (a.add 0).add 0 = a by simp [Addr.add]] at this
          exact spot_none this
      obtain ⟨b, o, rfl⟩ := hsp
      simp only [add_at] at e0 e1 e2
      exact ⟨⟨k0, k1, zs⟩, _, b, o, rfl, e0, e1, e2, hzs⟩
    obtain ⟨rs, hrl, hp⟩ := list_of key
    refine ⟨rs, some a, cap, by rw [hrl], by omega, fun i hi => ?_⟩
    obtain ⟨u, b, o, rfl, e0, e1, e2, hu⟩ := hp i (by omega)
    exact ⟨b, o, u, rfl, trivial, e0, e1, e2, hu⟩
/-- An argument reads behind a call that wrote nothing old as it did before. -/
theorem arg_stays {t : TypeId} (hr : Tryd.prog.readableRec t = true) (hrow : t < Tryd.prog.types.size) {W' : World} {sp' : Nat → Bool} {v : Value} {d : DataW H} {ps : List MemPlace} (h : DataW.Trod enc Tryd.prog W 0 (fun _ => true) true t v d ps) (hk : Keeps Nob W W')
    (hlt : ∀ p ∈ ps, p.block < W.heap.size) (hs : ∀ p ∈ ps, sp' p.block = true) : DataW.Trod enc Tryd.prog W' 0 sp' true t v d ps :=
  WideElems.Trod_stays laidOut hr hrow h (fun p hp => hk.below.same (hlt p hp)) hs
end
end Go.Proofs.QW

/-
  How the calls of the statements of layer 22 lie in memory, out of their readings. No condition.
-/
namespace Go.Proofs.QW
open Go.RowKit Go.Proofs.KL Go.Proofs.QM Go.ChangeShapes
set_option maxRecDepth 100000

theorem cells56 : Tryd.prog.cellsOf 56 = 3 := by kernel_rfl
theorem cells5 : Tryd.prog.cellsOf 5 = 1 := by kernel_rfl
section
variable {H : Type} {enc : TypeId × Value → H} {W : World} {base : Nat} {sp : Nat → Bool} {held : Bool}
theorem acts_of {fuel : Nat} {v : Value} {x : DataW H × List MemPlace} (h : DataW.trod enc Tryd.prog W base sp held fuel 34 [v] = some x) : ∃ acts, ActsX W (fun _ => True) v acts := by
  rcases DataW.trod_slice Tryd.underlying34 h with ⟨hc, _⟩ | ⟨a, len, cap, elems, rest, n, _, hc, _, _, hl, _, hel, hget, _, _⟩
  · injection hc with hc _
    subst hc
    exact ⟨[], none, 0, rfl, Nat.le_refl _, fun i hi => absurd hi (by simp)⟩
  · injection hc with hc _
    subst hc
    have key : ∀ i, i < len → ∃ r : ActR, ∃ b o, a = ⟨b, o, none⟩ ∧ W.cell? ⟨b, o + i * 3, none⟩ = some (.int .u8 r.kind) ∧ W.cell? ⟨b, o + i * 3 + 1, none⟩ = some (.int .i64 r.q) ∧ W.cell? ⟨b, o + i * 3 + 2, none⟩ = some (.int .i64 r.v) ∧ (0 ≤ r.kind ∧ r.kind ≤ 255) ∧ r.v ≤ 9223372036854775807 := by
      intro i hi
      have hg := hget i hi
      rw [List.getElem?_eq_getElem (by omega), cells56] at hg
      obtain ⟨cs, hcs, hst⟩ := Option.bind_eq_some_iff.1 hg
      obtain ⟨_, hlen, hcell⟩ := World.cells?_some hcs
      obtain ⟨xs, m, _, _, _, hxl, hf⟩ := DataW.trod_struct Tryd.underlying56 hst
      have e0 := hcell 0 (by omega)
      have e1 := hcell 1 (by omega)
      have e2 := hcell 2 (by omega)
      have f0 : DataW.trod enc Tryd.prog W base sp held m 5 ((cs.drop 0).take (Tryd.prog.cellsOf 5)) = xs[0]? := hf 0 _ rfl
      have f1 : DataW.trod enc Tryd.prog W base sp held m 3 ((cs.drop 1).take (Tryd.prog.cellsOf 3)) = xs[1]? := hf 1 _ rfl
      have f2 : DataW.trod enc Tryd.prog W base sp held m 3 ((cs.drop 2).take (Tryd.prog.cellsOf 3)) = xs[2]? := hf 2 _ rfl
      rw [cells5] at f0
      rw [cells3] at f1 f2
      have hxs : xs.length = 3 := hxl
      rw [one_of (List.getElem?_eq_getElem (by omega)), List.getElem?_eq_getElem (by omega)] at f0 f1 f2
      obtain ⟨k0, hk0, _, w0⟩ := DataW.trod_int Tryd.underlying5 f0
      obtain ⟨k1, hk1, _, _⟩ := DataW.trod_int Tryd.underlying3 f1
      obtain ⟨k2, hk2, _, w2⟩ := DataW.trod_int Tryd.underlying3 f2
      injection hk0 with hk0 _
      injection hk1 with hk1 _
      injection hk2 with hk2 _
      rw [List.getElem?_eq_getElem (by omega)] at e0 e1 e2
      rw [hk0] at e0
      rw [hk1] at e1
      rw [hk2] at e2
      have hadd : (a.add (i * 3)).add 0 = a.add (i * 3) := by simp [Addr.add]
      rw [hadd] at e0
      have hsp : ∃ b o, a = ⟨b, o, none⟩ := by
        by_cases h0 : i = 0
        · subst h0
          rw [show (0 * 3 : Nat) = 0 from rfl, show a.add 0 = a by simp [Addr.add]] at e0
          exact spot_none e0
        · have hg0 := hget 0 (by omega)
          rw [List.getElem?_eq_getElem (by omega), cells56] at hg0
          obtain ⟨cs0, hcs0, _⟩ := Option.bind_eq_some_iff.1 hg0
          obtain ⟨_, hlen0, hcell0⟩ := World.cells?_some hcs0
          have := hcell0 0 (by omega)
          rw [List.getElem?_eq_getElem (by omega), show (0 * 3 : Nat) = 0 from rfl, show (a.add 0).add 0 = a by simp [Addr.add]] at this
          exact spot_none this
      obtain ⟨b, o, rfl⟩ := hsp
      simp only [add_at] at e0 e1 e2
      simp only [Lit.wf, Bool.and_eq_true, decide_eq_true_eq] at w0 w2
      rw [show IntKind.u8.min = 0 by decide, show IntKind.u8.max = 255 by decide] at w0
      rw [show IntKind.i64.max = 9223372036854775807 by decide] at w2
      exact ⟨⟨k0, k1, k2⟩, b, o, rfl, e0, e1, e2, by simp only; omega, by simp only; omega⟩
    obtain ⟨acts, hrl, hp⟩ := list_of key
    refine ⟨acts, some a, cap, by rw [hrl], by omega, fun i hi => ?_⟩
    obtain ⟨b, o, rfl, e0, e1, e2, hu⟩ := hp i (by omega)
    exact ⟨b, o, rfl, trivial, e0, e1, e2, hu⟩
end
end Go.Proofs.QW
