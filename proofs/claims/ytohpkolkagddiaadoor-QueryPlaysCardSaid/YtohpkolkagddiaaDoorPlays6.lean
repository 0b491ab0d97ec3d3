/-
  Calls of the specification's engine at rest, in memory: Ask, Put, Forget come to the model's. Condition: the engine lies and is in order.
-/
import Derived.Test.YtohpkolkagddiaaDoorPlays5
namespace Go.Proofs.QW
open Go.RowKit Go.Proofs.KL Go.Proofs.QM
set_option maxRecDepth 100000
set_option linter.unusedSimpArgs false
set_option linter.unusedVariables false

/-- The specification's engine at rest. -/
def RefAt (w : World) (X : Nat → Prop) (wb sb hb kb nb : Nat) (E : Env) (ans : List (Option KeptR)) (dv : Value) : Prop := ∃ done m, RefC w X wb sb hb kb nb (Env.bound E m) [] ⟨ans, done⟩ dv
/-- The blocks of its own. -/
def MAll (wb sb hb kb nb : Nat) (dv : Value) : Nat → Prop := fun k => k = wb ∨ k = sb ∨ k = hb ∨ k = kb ∨ k = nb ∨ some k = dv.ownBlock
/-- What a call of it leaves. -/
structure RefLeft (w : World) (X : Nat → Prop) (wb sb hb kb nb : Nat) (dv : Value) (w' : World) (X' : Nat → Prop) (dv' : Value) : Prop where
  xx : ∀ b, b < w.heap.size → (X' b ↔ X b)
  keep : Keeps (MAll wb sb hb kb nb dv) w w'
  row : ∀ b, dv'.ownBlock = some b → dv.ownBlock = some b ∨ w.heap.size ≤ b
theorem RefLeft.refl (w : World) (X : Nat → Prop) (wb sb hb kb nb : Nat) (dv : Value) : RefLeft w X wb sb hb kb nb dv w X dv := ⟨fun _ _ => Iff.rfl, Keeps.refl _ _, fun _ h => .inl h⟩
theorem RefAt.keep {M : Nat → Prop} {w w' : World} {X : Nat → Prop} {wb sb hb kb nb : Nat} {E : Env} {ans : List (Option KeptR)} {dv : Value} (h : RefAt w X wb sb hb kb nb E ans dv) (hk : Keeps M w w') (hM : ∀ k, k < w.heap.size → M k → ¬ RefB wb sb hb kb nb dv X k) : RefAt w' X wb sb hb kb nb E ans dv := by
  obtain ⟨done, m, h⟩ := h
  exact ⟨done, m, h.keep hk hM⟩
theorem RefAt.after {w w' : World} {X : Nat → Prop} {wb sb hb kb nb : Nat} {E : Env} {ans : List (Option KeptR)} {dv : Value} (h : RefAt w X wb sb hb kb nb E ans dv) (hk : Keeps Nob w w') : RefAt w' X wb sb hb kb nb E ans dv := h.keep hk (fun _ _ h => h.elim)
theorem RefAt.fp_lt {w : World} {X : Nat → Prop} {wb sb hb kb nb : Nat} {E : Env} {ans : List (Option KeptR)} {dv : Value} (h : RefAt w X wb sb hb kb nb E ans dv) : ∀ k, RefB wb sb hb kb nb dv X k → k < w.heap.size := by
  obtain ⟨done, m, h⟩ := h
  exact h.fp_lt
section
variable {w w' : World} {X : Nat → Prop} {wb sb hb kb nb : Nat} {E : Env} {on : List Int} {s : PS} {dv : Value} {m m' : Int}
/-- A call begins: nothing was done, and its bound. -/
theorem RefC.renew {rv : Value} (h : RefC w X wb sb hb kb nb (Env.bound E m) on s dv) (hw : w.heap[wb]? = some (.cells #[rv, .slice (some ⟨sb, 0, none⟩) E.rules.length E.rules.length, .slice (some ⟨hb, 0, none⟩) E.rules.length E.rules.length, .slice (some ⟨kb, 0, none⟩) E.rules.length E.rules.length, .int .i64 E.rev, .slice (some ⟨nb, 0, none⟩) E.rules.length E.rules.length, dv, .int .i64 m] 100 (0, 0))) (hk : Keeps (· = wb) w w')
    (hb' : w'.heap[wb]? = some (.cells #[rv, .slice (some ⟨sb, 0, none⟩) E.rules.length E.rules.length, .slice (some ⟨hb, 0, none⟩) E.rules.length E.rules.length, .slice (some ⟨kb, 0, none⟩) E.rules.length E.rules.length, .int .i64 E.rev, .slice (some ⟨nb, 0, none⟩) E.rules.length E.rules.length, .slice none 0 0, .int .i64 m'] 100 (0, 0))) :
    RefC w' X wb sb hb kb nb (Env.bound E m') on ⟨s.ans, []⟩ (.slice none 0 0) := by
  obtain ⟨⟨a1, a2, a3, a4⟩, -⟩ := h.apart
  obtain ⟨⟨rv', b1, b2⟩, h2, h3, h4, h5, h6, x1, x2, x3, x4, x5, x6, x7, x8, x9, x10⟩ := h
  have hrv : rv' = rv := by
    have := b1.symm.trans hw
    injection this with this
    injection this with this _ _
    exact Option.some.inj (show some rv' = some rv from congrArg (fun x : Array Value => x[0]?) this)
  have hX : ∀ b, b < w.heap.size → X b → ¬ b = wb := fun b _ hx e => x1 (e ▸ hx)
  exact ⟨⟨rv, hb', (hrv ▸ b2).keep hk hX (fun _ _ h => h)⟩, h2.keep hk (fun e => a1 e.symm), h3.keep hk (fun e => a2 e.symm), h4.keep hk (fun e => a3 e.symm) hX (fun _ _ h => h), h5.keep hk (fun e => a4 e.symm), ⟨rfl, .inl ⟨rfl, rfl⟩⟩, x1, x2, x3, x4, x5, fun b hb => (by cases hb), fun e => (by cases e), fun e => (by cases e), x9, fun k hx => Nat.lt_of_lt_of_le (x10 k hx) hk.size⟩
/-- An input is set. -/
theorem RefC.setted {rv : Value} {inp ch : List Int} {r : Int} (h : RefC w X wb sb hb kb nb (Env.bound E m) on s dv) (hw : w.heap[wb]? = some (.cells #[rv, .slice (some ⟨sb, 0, none⟩) E.rules.length E.rules.length, .slice (some ⟨hb, 0, none⟩) E.rules.length E.rules.length, .slice (some ⟨kb, 0, none⟩) E.rules.length E.rules.length, .int .i64 E.rev, .slice (some ⟨nb, 0, none⟩) E.rules.length E.rules.length, dv, .int .i64 m] 100 (0, 0)))
    (hk : Keeps (fun k => k = wb ∨ k = sb ∨ k = hb) w w')
    (hb' : w'.heap[wb]? = some (.cells #[rv, .slice (some ⟨sb, 0, none⟩) E.rules.length E.rules.length, .slice (some ⟨hb, 0, none⟩) E.rules.length E.rules.length, .slice (some ⟨kb, 0, none⟩) E.rules.length E.rules.length, .int .i64 r, .slice (some ⟨nb, 0, none⟩) E.rules.length E.rules.length, dv, .int .i64 m] 100 (0, 0)))
    (hs : SetX w' sb E.rules.length inp) (hh : SetX w' hb E.rules.length ch) :
    RefC w' X wb sb hb kb nb (Env.bound { E with inp := inp, inpCh := ch, rev := r } m) on s dv := by
  obtain ⟨⟨a1, a2, a3, a4⟩, ⟨a5, a6⟩, ⟨a7, a8⟩, a9⟩ := h.apart
  obtain ⟨d1, d2, d3, d4, d5⟩ := h.apartD
  obtain ⟨⟨rv', b1, b2⟩, h2, h3, h4, h5, h6, x1, x2, x3, x4, x5, x6, x7, x8, x9, x10⟩ := h
  have hrv : rv' = rv := by
    have := b1.symm.trans hw
    injection this with this
    injection this with this _ _
    exact Option.some.inj (show some rv' = some rv from congrArg (fun x : Array Value => x[0]?) this)
  have hX : ∀ b, b < w.heap.size → X b → ¬ (b = wb ∨ b = sb ∨ b = hb) := fun b _ hx e => by
    rcases e with rfl | rfl | rfl
    · exact x1 hx
    · exact x2 hx
    · exact x3 hx
  have n1 : ∀ {b : Nat}, wb ≠ b → sb ≠ b → hb ≠ b → ¬ (b = wb ∨ b = sb ∨ b = hb) := fun h1 h2 h3 e => by
    rcases e with e | e | e
    · exact h1 e.symm
    · exact h2 e.symm
    · exact h3 e.symm
  exact ⟨⟨rv, hb', (hrv ▸ b2).keep hk hX (fun _ _ h => h)⟩, hs, hh, h4.keep hk (n1 a3 a5 a7) hX (fun _ _ h => h), h5.keep hk (n1 a4 a6 a8), ownsRow_keep h6 hk (fun b hb e => by
      rcases e with rfl | rfl | rfl
      · exact d1 hb.symm
      · exact d2 hb.symm
      · exact d3 hb.symm), x1, x2, x3, x4, x5, x6, x7, x8, x9, fun k hx => Nat.lt_of_lt_of_le (x10 k hx) hk.size⟩
theorem RefPost.left {w1 : World} {X' : Nat → Prop} {dv' : Value} {s' : PS} (hk : Keeps (· = wb) w w1) (h : RefPost w1 X wb sb hb kb nb E on (.slice none 0 0) s' w' X' dv') : RefLeft w X wb sb hb kb nb dv w' X' dv' :=
  ⟨fun b hb => h.xx b (Nat.lt_of_lt_of_le hb hk.size), (hk.mono (fun _ _ e => .inl e)).trans h.keep (fun i _ hm => by
    rcases hm with e | e | e | e
    · exact .inl e
    · exact .inr (.inr (.inr (.inl e)))
    · exact .inr (.inr (.inr (.inr (.inl e))))
    · cases e), fun b hb => by
    rcases h.row with e | ⟨b', e, hl⟩
    · rw [e] at hb; cases hb
    · rw [e] at hb; injection hb with hb; subst hb; exact .inr (Nat.le_trans hk.size hl)⟩
end
def RefAskOut (w : World) (X : Nat → Prop) (wb sb hb kb nb : Nat) (E : Env) (dv : Value) (r : AskRes) (e : Ending) (w' : World) : Prop :=
  ∃ X' dv' wl, e = .returned (.tuple #[.int .i64 r.v, wl, .int .i64 r.e]) ∧ RefLeft w X wb sb hb kb nb dv w' X' dv' ∧ RefAt w' X' wb sb hb kb nb E r.ans dv' ∧ IntsX w' (fun _ => True) wl r.worked
set_option maxHeartbeats 2000000 in
/-- ASK. -/
theorem RefAsk_any {rs : List QRule} {n : Int} {E : Env} {ans : List (Option KeptR)} (hS : SInv rs n (E, ans)) (w : World) (X : Nat → Prop) (wb sb hb kb nb : Nat) (dv : Value) (q most : Int) (hm : most ≤ 9223372036854775807) (h : RefAt w X wb sb hb kb nb E ans dv) :
    Calls Tryd.prog 62 #[.pointer (some ⟨wb, 0, none⟩), .int .i64 q, .int .i64 most] w (RefAskOut w X wb sb hb kb nb E dv (askR E ans q most)) := by
  obtain ⟨done, m, hc⟩ := h
  have hhas := Lib.hid (refHas hc q)
  obtain ⟨R, hR⟩ : ∃ x, askR E ans q most = x := ⟨_, rfl⟩
  rw [hR]
  unfold askR at hR
  have Hc := Lib.hid hc
  by_cases hq : isErr E.rules.length q ≠ 0
  · rw [if_pos hq] at hR
    have hf : decide (isErr (Env.bound E m).rules.length q = 0) = false := decide_eq_false hq
    rw [hf] at hhas
    have HR := Lib.hid hR
    clear hf hR hq hc hS
    go_enter Tryd.func62, Tryd.ntmps62
    go_wp2_with (go_at_call 60; go_must (refine hhas.out.mono ?_; rintro e w' ⟨rfl, rfl⟩))
    go_ret3
    rw [← HR.out]
    exact ⟨X, dv, _, rfl, RefLeft.refl _ _ _ _ _ _ _ _, ⟨done, m, Hc.out⟩, nil_ints _ _⟩
  · rw [if_neg hq] at hR
    have hq0 : isErr E.rules.length q = 0 := by omega
    have hf : decide (isErr (Env.bound E m).rules.length q = 0) = true := decide_eq_true hq0
    rw [hf] at hhas
    have Hq := Lib.hid (isErr_in hq)
    clear hf hq
    by_cases hneg : most < 0
    · rw [if_pos hneg] at hR
      have HR := Lib.hid hR
      clear hR hc hS hq0
      go_enter Tryd.func62, Tryd.ntmps62
      go_wp2_with (go_at_call 60; go_must (refine hhas.out.mono ?_; rintro e w' ⟨rfl, rfl⟩))
      go_ret3
      rw [← HR.out]
      exact ⟨X, dv, _, rfl, RefLeft.refl _ _ _ _ _ _ _ _, ⟨done, m, Hc.out⟩, nil_ints _ _⟩
    · rw [if_neg hneg] at hR
      have h0 : 0 ≤ most := by omega
      have Hall := Lib.hid (refAsk_all (hS.env h0 hm) (E.rules.length + 1) [] (by simp [Env.bound]))
      have Hpi := Lib.hid (hS.pinv h0)
      obtain ⟨rv, hwb, -⟩ := hc.blk
      obtain ⟨i3, hi3, hs3⟩ := infoS3
      obtain ⟨i23, hi23, hs23⟩ := info23
      have HI := Lib.hid (And.intro (And.intro hi23 hs23) (And.intro hi3 hs3))
      have Hwb := Lib.hid (show w.heap[wb]? = some (.cells #[rv, .slice (some ⟨sb, 0, none⟩) E.rules.length E.rules.length, .slice (some ⟨hb, 0, none⟩) E.rules.length E.rules.length, .slice (some ⟨kb, 0, none⟩) E.rules.length E.rules.length, .int .i64 E.rev, .slice (some ⟨nb, 0, none⟩) E.rules.length E.rules.length, dv, .int .i64 m] 100 (0, 0)) from hwb)
      have HR := Lib.hid hR
      clear hR hc hS hq0 hwb hi3 hs3 hi23 hs23 hm
      go_enter Tryd.func62, Tryd.ntmps62
      go_wp2_with (first
        | (go_at_call 60; go_must (refine hhas.out.mono ?_; rintro e w' ⟨rfl, rfl⟩))
        | ((with_reducible refine at_store (t := 23) (p := 23) rfl ?_); go_must (refine ev_store (cs' := #[rv, .slice (some ⟨sb, 0, none⟩) E.rules.length E.rules.length, .slice (some ⟨hb, 0, none⟩) E.rules.length E.rules.length, .slice (some ⟨kb, 0, none⟩) E.rules.length E.rules.length, .int .i64 E.rev, .slice (some ⟨nb, 0, none⟩) E.rules.length E.rules.length, .slice none 0 0, .int .i64 m]) rfl rfl rfl rfl rfl rfl HI.out.1.1 HI.out.1.2 rfl Hwb.out (Nat.le_of_ble_eq_true rfl) rfl ?_; intro w1 hb1 hk1); have Hb1 := Lib.hid hb1; have HK1 := Lib.hid hk1; clear hb1 hk1; (try simp only [Act.put, List.setIfInBounds_toArray, List.set_cons_zero, List.set_cons_succ]))
        | ((with_reducible refine at_store (t := 3) (p := 25) rfl ?_); go_must (refine ev_store (cs' := #[rv, .slice (some ⟨sb, 0, none⟩) E.rules.length E.rules.length, .slice (some ⟨hb, 0, none⟩) E.rules.length E.rules.length, .slice (some ⟨kb, 0, none⟩) E.rules.length E.rules.length, .int .i64 E.rev, .slice (some ⟨nb, 0, none⟩) E.rules.length E.rules.length, .slice none 0 0, .int .i64 most]) rfl rfl rfl rfl rfl rfl HI.out.2.1 HI.out.2.2 rfl Hb1.out (Nat.le_of_ble_eq_true rfl) rfl ?_; intro w2 hb2 hk2)
           have HK2 := Lib.hid (show Keeps (· = wb) w w2 from HK1.out.trans hk2 (fun _ _ h => h))
           have Hc2 := Lib.hid (Hc.out.renew Hwb.out HK2.out hb2)
           clear hb2 hk2
           (try simp only [Act.put, List.setIfInBounds_toArray, List.set_cons_zero, List.set_cons_succ]))
        | (go_at_call 69; go_must (refine (Hall.out w2 X wb sb hb kb nb ⟨ans, []⟩ (.slice none 0 0) q Hc2.out Hpi.out Hq.out).mono ?_; rintro e w3 ⟨X3, dv3, hp3, rfl⟩; obtain ⟨dA, dc, rfl⟩ := own_slice hp3.core.own)
           have hbk3 : ∃ rv3, w3.heap[wb]? = some (.cells #[rv3, .slice (some ⟨sb, 0, none⟩) E.rules.length E.rules.length, .slice (some ⟨hb, 0, none⟩) E.rules.length E.rules.length, .slice (some ⟨kb, 0, none⟩) E.rules.length E.rules.length, .int .i64 E.rev, .slice (some ⟨nb, 0, none⟩) E.rules.length E.rules.length, .slice dA (askF (Env.bound E most) (E.rules.length + 1) [] ⟨ans, []⟩ q).1.done.length dc, .int .i64 most] 100 (0, 0)) ∧ True := by obtain ⟨rv3, h, _⟩ := hp3.core.blk; exact ⟨rv3, h, trivial⟩
           obtain ⟨rv3, hb3, -⟩ := hbk3
           have p6 := (blk_cell hb3 6).trans rfl
           have Hp3 := Lib.hid hp3
           clear hp3 hb3
           (try simp only [Act.put, List.setIfInBounds_toArray, List.set_cons_zero, List.set_cons_succ]))
      )
      generalize hdl : (askF (Env.bound E most) (E.rules.length + 1) [] ⟨ans, []⟩ q).1.done.length = dl at *
      refine wp_region_perm [(0, true), (1, true), (2, true), (3, true), (4, true), (5, true), (6, true), (7, true), (8, true)] (fun w' => w'.cell? ⟨wb, 6, none⟩ = some (.slice dA dl dc)) rfl (by kernel_rfl) (by kernel_rfl) (by decide) (fun c a d v w h => by cases d <;> exact h) p6 ?_
      refine perm_q (v := ?v1_0) (some 32) rfl rfl rfl ?q1_0 ?h1_0; (case q1_0 => (intro w' hS; skip; first | (go_simp; done) | (go_simp; rfl))); (try simp only [Act.put, List.setIfInBounds_toArray, List.set_cons_zero, List.set_cons_succ])
      refine perm_q (v := ?v1_1) (some 33) rfl rfl rfl ?q1_1 ?h1_1; (case q1_1 => (intro w' hS; skip; first | (go_simp; done) | (go_simp; rfl))); (try simp only [Act.put, List.setIfInBounds_toArray, List.set_cons_zero, List.set_cons_succ])
      refine perm_q (v := ?v1_2) (some 34) rfl rfl rfl ?q1_2 ?h1_2; (case q1_2 => (intro w' hS; skip; first | (go_simp; done) | (go_simp; rfl))); (try simp only [Act.put, List.setIfInBounds_toArray, List.set_cons_zero, List.set_cons_succ])
      refine perm_q (v := ?v1_3) (some 35) rfl rfl rfl ?q1_3 ?h1_3; (case q1_3 => (intro w' hS; skip; first | (go_simp; done) | (go_simp; rfl))); (try simp only [Act.put, List.setIfInBounds_toArray, List.set_cons_zero, List.set_cons_succ])
      refine perm_q (v := ?v1_4) (some 36) rfl rfl rfl ?q1_4 ?h1_4; (case q1_4 => (intro w' hS; skip; first | (go_simp; done) | (go_simp; rfl))); (try simp only [Act.put, List.setIfInBounds_toArray, List.set_cons_zero, List.set_cons_succ])
      refine perm_q (v := ?v1_5) (some 37) rfl rfl rfl ?q1_5 ?h1_5; (case q1_5 => (intro w' hS; skip; first | (go_simp; done) | (go_simp; rfl))); (try simp only [Act.put, List.setIfInBounds_toArray, List.set_cons_zero, List.set_cons_succ])
      refine perm_q (v := ?v1_6) (some 6) rfl rfl rfl ?q1_6 ?h1_6; (case q1_6 => (intro w' hS; skip; first | (go_simp; done) | (go_simp; rfl))); (try simp only [Act.put, List.setIfInBounds_toArray, List.set_cons_zero, List.set_cons_succ])
      refine perm_q (v := ?v1_7) (some 7) rfl rfl rfl ?q1_7 ?h1_7; (case q1_7 => (intro w' hS; skip; first | (go_simp; done) | (go_simp; rfl))); (try simp only [Act.put, List.setIfInBounds_toArray, List.set_cons_zero, List.set_cons_succ])
      refine perm_q (v := ?v1_8) (some 8) rfl rfl rfl ?q1_8 ?h1_8; (case q1_8 => (intro w' hS; skip; first | (go_simp; done) | (go_simp; rfl))); (try simp only [Act.put, List.setIfInBounds_toArray, List.set_cons_zero, List.set_cons_succ])
      refine perm_nil ?_
      go_wp2
      go_ret3
      rw [← HR.out]
      have hrow := IntsX.own (xs := (askF (Env.bound E most) (E.rules.length + 1) [] ⟨ans, []⟩ q).1.done) (ownsRow_keep Hp3.out.core.own (Keeps.refl Nob w3).drew (fun _ _ => id)) (fun _ => True) (fun _ _ => trivial)
      refine ⟨X3, _, _, rfl, RefPost.left HK2.out (Hp3.out.then (Keeps.refl Nob w3).drew (fun _ _ h => h.elim)), ⟨_, _, Hp3.out.core.after (Keeps.refl Nob w3).drew⟩, ?_⟩
      exact hrow
end Go.Proofs.QW

/-
  Calls of the specification's engine at rest, in memory: Put and Forget come to the model's. Condition: the engine lies and is in order.
-/
namespace Go.Proofs.QW
open Go.RowKit Go.Proofs.KL Go.Proofs.QM
set_option maxRecDepth 100000
set_option linter.unusedSimpArgs false
set_option linter.unusedVariables false

theorem SetX.put {w w' : World} {sb n q : Nat} {xs : List Int} {cs : Array Value} {v : Int} (hl : xs.length = n) (h : ∀ i, i < n → cs[i]? = some (.int .i64 (xs.getD i 0))) (hq : q < n) (hb : w'.heap[sb]? = some (.cells (splice cs q (.int .i64 v)) 3 (0, 0))) : SetX w' sb n (xs.set q v) := by
  refine ⟨_, hb, fun i hi => ?_⟩
  rw [splice_get (pget_size (h q hq)), getD_set (by omega)]
  by_cases e : i = q
  · rw [if_pos e, if_pos e]
  · rw [if_neg e, if_neg e]; exact h i hi
set_option maxHeartbeats 2000000 in
/-- PUT. -/
theorem RefPut_any {rs : List QRule} {n : Int} {E : Env} {ans : List (Option KeptR)} (hS : SInv rs n (E, ans)) (w : World) (X : Nat → Prop) (wb sb hb kb nb : Nat) (dv : Value) (q v : Int) (h : RefAt w X wb sb hb kb nb E ans dv) :
    Calls Tryd.prog 45 #[.pointer (some ⟨wb, 0, none⟩), .int .i64 q, .int .i64 v] w fun e w' => e = .returned (.int .i64 (setF E q v).2) ∧ RefLeft w X wb sb hb kb nb dv w' X dv ∧ RefAt w' X wb sb hb kb nb (setF E q v).1 ans dv := by
  obtain ⟨done, m, hc⟩ := h
  have h200 : E.rules.length ≤ 200 := hS.ok.len
  have hhas := Lib.hid (refHas hc q)
  obtain ⟨R, hR⟩ : ∃ r, setF E q v = r := ⟨_, rfl⟩
  rw [hR]
  unfold setF at hR
  have Hc := Lib.hid hc
  by_cases hq : isErr E.rules.length q ≠ 0
  · rw [if_pos hq] at hR
    have hf : decide (isErr (Env.bound E m).rules.length q = 0) = false := decide_eq_false hq
    rw [hf] at hhas
    have HR := Lib.hid hR
    clear hf hR hq hc hS
    go_enter Tryd.func45, Tryd.ntmps45
    go_wp2_with (go_at_call 60; go_must (refine hhas.out.mono ?_; rintro e w' ⟨rfl, rfl⟩))
    go_ret
    rw [← HR.out]
    exact ⟨rfl, RefLeft.refl _ _ _ _ _ _ _ _, ⟨done, m, Hc.out⟩⟩
  rw [if_neg hq] at hR
  have hq0 : isErr E.rules.length q = 0 := by omega
  have hf : decide (isErr (Env.bound E m).rules.length q = 0) = true := decide_eq_true hq0
  rw [hf] at hhas
  have hqi := isErr_in hq
  have hinp := Lib.hid (refInput hc (q := q) hqi h200)
  rw [show ((Env.bound E m).rule q).kind = (E.rule q).kind from rfl] at hinp
  obtain ⟨i, rfl⟩ := Int.eq_ofNat_of_zero_le hqi.1
  have hin : i < E.rules.length := by omega
  obtain ⟨kd, hkd⟩ : ∃ x, (E.rule i).kind = x := ⟨_, rfl⟩
  rw [hkd] at hinp hR
  clear hf hq hq0 hqi hkd
  by_cases hbad : kd ≠ 1 ∨ v < 0 ∨ 1048576 < v
  · rw [if_pos hbad] at hR
    have HR := Lib.hid hR
    clear hR hc hS
    by_cases h1 : kd = 1
    · have hkb : (kd == 1) = true := by simp [h1]
      rw [hkb] at hinp
      by_cases h2 : v < 0
      · clear hbad h1 hkb
        go_enter Tryd.func45, Tryd.ntmps45
        go_wp2_with (first
          | (go_at_call 60; go_must (refine hhas.out.mono ?_; rintro e w' ⟨rfl, rfl⟩))
          | (go_at_call 61; go_must (refine hinp.out.mono ?_; rintro e w' ⟨rfl, rfl⟩))
        )
        go_ret
        rw [← HR.out]
        exact ⟨rfl, RefLeft.refl _ _ _ _ _ _ _ _, ⟨done, m, Hc.out⟩⟩
      · have h3 : 1048576 < v := by omega
        clear hbad h1 hkb
        go_enter Tryd.func45, Tryd.ntmps45
        go_wp2_with (first
          | (go_at_call 60; go_must (refine hhas.out.mono ?_; rintro e w' ⟨rfl, rfl⟩))
          | (go_at_call 61; go_must (refine hinp.out.mono ?_; rintro e w' ⟨rfl, rfl⟩))
        )
        go_ret
        rw [← HR.out]
        exact ⟨rfl, RefLeft.refl _ _ _ _ _ _ _ _, ⟨done, m, Hc.out⟩⟩
    · have hkb : (kd == 1) = false := by simpa using h1
      rw [hkb] at hinp
      clear hbad h1 hkb
      go_enter Tryd.func45, Tryd.ntmps45
      go_wp2_with (first
        | (go_at_call 60; go_must (refine hhas.out.mono ?_; rintro e w' ⟨rfl, rfl⟩))
        | (go_at_call 61; go_must (refine hinp.out.mono ?_; rintro e w' ⟨rfl, rfl⟩))
      )
      go_ret
      rw [← HR.out]
      exact ⟨rfl, RefLeft.refl _ _ _ _ _ _ _ _, ⟨done, m, Hc.out⟩⟩
  rw [if_neg hbad] at hR
  have hkb : (kd == 1) = true := by have : kd = 1 := by omega
                                    simp [this]
  rw [hkb] at hinp
  have v0 : ¬ v < 0 := by omega
  have v1 : ¬ 1048576 < v := by omega
  clear hbad hkb
  obtain ⟨rv, hwb, -⟩ := hc.blk
  have Hwb := Lib.hid (show w.heap[wb]? = some (.cells #[rv, .slice (some ⟨sb, 0, none⟩) E.rules.length E.rules.length, .slice (some ⟨hb, 0, none⟩) E.rules.length E.rules.length, .slice (some ⟨kb, 0, none⟩) E.rules.length E.rules.length, .int .i64 E.rev, .slice (some ⟨nb, 0, none⟩) E.rules.length E.rules.length, dv, .int .i64 m] 100 (0, 0)) from hwb)
  have p1 := (blk_cell Hwb.out 1).trans rfl
  have p2 := (blk_cell Hwb.out 2).trans rfl
  have p4 := (blk_cell Hwb.out 4).trans rfl
  have hset : ∃ cs : Array Value, w.heap[sb]? = some (.cells cs 3 (0, 0)) ∧ Hid (∀ j, j < E.rules.length → cs[j]? = some (.int .i64 (E.inp.getD j 0))) := hc.set
  obtain ⟨cs, hsb, Hsx⟩ := hset
  have hwhn : ∃ ch : Array Value, w.heap[hb]? = some (.cells ch 3 (0, 0)) ∧ Hid (∀ j, j < E.rules.length → ch[j]? = some (.int .i64 (E.inpCh.getD j 0))) := hc.whn
  obtain ⟨ch, hhb, Hhx⟩ := hwhn
  have c0 := (blk_cell hsb i).trans (Hsx.out i hin)
  have Hsb := Lib.hid hsb
  have Hhb := Lib.hid hhb
  have hap := hc.apart
  have Hap := Lib.hid (show (wb ≠ sb ∧ wb ≠ hb) ∧ sb ≠ hb from ⟨⟨hap.1.1, hap.1.2.1⟩, hc.sh⟩)
  have Hz := Lib.hid (And.intro (pget_size (Hsx.out i hin)) (pget_size (Hhx.out i hin)))
  simp only [Int.toNat_natCast] at hR
  obtain ⟨iv, hiv⟩ : ∃ x, E.inp.getD i 0 = x := ⟨_, rfl⟩
  rw [hiv] at hR c0
  have HS := Lib.hid hS
  clear hwb hsb hhb hap hiv hc hS
  by_cases hsame : iv = v
  · rw [if_neg (by simp [hsame])] at hR
    have HR := Lib.hid hR
    have hnb : (iv != v) = false := by simp [hsame]
    clear hR hsame
    go_enter Tryd.func45, Tryd.ntmps45
    go_wp2_with (first
      | (go_at_call 60; go_must (refine hhas.out.mono ?_; rintro e w' ⟨rfl, rfl⟩))
      | (go_at_call 61; go_must (refine hinp.out.mono ?_; rintro e w' ⟨rfl, rfl⟩))
    )
    go_ret
    rw [← HR.out]
    exact ⟨rfl, RefLeft.refl _ _ _ _ _ _ _ _, ⟨done, m, Hc.out⟩⟩
  · rw [if_pos hsame] at hR
    have HR := Lib.hid hR
    have hnb : (iv != v) = true := by simpa using hsame
    obtain ⟨i3, hi3, hs3⟩ := infoS3
    have HI := Lib.hid (And.intro hi3 hs3)
    have hrev := Lib.hid (And.intro HS.out.ok.rev0 HS.out.ok.rev1)
    have hwrap : IntKind.i64.wrap (E.rev + 1) = E.rev + 1 := IntWalk.i64_in _ (by have h := hrev.out; have h1 : 0 ≤ E.rev := h.1; have h2 : E.rev ≤ _ := h.2; omega)
    clear hR hsame hi3 hs3
    go_enter Tryd.func45, Tryd.ntmps45
    go_wp2_with (first
      | (go_at_call 60; go_must (refine hhas.out.mono ?_; rintro e w' ⟨rfl, rfl⟩))
      | (go_at_call 61; go_must (refine hinp.out.mono ?_; rintro e w' ⟨rfl, rfl⟩))
      | ((with_reducible refine at_store (t := 3) (p := 40) rfl ?_); go_must (refine ev_store (cs' := #[rv, .slice (some ⟨sb, 0, none⟩) E.rules.length E.rules.length, .slice (some ⟨hb, 0, none⟩) E.rules.length E.rules.length, .slice (some ⟨kb, 0, none⟩) E.rules.length E.rules.length, .int .i64 (E.rev + 1), .slice (some ⟨nb, 0, none⟩) E.rules.length E.rules.length, dv, .int .i64 m]) rfl rfl rfl rfl rfl rfl HI.out.1 HI.out.2 rfl Hwb.out (Nat.le_of_ble_eq_true rfl) rfl ?_; intro w1 hb1 hk1)
         have p1 := (blk_cell hb1 1).trans rfl
         have p2 := (blk_cell hb1 2).trans rfl
         have p4 := (blk_cell hb1 4).trans rfl
         have Hb1 := Lib.hid hb1
         have HK1 := Lib.hid hk1
         have Hsb1 := Lib.hid (hk1.blk Hsb.out (fun e => Hap.out.1.1 e.symm))
         have Hhb1 := Lib.hid (hk1.blk Hhb.out (fun e => Hap.out.1.2 e.symm))
         clear hb1 hk1 c0
         (try simp only [Act.put, List.setIfInBounds_toArray, List.set_cons_zero, List.set_cons_succ]))
    )
    refine wp_region_perm [(0, true), (1, true), (2, true), (3, true), (4, true), (5, true), (6, true), (7, true), (8, true), (9, true), (10, true), (11, true), (12, true), (13, true), (14, true), (15, true), (16, false), (17, true), (18, false)] (fun w' => w'.cell? ⟨wb, 1, none⟩ = some (.slice (some ⟨sb, 0, none⟩) E.rules.length E.rules.length) ∧ w'.cell? ⟨wb, 2, none⟩ = some (.slice (some ⟨hb, 0, none⟩) E.rules.length E.rules.length) ∧ w'.cell? ⟨wb, 4, none⟩ = some (.int .i64 (E.rev + 1))) rfl (by kernel_rfl) (by kernel_rfl) (by decide) (fun c a d v w h => by cases d <;> exact h) ⟨p1, p2, p4⟩ ?_
    refine perm_q (v := ?v1_0) (some 41) rfl rfl rfl ?q1_0 ?h1_0; (case q1_0 => (intro w' hS; obtain ⟨z1, z2, z3⟩ := hS; first | (go_simp; done) | (go_simp; rfl))); (try simp only [Act.put, List.setIfInBounds_toArray, List.set_cons_zero, List.set_cons_succ])
    refine perm_q (v := ?v1_1) (some 42) rfl rfl rfl ?q1_1 ?h1_1; (case q1_1 => (intro w' hS; obtain ⟨z1, z2, z3⟩ := hS; first | (go_simp; done) | (go_simp; rfl))); (try simp only [Act.put, List.setIfInBounds_toArray, List.set_cons_zero, List.set_cons_succ])
    refine perm_q (v := ?v1_2) (some 43) rfl rfl rfl ?q1_2 ?h1_2; (case q1_2 => (intro w' hS; obtain ⟨z1, z2, z3⟩ := hS; first | (go_simp; done) | (go_simp; rfl))); (try simp only [Act.put, List.setIfInBounds_toArray, List.set_cons_zero, List.set_cons_succ])
    refine perm_q (v := ?v1_3) (some 44) rfl rfl rfl ?q1_3 ?h1_3; (case q1_3 => (intro w' hS; obtain ⟨z1, z2, z3⟩ := hS; first | (go_simp; done) | (go_simp; rfl))); (try simp only [Act.put, List.setIfInBounds_toArray, List.set_cons_zero, List.set_cons_succ])
    refine perm_q (v := ?v1_4) (some 45) rfl rfl rfl ?q1_4 ?h1_4; (case q1_4 => (intro w' hS; obtain ⟨z1, z2, z3⟩ := hS; first | (go_simp; done) | (go_simp; rfl))); (try simp only [Act.put, List.setIfInBounds_toArray, List.set_cons_zero, List.set_cons_succ])
    refine perm_q (v := ?v1_5) (some 46) rfl rfl rfl ?q1_5 ?h1_5; (case q1_5 => (intro w' hS; obtain ⟨z1, z2, z3⟩ := hS; first | (go_simp; done) | (go_simp; rfl))); (try simp only [Act.put, List.setIfInBounds_toArray, List.set_cons_zero, List.set_cons_succ])
    refine perm_q (v := ?v1_6) (some 47) rfl rfl rfl ?q1_6 ?h1_6; (case q1_6 => (intro w' hS; obtain ⟨z1, z2, z3⟩ := hS; first | (go_simp; done) | (go_simp; rfl))); (try simp only [Act.put, List.setIfInBounds_toArray, List.set_cons_zero, List.set_cons_succ])
    refine perm_q (v := ?v1_7) (some 48) rfl rfl rfl ?q1_7 ?h1_7; (case q1_7 => (intro w' hS; obtain ⟨z1, z2, z3⟩ := hS; first | (go_simp; done) | (go_simp; rfl))); (try simp only [Act.put, List.setIfInBounds_toArray, List.set_cons_zero, List.set_cons_succ])
    refine perm_q (v := ?v1_8) (some 49) rfl rfl rfl ?q1_8 ?h1_8; (case q1_8 => (intro w' hS; obtain ⟨z1, z2, z3⟩ := hS; first | (go_simp; done) | (go_simp; rfl))); (try simp only [Act.put, List.setIfInBounds_toArray, List.set_cons_zero, List.set_cons_succ])
    refine perm_q (v := ?v1_9) (some 50) rfl rfl rfl ?q1_9 ?h1_9; (case q1_9 => (intro w' hS; obtain ⟨z1, z2, z3⟩ := hS; first | (go_simp; done) | (go_simp; rfl))); (try simp only [Act.put, List.setIfInBounds_toArray, List.set_cons_zero, List.set_cons_succ])
    refine perm_q (v := ?v1_10) (some 51) rfl rfl rfl ?q1_10 ?h1_10; (case q1_10 => (intro w' hS; obtain ⟨z1, z2, z3⟩ := hS; first | (go_simp; done) | (go_simp; rfl))); (try simp only [Act.put, List.setIfInBounds_toArray, List.set_cons_zero, List.set_cons_succ])
    refine perm_q (v := ?v1_11) (some 52) rfl rfl rfl ?q1_11 ?h1_11; (case q1_11 => (intro w' hS; obtain ⟨z1, z2, z3⟩ := hS; first | (go_simp; done) | (go_simp; rfl))); (try simp only [Act.put, List.setIfInBounds_toArray, List.set_cons_zero, List.set_cons_succ])
    refine perm_q (v := ?v1_12) (some 53) rfl rfl rfl ?q1_12 ?h1_12; (case q1_12 => (intro w' hS; obtain ⟨z1, z2, z3⟩ := hS; first | (go_simp; done) | (go_simp; rfl))); (try simp only [Act.put, List.setIfInBounds_toArray, List.set_cons_zero, List.set_cons_succ])
    refine perm_q (v := ?v1_13) (some 54) rfl rfl rfl ?q1_13 ?h1_13; (case q1_13 => (intro w' hS; obtain ⟨z1, z2, z3⟩ := hS; first | (go_simp; done) | (go_simp; rfl))); (try simp only [Act.put, List.setIfInBounds_toArray, List.set_cons_zero, List.set_cons_succ])
    refine perm_q (v := ?v1_14) (some 55) rfl rfl rfl ?q1_14 ?h1_14; (case q1_14 => (intro w' hS; obtain ⟨z1, z2, z3⟩ := hS; first | (go_simp; done) | (go_simp; rfl))); (try simp only [Act.put, List.setIfInBounds_toArray, List.set_cons_zero, List.set_cons_succ])
    refine perm_q (v := ?v1_15) (some 56) rfl rfl rfl ?q1_15 ?h1_15; (case q1_15 => (intro w' hS; obtain ⟨z1, z2, z3⟩ := hS; first | (go_simp; done) | (go_simp; rfl))); (try simp only [Act.put, List.setIfInBounds_toArray, List.set_cons_zero, List.set_cons_succ])
    refine perm_e rfl ?_   -- 16: store 3 t56 t51
    go_must (refine ev_store (x := .int .i64 v) (vs := [.int .i64 v]) (off := i) (cs' := splice cs i (.int .i64 v)) rfl rfl rfl rfl rfl rfl HI.out.1 HI.out.2 rfl Hsb1.out (by have := Hz.out.1; exact this) rfl ?_; intro w2 hb2 hk2)
    (try simp only [Act.put, List.setIfInBounds_toArray, List.set_cons_zero, List.set_cons_succ])
    have Hb2 := Lib.hid hb2
    have HK2 := Lib.hid (show Keeps (· = sb) w1 w2 from (Keeps.refl (· = sb) w1).drew.trans hk2 (fun _ _ h => h))
    have p1 := HK2.out.cell p1 Hap.out.1.1
    have p2 := HK2.out.cell p2 Hap.out.1.1
    have p4 := HK2.out.cell p4 Hap.out.1.1
    have Hhb2 := Lib.hid (HK2.out.blk Hhb1.out (fun e => Hap.out.2 e.symm))
    clear hb2 hk2
    refine wpList_nil ⟨⟨p1, p2, p4⟩, ?_⟩
    refine perm_q (v := ?v1_17) (some 57) rfl rfl rfl ?q1_17 ?h1_17; (case q1_17 => (intro w' hS; obtain ⟨z1, z2, z3⟩ := hS; first | (go_simp; done) | (go_simp; rfl))); (try simp only [Act.put, List.setIfInBounds_toArray, List.set_cons_zero, List.set_cons_succ])
    refine perm_e rfl ?_   -- 18: store 3 t57 t55
    go_must (refine ev_store (x := .int .i64 (E.rev + 1)) (vs := [.int .i64 (E.rev + 1)]) (off := i) (cs' := splice ch i (.int .i64 (E.rev + 1))) rfl rfl rfl rfl rfl rfl HI.out.1 HI.out.2 rfl Hhb2.out (by have := Hz.out.2; exact this) rfl ?_; intro w3 hb3 hk3)
    (try simp only [Act.put, List.setIfInBounds_toArray, List.set_cons_zero, List.set_cons_succ])
    have Hb3 := Lib.hid hb3
    have HK3 := Lib.hid hk3
    have p1 := hk3.cell p1 Hap.out.1.2
    have p2 := hk3.cell p2 Hap.out.1.2
    have p4 := hk3.cell p4 Hap.out.1.2
    clear hb3 hk3
    refine wpList_nil ⟨⟨p1, p2, p4⟩, ?_⟩
    refine perm_nil ?_
    go_wp2
    go_ret
    rw [← HR.out]
    have hk : Keeps (fun k => k = wb ∨ k = sb ∨ k = hb) w w3 := ((HK1.out.mono (M' := fun k => k = wb ∨ k = sb ∨ k = hb) (fun _ _ e => .inl e)).trans HK2.out (fun _ _ e => .inr (.inl e))).trans HK3.out (fun _ _ e => .inr (.inr e))
    have hr := Hc.out.setted Hwb.out hk (HK3.out.blk (HK2.out.blk Hb1.out Hap.out.1.1) Hap.out.1.2) (SetX.put (w := w) HS.out.ok.ilen Hsx.out hin (HK3.out.blk Hb2.out Hap.out.2)) (SetX.put (w := w) HS.out.ok.clen Hhx.out hin Hb3.out)
    exact ⟨rfl, ⟨fun _ _ => Iff.rfl, hk.mono (fun k _ e => by rcases e with e | e | e; exact .inl e; exact .inr (.inl e); exact .inr (.inr (.inl e))), fun _ h => .inl h⟩, ⟨done, m, hr⟩⟩
set_option maxHeartbeats 2000000 in
/-- FORGET. -/
theorem RefForget_any {rs : List QRule} {n : Int} {E : Env} {ans : List (Option KeptR)} (hS : SInv rs n (E, ans)) (w : World) (X : Nat → Prop) (wb sb hb kb nb : Nat) (dv : Value) (q : Int) (h : RefAt w X wb sb hb kb nb E ans dv) :
    Calls Tryd.prog 46 #[.pointer (some ⟨wb, 0, none⟩), .int .i64 q] w fun e w' => e = .returned (.int .i64 (forgetF E ans q).2) ∧ RefLeft w X wb sb hb kb nb dv w' X dv ∧ RefAt w' X wb sb hb kb nb E (forgetF E ans q).1 dv := by
  obtain ⟨done, m, hc⟩ := h
  have h200 : E.rules.length ≤ 200 := hS.ok.len
  have hhas := Lib.hid (refHas hc q)
  obtain ⟨R, hR⟩ : ∃ r, forgetF E ans q = r := ⟨_, rfl⟩
  rw [hR]
  unfold forgetF at hR
  have Hc := Lib.hid hc
  by_cases hq : isErr E.rules.length q ≠ 0
  · rw [if_pos hq] at hR
    have hf : decide (isErr (Env.bound E m).rules.length q = 0) = false := decide_eq_false hq
    rw [hf] at hhas
    have HR := Lib.hid hR
    clear hf hR hq hc hS
    go_enter Tryd.func46, Tryd.ntmps46
    go_wp2_with (go_at_call 60; go_must (refine hhas.out.mono ?_; rintro e w' ⟨rfl, rfl⟩))
    go_ret
    rw [← HR.out]
    exact ⟨rfl, RefLeft.refl _ _ _ _ _ _ _ _, ⟨done, m, Hc.out⟩⟩
  rw [if_neg hq] at hR
  have hq0 : isErr E.rules.length q = 0 := by omega
  have hf : decide (isErr (Env.bound E m).rules.length q = 0) = true := decide_eq_true hq0
  rw [hf] at hhas
  have hqi := isErr_in hq
  have hinp := Lib.hid (refInput hc (q := q) hqi h200)
  rw [show ((Env.bound E m).rule q).kind = (E.rule q).kind from rfl] at hinp
  obtain ⟨i, rfl⟩ := Int.eq_ofNat_of_zero_le hqi.1
  have hin : i < E.rules.length := by omega
  obtain ⟨kd, hkd⟩ : ∃ x, (E.rule i).kind = x := ⟨_, rfl⟩
  rw [hkd] at hinp hR
  clear hf hq hq0 hqi hkd
  by_cases h1 : kd = 1
  · rw [if_pos h1] at hR
    have hkb : (kd == 1) = true := by simp [h1]
    rw [hkb] at hinp
    have HR := Lib.hid hR
    clear h1 hkb hR hc hS
    go_enter Tryd.func46, Tryd.ntmps46
    go_wp2_with (first
      | (go_at_call 60; go_must (refine hhas.out.mono ?_; rintro e w' ⟨rfl, rfl⟩))
      | (go_at_call 61; go_must (refine hinp.out.mono ?_; rintro e w' ⟨rfl, rfl⟩))
    )
    go_ret
    rw [← HR.out]
    exact ⟨rfl, RefLeft.refl _ _ _ _ _ _ _ _, ⟨done, m, Hc.out⟩⟩
  rw [if_neg h1] at hR
  have hkb : (kd == 1) = false := by simpa using h1
  rw [hkb] at hinp
  clear h1 hkb
  obtain ⟨rv, hwb, -⟩ := hc.blk
  have p3 := (blk_cell (show w.heap[wb]? = some (.cells #[rv, .slice (some ⟨sb, 0, none⟩) E.rules.length E.rules.length, .slice (some ⟨hb, 0, none⟩) E.rules.length E.rules.length, .slice (some ⟨kb, 0, none⟩) E.rules.length E.rules.length, .int .i64 E.rev, .slice (some ⟨nb, 0, none⟩) E.rules.length E.rules.length, dv, .int .i64 m] 100 (0, 0)) from hwb) 3).trans rfl
  have hrw : ∃ ck : Array Value, w.heap[kb]? = some (.cells ck 113 (0, 0)) ∧ Hid (∀ j, j < E.rules.length → RowC ck w X j (ans.getD j none)) := hc.row
  obtain ⟨ck, hck, Hckx⟩ := hrw
  obtain ⟨u, k0', k1', k2', k3', k4', -⟩ := Hckx.out i hin
  have c0 := (blk_cell hck (i * 5)).trans k0'
  have Hck := Lib.hid hck
  have Hsz := Lib.hid (show i * 5 + 5 ≤ ck.size by have := pget_size k4'; omega)
  simp only [Int.toNat_natCast] at hR
  obtain ⟨was, hwas⟩ : ∃ x, ans.getD i none = x := ⟨_, rfl⟩
  rw [hwas] at hR c0
  have HS := Lib.hid hS
  clear hwb hck k0' k1' k2' k3' k4' hwas hc hS
  cases was with
  | none =>
    have HR := Lib.hid (show ((ans, 8) : List (Option KeptR) × Int) = R from hR)
    have c0 : w.cell? ⟨kb, i * 5, none⟩ = some (.bool false) := c0
    clear hR
    go_enter Tryd.func46, Tryd.ntmps46
    go_wp2_with (first
      | (go_at_call 60; go_must (refine hhas.out.mono ?_; rintro e w' ⟨rfl, rfl⟩))
      | (go_at_call 61; go_must (refine hinp.out.mono ?_; rintro e w' ⟨rfl, rfl⟩))
    )
    go_ret
    rw [← HR.out]
    exact ⟨rfl, RefLeft.refl _ _ _ _ _ _ _ _, ⟨done, m, Hc.out⟩⟩
  | some k =>
    have HR := Lib.hid (show ((ans.set i none, 0) : List (Option KeptR) × Int) = R from hR)
    have c0 : w.cell? ⟨kb, i * 5, none⟩ = some (.bool true) := c0
    obtain ⟨i113, hi113, hs113⟩ := info113
    have HI := Lib.hid (And.intro hi113 hs113)
    have hz113 := zero113
    clear hR hi113 hs113
    go_enter Tryd.func46, Tryd.ntmps46
    go_wp2_with (first
      | (go_at_call 60; go_must (refine hhas.out.mono ?_; rintro e w' ⟨rfl, rfl⟩))
      | (go_at_call 61; go_must (refine hinp.out.mono ?_; rintro e w' ⟨rfl, rfl⟩))
      | ((with_reducible refine at_store (t := 113) (p := 30) rfl ?_); go_must (refine ev_store (x := .agg #[.bool false, .int .i64 0, .slice none 0 0, .int .i64 0, .int .i64 0]) (vs := [.bool false, .int .i64 0, .slice none 0 0, .int .i64 0, .int .i64 0]) (off := i * 5) (cs' := List.toArray (ck.toList.take (i * 5) ++ [Value.bool false, .int .i64 0, .slice none 0 0, .int .i64 0, .int .i64 0] ++ ck.toList.drop (i * 5 + [Value.bool false, .int .i64 0, .slice none 0 0, .int .i64 0, .int .i64 0].length))) rfl rfl rfl rfl rfl rfl HI.out.1 HI.out.2 rfl Hck.out (by have := Hsz.out; exact this) rfl ?_; intro w1 hb1 hk1); have Hb1 := Lib.hid hb1; have HK1 := Lib.hid hk1; clear hb1 hk1; (try simp only [Act.put, List.setIfInBounds_toArray, List.set_cons_zero, List.set_cons_succ]))
    )
    go_ret
    rw [← HR.out]
    have hr := RefC.put (X' := X) (k := none) Hc.out Hck.out (HS.out.inv.alen) hin HK1.out rfl (fun _ h => h) (nil_ints _ _) (fun b h hn => absurd h hn) Hb1.out
    exact ⟨rfl, ⟨fun _ _ => Iff.rfl, HK1.out.mono (fun k _ e => .inr (.inr (.inr (.inl e)))), fun _ h => .inl h⟩, ⟨done, m, hr⟩⟩
end Go.Proofs.QW

/-
  What the specification's engine shows (Has, Asked, Times), and a new one (New), in memory. Condition: the engine lies; of New: the rules lie.
-/
namespace Go.Proofs.QW
open Go.RowKit Go.Proofs.KL Go.Proofs.QM
set_option maxRecDepth 100000
set_option linter.unusedSimpArgs false
set_option linter.unusedVariables false

set_option maxHeartbeats 2000000 in
/-- HAS. -/
theorem RefHas_any {E : Env} {ans : List (Option KeptR)} (h200 : E.rules.length ≤ 200) (w : World) (X : Nat → Prop) (wb sb hb kb nb : Nat) (dv : Value) (q : Int) (h : RefAt w X wb sb hb kb nb E ans dv) :
    Calls Tryd.prog 48 #[.pointer (some ⟨wb, 0, none⟩), .int .i64 q] w fun e w' => e = .returned (.tuple #[.int .i64 (keptVal E ans q).1, .bool (keptVal E ans q).2]) ∧ Keeps Nob w w' := by
  obtain ⟨R, hR⟩ : ∃ r, keptVal E ans q = r := ⟨_, rfl⟩
  rw [hR]
  unfold keptVal at hR
  obtain ⟨done, m, hc⟩ := h
  have hhas := Lib.hid (refHas hc q)
  have Hc := Lib.hid hc
  by_cases hq : isErr E.rules.length q ≠ 0
  · rw [if_pos hq] at hR
    have hf : decide (isErr (Env.bound E m).rules.length q = 0) = false := decide_eq_false hq
    rw [hf] at hhas
    have HR := Lib.hid hR
    clear hf hR hq hc
    go_enter Tryd.func48, Tryd.ntmps48
    go_wp2_with (go_at_call 60; go_must (refine hhas.out.mono ?_; rintro e w' ⟨rfl, rfl⟩))
    (go_ret2; rw [← HR.out]; exact ⟨rfl, Keeps.refl _ _⟩)
  rw [if_neg hq] at hR
  have hq0 : isErr E.rules.length q = 0 := by omega
  have hf : decide (isErr (Env.bound E m).rules.length q = 0) = true := decide_eq_true hq0
  rw [hf] at hhas
  have hqi := isErr_in hq
  have hinp := Lib.hid (refInput hc (q := q) hqi h200)
  rw [show ((Env.bound E m).rule q).kind = (E.rule q).kind from rfl] at hinp
  obtain ⟨i, rfl⟩ := Int.eq_ofNat_of_zero_le hqi.1
  have hin : i < E.rules.length := by omega
  obtain ⟨kd, hkd⟩ : ∃ x, (E.rule i).kind = x := ⟨_, rfl⟩
  rw [hkd] at hinp hR
  clear hf hq hq0 hqi hkd
  obtain ⟨rv, hwb0, -⟩ := hc.blk
  have hwb := (show w.heap[wb]? = some (.cells #[rv, .slice (some ⟨sb, 0, none⟩) E.rules.length E.rules.length, .slice (some ⟨hb, 0, none⟩) E.rules.length E.rules.length, .slice (some ⟨kb, 0, none⟩) E.rules.length E.rules.length, .int .i64 E.rev, .slice (some ⟨nb, 0, none⟩) E.rules.length E.rules.length, dv, .int .i64 m] 100 (0, 0)) from hwb0)
  have p1 := (blk_cell hwb 1).trans rfl
  have p2 := (blk_cell hwb 2).trans rfl
  have p3 := (blk_cell hwb 3).trans rfl
  have p4 := (blk_cell hwb 4).trans rfl
  obtain ⟨cs, hsb, hsx⟩ := hc.set
  have s0 : w.cell? ⟨sb, i, none⟩ = some (.int .i64 (E.inp.getD i 0)) := (blk_cell hsb i).trans (hsx i hin)
  obtain ⟨ch, hhb, hhx⟩ := hc.whn
  have h0 : w.cell? ⟨hb, i, none⟩ = some (.int .i64 (E.inpCh.getD i 0)) := (blk_cell hhb i).trans (hhx i hin)
  obtain ⟨ck, hck, hckx⟩ := hc.row
  obtain ⟨u, k0', k1', k2', k3', k4', hu⟩ := hckx i hin
  have c0 : w.cell? ⟨kb, i * 5, none⟩ = some (.bool (ans.getD i none).isSome) := (blk_cell hck (i * 5)).trans k0'
  have c1 : w.cell? ⟨kb, i * 5 + 1, none⟩ = some (.int .i64 ((ans.getD i none).getD k0).value) := (blk_cell hck (i * 5 + 1)).trans k1'
  have c2z := (blk_cell hck (i * 5 + 2)).trans k2'
  have c3 : w.cell? ⟨kb, i * 5 + 3, none⟩ = some (.int .i64 ((ans.getD i none).getD k0).checked) := (blk_cell hck (i * 5 + 3)).trans k3'
  have c4 : w.cell? ⟨kb, i * 5 + 4, none⟩ = some (.int .i64 ((ans.getD i none).getD k0).changed) := (blk_cell hck (i * 5 + 4)).trans k4'
  obtain ⟨kuA, kuc, rfl, -, -⟩ := id hu
  simp only [Int.toNat_natCast] at hR
  obtain ⟨was, hwas⟩ : ∃ x, ans.getD i none = x := ⟨_, rfl⟩
  have hu : IntsX w X (.slice kuA ((ans.getD i none).getD k0).asked.length kuc) ((ans.getD i none).getD k0).asked := hu
  have c2 : w.cell? ⟨kb, i * 5 + 2, none⟩ = some (.slice kuA ((ans.getD i none).getD k0).asked.length kuc) := c2z
  rw [hwas] at hR c0 c1 c2 c3 c4 hu
  have Hu := Lib.hid hu
  generalize E.inp.getD i 0 = iv at *
  generalize E.inpCh.getD i 0 = ic at *
  clear c2z hwb0 hwb hsb hsx hhb hhx hck hckx k0' k1' k2' k3' k4' hwas hc hu
  by_cases h1 : kd = 1
  · rw [if_pos h1] at hR
    have hkb : (kd == 1) = true := by simp [h1]
    rw [hkb] at hinp
    have HR := Lib.hid hR
    clear h1 hkb hR
    go_enter Tryd.func48, Tryd.ntmps48
    go_wp2_with (first
      | (go_at_call 60; go_must (refine hhas.out.mono ?_; rintro e w' ⟨rfl, rfl⟩))
      | (go_at_call 61; go_must (refine hinp.out.mono ?_; rintro e w' ⟨rfl, rfl⟩))
    )
    go_ret2
    rw [← HR.out]
    exact ⟨rfl, Keeps.refl _ _⟩
  · rw [if_neg h1] at hR
    have hkb : (kd == 1) = false := by simpa using h1
    rw [hkb] at hinp
    have hR' : R = ((was.getD k0).value, was.isSome) := by rw [← hR]; cases was <;> rfl
    have HR := Lib.hid hR'
    obtain ⟨wis, hwis⟩ : ∃ x, was.isSome = x := ⟨_, rfl⟩
    obtain ⟨wval, hwval⟩ : ∃ x, (was.getD k0).value = x := ⟨_, rfl⟩
    rw [hwis] at c0 HR
    rw [hwval] at c1 HR
    clear h1 hkb hR hR' hwis hwval
    go_enter Tryd.func48, Tryd.ntmps48
    go_wp2_with (first
      | (go_at_call 60; go_must (refine hhas.out.mono ?_; rintro e w' ⟨rfl, rfl⟩))
      | (go_at_call 61; go_must (refine hinp.out.mono ?_; rintro e w' ⟨rfl, rfl⟩))
    )
    refine wp_region_perm [(0, true), (1, true), (2, true), (3, true), (4, true), (5, true), (6, true), (7, true), (8, true), (9, true), (10, true), (11, true), (12, true), (13, true), (14, true), (15, true), (16, true), (17, true)] (fun w' => w'.cell? ⟨wb, 3, none⟩ = some (.slice (some ⟨kb, 0, none⟩) E.rules.length E.rules.length) ∧ w'.cell? ⟨kb, i * 5, none⟩ = some (.bool wis) ∧ w'.cell? ⟨kb, i * 5 + 1, none⟩ = some (.int .i64 wval)) rfl (by kernel_rfl) (by kernel_rfl) (by decide) (fun c a d v w h => by cases d <;> exact h) ⟨p3, c0, c1⟩ ?_
    refine perm_q (v := ?v1_0) (some 22) rfl rfl rfl ?q1_0 ?h1_0; (case q1_0 => (intro w' hS; obtain ⟨z1, z2, z3⟩ := hS; first | (go_simp; done) | (go_simp; rfl))); (try simp only [Act.put, List.setIfInBounds_toArray, List.set_cons_zero, List.set_cons_succ])
    refine perm_q (v := ?v1_1) (some 23) rfl rfl rfl ?q1_1 ?h1_1; (case q1_1 => (intro w' hS; obtain ⟨z1, z2, z3⟩ := hS; first | (go_simp; done) | (go_simp; rfl))); (try simp only [Act.put, List.setIfInBounds_toArray, List.set_cons_zero, List.set_cons_succ])
    refine perm_q (v := ?v1_2) (some 24) rfl rfl rfl ?q1_2 ?h1_2; (case q1_2 => (intro w' hS; obtain ⟨z1, z2, z3⟩ := hS; first | (go_simp; done) | (go_simp; rfl))); (try simp only [Act.put, List.setIfInBounds_toArray, List.set_cons_zero, List.set_cons_succ])
    refine perm_q (v := ?v1_3) (some 25) rfl rfl rfl ?q1_3 ?h1_3; (case q1_3 => (intro w' hS; obtain ⟨z1, z2, z3⟩ := hS; first | (go_simp; done) | (go_simp; rfl))); (try simp only [Act.put, List.setIfInBounds_toArray, List.set_cons_zero, List.set_cons_succ])
    refine perm_q (v := ?v1_4) (some 26) rfl rfl rfl ?q1_4 ?h1_4; (case q1_4 => (intro w' hS; obtain ⟨z1, z2, z3⟩ := hS; first | (go_simp; done) | (go_simp; rfl))); (try simp only [Act.put, List.setIfInBounds_toArray, List.set_cons_zero, List.set_cons_succ])
    refine perm_q (v := ?v1_5) (some 27) rfl rfl rfl ?q1_5 ?h1_5; (case q1_5 => (intro w' hS; obtain ⟨z1, z2, z3⟩ := hS; first | (go_simp; done) | (go_simp; rfl))); (try simp only [Act.put, List.setIfInBounds_toArray, List.set_cons_zero, List.set_cons_succ])
    refine perm_q (v := ?v1_6) (some 28) rfl rfl rfl ?q1_6 ?h1_6; (case q1_6 => (intro w' hS; obtain ⟨z1, z2, z3⟩ := hS; first | (go_simp; done) | (go_simp; rfl))); (try simp only [Act.put, List.setIfInBounds_toArray, List.set_cons_zero, List.set_cons_succ])
    refine perm_q (v := ?v1_7) (some 29) rfl rfl rfl ?q1_7 ?h1_7; (case q1_7 => (intro w' hS; obtain ⟨z1, z2, z3⟩ := hS; first | (go_simp; done) | (go_simp; rfl))); (try simp only [Act.put, List.setIfInBounds_toArray, List.set_cons_zero, List.set_cons_succ])
    refine perm_q (v := ?v1_8) (some 30) rfl rfl rfl ?q1_8 ?h1_8; (case q1_8 => (intro w' hS; obtain ⟨z1, z2, z3⟩ := hS; first | (go_simp; done) | (go_simp; rfl))); (try simp only [Act.put, List.setIfInBounds_toArray, List.set_cons_zero, List.set_cons_succ])
    refine perm_q (v := ?v1_9) (some 31) rfl rfl rfl ?q1_9 ?h1_9; (case q1_9 => (intro w' hS; obtain ⟨z1, z2, z3⟩ := hS; first | (go_simp; done) | (go_simp; rfl))); (try simp only [Act.put, List.setIfInBounds_toArray, List.set_cons_zero, List.set_cons_succ])
    refine perm_q (v := ?v1_10) (some 32) rfl rfl rfl ?q1_10 ?h1_10; (case q1_10 => (intro w' hS; obtain ⟨z1, z2, z3⟩ := hS; first | (go_simp; done) | (go_simp; rfl))); (try simp only [Act.put, List.setIfInBounds_toArray, List.set_cons_zero, List.set_cons_succ])
    refine perm_q (v := ?v1_11) (some 33) rfl rfl rfl ?q1_11 ?h1_11; (case q1_11 => (intro w' hS; obtain ⟨z1, z2, z3⟩ := hS; first | (go_simp; done) | (go_simp; rfl))); (try simp only [Act.put, List.setIfInBounds_toArray, List.set_cons_zero, List.set_cons_succ])
    refine perm_q (v := ?v1_12) (some 34) rfl rfl rfl ?q1_12 ?h1_12; (case q1_12 => (intro w' hS; obtain ⟨z1, z2, z3⟩ := hS; first | (go_simp; done) | (go_simp; rfl))); (try simp only [Act.put, List.setIfInBounds_toArray, List.set_cons_zero, List.set_cons_succ])
    refine perm_q (v := ?v1_13) (some 35) rfl rfl rfl ?q1_13 ?h1_13; (case q1_13 => (intro w' hS; obtain ⟨z1, z2, z3⟩ := hS; first | (go_simp; done) | (go_simp; rfl))); (try simp only [Act.put, List.setIfInBounds_toArray, List.set_cons_zero, List.set_cons_succ])
    refine perm_q (v := ?v1_14) (some 36) rfl rfl rfl ?q1_14 ?h1_14; (case q1_14 => (intro w' hS; obtain ⟨z1, z2, z3⟩ := hS; first | (go_simp; done) | (go_simp; rfl))); (try simp only [Act.put, List.setIfInBounds_toArray, List.set_cons_zero, List.set_cons_succ])
    refine perm_q (v := ?v1_15) (some 37) rfl rfl rfl ?q1_15 ?h1_15; (case q1_15 => (intro w' hS; obtain ⟨z1, z2, z3⟩ := hS; first | (go_simp; done) | (go_simp; rfl))); (try simp only [Act.put, List.setIfInBounds_toArray, List.set_cons_zero, List.set_cons_succ])
    refine perm_q (v := ?v1_16) (some 4) rfl rfl rfl ?q1_16 ?h1_16; (case q1_16 => (intro w' hS; obtain ⟨z1, z2, z3⟩ := hS; first | (go_simp; done) | (go_simp; rfl))); (try simp only [Act.put, List.setIfInBounds_toArray, List.set_cons_zero, List.set_cons_succ])
    refine perm_q (v := ?v1_17) (some 5) rfl rfl rfl ?q1_17 ?h1_17; (case q1_17 => (intro w' hS; obtain ⟨z1, z2, z3⟩ := hS; first | (go_simp; done) | (go_simp; rfl))); (try simp only [Act.put, List.setIfInBounds_toArray, List.set_cons_zero, List.set_cons_succ])
    refine perm_nil ?_
    go_wp2
    go_ret2
    rw [HR.out]
    exact ⟨rfl, (Keeps.refl Nob w).drew⟩
set_option maxHeartbeats 2000000 in
/-- ASKED. -/
theorem RefAsked_any {E : Env} {ans : List (Option KeptR)} (h200 : E.rules.length ≤ 200) (w : World) (X : Nat → Prop) (wb sb hb kb nb : Nat) (dv : Value) (q : Int) (h : RefAt w X wb sb hb kb nb E ans dv) :
    Calls Tryd.prog 49 #[.pointer (some ⟨wb, 0, none⟩), .int .i64 q] w fun e w' => ∃ v', e = .returned (.tuple #[v', .int .i64 (foundF E ans q).2]) ∧ Keeps Nob w w' ∧ IntsX w' (fun _ => True) v' (foundF E ans q).1.asked := by
  obtain ⟨R, hR⟩ : ∃ r, foundF E ans q = r := ⟨_, rfl⟩
  rw [hR]
  unfold foundF at hR
  obtain ⟨done, m, hc⟩ := h
  have hhas := Lib.hid (refHas hc q)
  have Hc := Lib.hid hc
  by_cases hq : isErr E.rules.length q ≠ 0
  · rw [if_pos hq] at hR
    have hf : decide (isErr (Env.bound E m).rules.length q = 0) = false := decide_eq_false hq
    rw [hf] at hhas
    have HR := Lib.hid hR
    clear hf hR hq hc
    go_enter Tryd.func49, Tryd.ntmps49
    go_wp2_with (go_at_call 60; go_must (refine hhas.out.mono ?_; rintro e w' ⟨rfl, rfl⟩))
    (go_ret2; rw [← HR.out]; exact ⟨_, rfl, Keeps.refl _ _, nil_ints _ _⟩)
  rw [if_neg hq] at hR
  have hq0 : isErr E.rules.length q = 0 := by omega
  have hf : decide (isErr (Env.bound E m).rules.length q = 0) = true := decide_eq_true hq0
  rw [hf] at hhas
  have hqi := isErr_in hq
  have hinp := Lib.hid (refInput hc (q := q) hqi h200)
  rw [show ((Env.bound E m).rule q).kind = (E.rule q).kind from rfl] at hinp
  obtain ⟨i, rfl⟩ := Int.eq_ofNat_of_zero_le hqi.1
  have hin : i < E.rules.length := by omega
  obtain ⟨kd, hkd⟩ : ∃ x, (E.rule i).kind = x := ⟨_, rfl⟩
  rw [hkd] at hinp hR
  clear hf hq hq0 hqi hkd
  obtain ⟨rv, hwb0, -⟩ := hc.blk
  have hwb := (show w.heap[wb]? = some (.cells #[rv, .slice (some ⟨sb, 0, none⟩) E.rules.length E.rules.length, .slice (some ⟨hb, 0, none⟩) E.rules.length E.rules.length, .slice (some ⟨kb, 0, none⟩) E.rules.length E.rules.length, .int .i64 E.rev, .slice (some ⟨nb, 0, none⟩) E.rules.length E.rules.length, dv, .int .i64 m] 100 (0, 0)) from hwb0)
  have p1 := (blk_cell hwb 1).trans rfl
  have p2 := (blk_cell hwb 2).trans rfl
  have p3 := (blk_cell hwb 3).trans rfl
  have p4 := (blk_cell hwb 4).trans rfl
  obtain ⟨cs, hsb, hsx⟩ := hc.set
  have s0 : w.cell? ⟨sb, i, none⟩ = some (.int .i64 (E.inp.getD i 0)) := (blk_cell hsb i).trans (hsx i hin)
  obtain ⟨ch, hhb, hhx⟩ := hc.whn
  have h0 : w.cell? ⟨hb, i, none⟩ = some (.int .i64 (E.inpCh.getD i 0)) := (blk_cell hhb i).trans (hhx i hin)
  obtain ⟨ck, hck, hckx⟩ := hc.row
  obtain ⟨u, k0', k1', k2', k3', k4', hu⟩ := hckx i hin
  have c0 : w.cell? ⟨kb, i * 5, none⟩ = some (.bool (ans.getD i none).isSome) := (blk_cell hck (i * 5)).trans k0'
  have c1 : w.cell? ⟨kb, i * 5 + 1, none⟩ = some (.int .i64 ((ans.getD i none).getD k0).value) := (blk_cell hck (i * 5 + 1)).trans k1'
  have c2z := (blk_cell hck (i * 5 + 2)).trans k2'
  have c3 : w.cell? ⟨kb, i * 5 + 3, none⟩ = some (.int .i64 ((ans.getD i none).getD k0).checked) := (blk_cell hck (i * 5 + 3)).trans k3'
  have c4 : w.cell? ⟨kb, i * 5 + 4, none⟩ = some (.int .i64 ((ans.getD i none).getD k0).changed) := (blk_cell hck (i * 5 + 4)).trans k4'
  obtain ⟨kuA, kuc, rfl, -, -⟩ := id hu
  simp only [Int.toNat_natCast] at hR
  obtain ⟨was, hwas⟩ : ∃ x, ans.getD i none = x := ⟨_, rfl⟩
  have hu : IntsX w X (.slice kuA ((ans.getD i none).getD k0).asked.length kuc) ((ans.getD i none).getD k0).asked := hu
  have c2 : w.cell? ⟨kb, i * 5 + 2, none⟩ = some (.slice kuA ((ans.getD i none).getD k0).asked.length kuc) := c2z
  rw [hwas] at hR c0 c1 c2 c3 c4 hu
  have Hu := Lib.hid hu
  generalize E.inp.getD i 0 = iv at *
  generalize E.inpCh.getD i 0 = ic at *
  clear c2z hwb0 hwb hsb hsx hhb hhx hck hckx k0' k1' k2' k3' k4' hwas hc hu
  by_cases h1 : kd = 1
  · rw [if_pos h1] at hR
    have hkb : (kd == 1) = true := by simp [h1]
    rw [hkb] at hinp
    have HR := Lib.hid hR
    clear h1 hkb hR
    go_enter Tryd.func49, Tryd.ntmps49
    go_wp2_with (first
      | (go_at_call 60; go_must (refine hhas.out.mono ?_; rintro e w' ⟨rfl, rfl⟩))
      | (go_at_call 61; go_must (refine hinp.out.mono ?_; rintro e w' ⟨rfl, rfl⟩))
    )
    go_ret2
    rw [← HR.out]
    exact ⟨_, rfl, Keeps.refl _ _, nil_ints _ _⟩
  · rw [if_neg h1] at hR
    have hkb : (kd == 1) = false := by simpa using h1
    rw [hkb] at hinp
    clear h1 hkb
    cases was with
    | none =>
      have c0 : w.cell? ⟨kb, i * 5, none⟩ = some (.bool false) := c0
      have HR := Lib.hid hR
      clear hR
      go_enter Tryd.func49, Tryd.ntmps49
      go_wp2_with (first
        | (go_at_call 60; go_must (refine hhas.out.mono ?_; rintro e w' ⟨rfl, rfl⟩))
        | (go_at_call 61; go_must (refine hinp.out.mono ?_; rintro e w' ⟨rfl, rfl⟩))
      )
      go_ret2
      rw [← HR.out]
      exact ⟨_, rfl, Keeps.refl _ _, nil_ints _ _⟩
    | some k =>
      have c0 : w.cell? ⟨kb, i * 5, none⟩ = some (.bool true) := c0
      simp only [Option.getD_some] at c1 c2 c3 c4 Hu
      have HR := Lib.hid hR
      clear hR
      go_enter Tryd.func49, Tryd.ntmps49
      go_wp2_with (first
        | (go_at_call 60; go_must (refine hhas.out.mono ?_; rintro e w' ⟨rfl, rfl⟩))
        | (go_at_call 61; go_must (refine hinp.out.mono ?_; rintro e w' ⟨rfl, rfl⟩))
      )
      go_ret2
      rw [← HR.out]
      exact ⟨_, rfl, Keeps.refl _ _, Hu.out.keep (Keeps.refl Nob w) (fun _ _ _ => id) (fun _ _ _ => trivial)⟩
set_option maxHeartbeats 2000000 in
/-- TIMES. -/
theorem RefTimes_any {E : Env} {ans : List (Option KeptR)} (h200 : E.rules.length ≤ 200) (w : World) (X : Nat → Prop) (wb sb hb kb nb : Nat) (dv : Value) (q : Int) (h : RefAt w X wb sb hb kb nb E ans dv) :
    Calls Tryd.prog 50 #[.pointer (some ⟨wb, 0, none⟩), .int .i64 q] w fun e w' => e = .returned (.tuple #[.int .i64 (foundF E ans q).1.checked, .int .i64 (foundF E ans q).1.changed, .int .i64 (foundF E ans q).2]) ∧ Keeps Nob w w' := by
  obtain ⟨R, hR⟩ : ∃ r, foundF E ans q = r := ⟨_, rfl⟩
  rw [hR]
  unfold foundF at hR
  obtain ⟨done, m, hc⟩ := h
  have hhas := Lib.hid (refHas hc q)
  have Hc := Lib.hid hc
  by_cases hq : isErr E.rules.length q ≠ 0
  · rw [if_pos hq] at hR
    have hf : decide (isErr (Env.bound E m).rules.length q = 0) = false := decide_eq_false hq
    rw [hf] at hhas
    have HR := Lib.hid hR
    clear hf hR hq hc
    go_enter Tryd.func50, Tryd.ntmps50
    go_wp2_with (go_at_call 60; go_must (refine hhas.out.mono ?_; rintro e w' ⟨rfl, rfl⟩))
    (go_ret3; rw [← HR.out]; exact ⟨rfl, Keeps.refl _ _⟩)
  rw [if_neg hq] at hR
  have hq0 : isErr E.rules.length q = 0 := by omega
  have hf : decide (isErr (Env.bound E m).rules.length q = 0) = true := decide_eq_true hq0
  rw [hf] at hhas
  have hqi := isErr_in hq
  have hinp := Lib.hid (refInput hc (q := q) hqi h200)
  rw [show ((Env.bound E m).rule q).kind = (E.rule q).kind from rfl] at hinp
  obtain ⟨i, rfl⟩ := Int.eq_ofNat_of_zero_le hqi.1
  have hin : i < E.rules.length := by omega
  obtain ⟨kd, hkd⟩ : ∃ x, (E.rule i).kind = x := ⟨_, rfl⟩
  rw [hkd] at hinp hR
  clear hf hq hq0 hqi hkd
  obtain ⟨rv, hwb0, -⟩ := hc.blk
  have hwb := (show w.heap[wb]? = some (.cells #[rv, .slice (some ⟨sb, 0, none⟩) E.rules.length E.rules.length, .slice (some ⟨hb, 0, none⟩) E.rules.length E.rules.length, .slice (some ⟨kb, 0, none⟩) E.rules.length E.rules.length, .int .i64 E.rev, .slice (some ⟨nb, 0, none⟩) E.rules.length E.rules.length, dv, .int .i64 m] 100 (0, 0)) from hwb0)
  have p1 := (blk_cell hwb 1).trans rfl
  have p2 := (blk_cell hwb 2).trans rfl
  have p3 := (blk_cell hwb 3).trans rfl
  have p4 := (blk_cell hwb 4).trans rfl
  obtain ⟨cs, hsb, hsx⟩ := hc.set
  have s0 : w.cell? ⟨sb, i, none⟩ = some (.int .i64 (E.inp.getD i 0)) := (blk_cell hsb i).trans (hsx i hin)
  obtain ⟨ch, hhb, hhx⟩ := hc.whn
  have h0 : w.cell? ⟨hb, i, none⟩ = some (.int .i64 (E.inpCh.getD i 0)) := (blk_cell hhb i).trans (hhx i hin)
  obtain ⟨ck, hck, hckx⟩ := hc.row
  obtain ⟨u, k0', k1', k2', k3', k4', hu⟩ := hckx i hin
  have c0 : w.cell? ⟨kb, i * 5, none⟩ = some (.bool (ans.getD i none).isSome) := (blk_cell hck (i * 5)).trans k0'
  have c1 : w.cell? ⟨kb, i * 5 + 1, none⟩ = some (.int .i64 ((ans.getD i none).getD k0).value) := (blk_cell hck (i * 5 + 1)).trans k1'
  have c2z := (blk_cell hck (i * 5 + 2)).trans k2'
  have c3 : w.cell? ⟨kb, i * 5 + 3, none⟩ = some (.int .i64 ((ans.getD i none).getD k0).checked) := (blk_cell hck (i * 5 + 3)).trans k3'
  have c4 : w.cell? ⟨kb, i * 5 + 4, none⟩ = some (.int .i64 ((ans.getD i none).getD k0).changed) := (blk_cell hck (i * 5 + 4)).trans k4'
  obtain ⟨kuA, kuc, rfl, -, -⟩ := id hu
  simp only [Int.toNat_natCast] at hR
  obtain ⟨was, hwas⟩ : ∃ x, ans.getD i none = x := ⟨_, rfl⟩
  have hu : IntsX w X (.slice kuA ((ans.getD i none).getD k0).asked.length kuc) ((ans.getD i none).getD k0).asked := hu
  have c2 : w.cell? ⟨kb, i * 5 + 2, none⟩ = some (.slice kuA ((ans.getD i none).getD k0).asked.length kuc) := c2z
  rw [hwas] at hR c0 c1 c2 c3 c4 hu
  have Hu := Lib.hid hu
  generalize E.inp.getD i 0 = iv at *
  generalize E.inpCh.getD i 0 = ic at *
  clear c2z hwb0 hwb hsb hsx hhb hhx hck hckx k0' k1' k2' k3' k4' hwas hc hu
  by_cases h1 : kd = 1
  · rw [if_pos h1] at hR
    have hkb : (kd == 1) = true := by simp [h1]
    rw [hkb] at hinp
    have HR := Lib.hid hR
    clear h1 hkb hR
    go_enter Tryd.func50, Tryd.ntmps50
    go_wp2_with (first
      | (go_at_call 60; go_must (refine hhas.out.mono ?_; rintro e w' ⟨rfl, rfl⟩))
      | (go_at_call 61; go_must (refine hinp.out.mono ?_; rintro e w' ⟨rfl, rfl⟩))
    )
    refine wp_region_perm [(0, true), (1, true), (2, true), (3, true), (4, true), (5, true), (6, true), (7, true), (8, true), (9, true), (10, true), (11, true), (12, true), (13, true)] (fun w' => w'.cell? ⟨wb, 2, none⟩ = some (.slice (some ⟨hb, 0, none⟩) E.rules.length E.rules.length) ∧ w'.cell? ⟨wb, 4, none⟩ = some (.int .i64 E.rev) ∧ w'.cell? ⟨hb, i, none⟩ = some (.int .i64 ic)) rfl (by kernel_rfl) (by kernel_rfl) (by decide) (fun c a d v w h => by cases d <;> exact h) ⟨p2, p4, h0⟩ ?_
    refine perm_q (v := ?v2_0) (some 16) rfl rfl rfl ?q2_0 ?h2_0; (case q2_0 => (intro w' hS; obtain ⟨z1, z2, z3⟩ := hS; first | (go_simp; done) | (go_simp; rfl))); (try simp only [Act.put, List.setIfInBounds_toArray, List.set_cons_zero, List.set_cons_succ])
    refine perm_q (v := ?v2_1) (some 17) rfl rfl rfl ?q2_1 ?h2_1; (case q2_1 => (intro w' hS; obtain ⟨z1, z2, z3⟩ := hS; first | (go_simp; done) | (go_simp; rfl))); (try simp only [Act.put, List.setIfInBounds_toArray, List.set_cons_zero, List.set_cons_succ])
    refine perm_q (v := ?v2_2) (some 18) rfl rfl rfl ?q2_2 ?h2_2; (case q2_2 => (intro w' hS; obtain ⟨z1, z2, z3⟩ := hS; first | (go_simp; done) | (go_simp; rfl))); (try simp only [Act.put, List.setIfInBounds_toArray, List.set_cons_zero, List.set_cons_succ])
    refine perm_q (v := ?v2_3) (some 19) rfl rfl rfl ?q2_3 ?h2_3; (case q2_3 => (intro w' hS; obtain ⟨z1, z2, z3⟩ := hS; first | (go_simp; done) | (go_simp; rfl))); (try simp only [Act.put, List.setIfInBounds_toArray, List.set_cons_zero, List.set_cons_succ])
    refine perm_q (v := ?v2_4) (some 20) rfl rfl rfl ?q2_4 ?h2_4; (case q2_4 => (intro w' hS; obtain ⟨z1, z2, z3⟩ := hS; first | (go_simp; done) | (go_simp; rfl))); (try simp only [Act.put, List.setIfInBounds_toArray, List.set_cons_zero, List.set_cons_succ])
    refine perm_q (v := ?v2_5) (some 21) rfl rfl rfl ?q2_5 ?h2_5; (case q2_5 => (intro w' hS; obtain ⟨z1, z2, z3⟩ := hS; first | (go_simp; done) | (go_simp; rfl))); (try simp only [Act.put, List.setIfInBounds_toArray, List.set_cons_zero, List.set_cons_succ])
    refine perm_q (v := ?v2_6) (some 22) rfl rfl rfl ?q2_6 ?h2_6; (case q2_6 => (intro w' hS; obtain ⟨z1, z2, z3⟩ := hS; first | (go_simp; done) | (go_simp; rfl))); (try simp only [Act.put, List.setIfInBounds_toArray, List.set_cons_zero, List.set_cons_succ])
    refine perm_q (v := ?v2_7) (some 23) rfl rfl rfl ?q2_7 ?h2_7; (case q2_7 => (intro w' hS; obtain ⟨z1, z2, z3⟩ := hS; first | (go_simp; done) | (go_simp; rfl))); (try simp only [Act.put, List.setIfInBounds_toArray, List.set_cons_zero, List.set_cons_succ])
    refine perm_q (v := ?v2_8) (some 24) rfl rfl rfl ?q2_8 ?h2_8; (case q2_8 => (intro w' hS; obtain ⟨z1, z2, z3⟩ := hS; first | (go_simp; done) | (go_simp; rfl))); (try simp only [Act.put, List.setIfInBounds_toArray, List.set_cons_zero, List.set_cons_succ])
    refine perm_q (v := ?v2_9) (some 25) rfl rfl rfl ?q2_9 ?h2_9; (case q2_9 => (intro w' hS; obtain ⟨z1, z2, z3⟩ := hS; first | (go_simp; done) | (go_simp; rfl))); (try simp only [Act.put, List.setIfInBounds_toArray, List.set_cons_zero, List.set_cons_succ])
    refine perm_q (v := ?v2_10) (some 26) rfl rfl rfl ?q2_10 ?h2_10; (case q2_10 => (intro w' hS; obtain ⟨z1, z2, z3⟩ := hS; first | (go_simp; done) | (go_simp; rfl))); (try simp only [Act.put, List.setIfInBounds_toArray, List.set_cons_zero, List.set_cons_succ])
    refine perm_q (v := ?v2_11) (some 4) rfl rfl rfl ?q2_11 ?h2_11; (case q2_11 => (intro w' hS; obtain ⟨z1, z2, z3⟩ := hS; first | (go_simp; done) | (go_simp; rfl))); (try simp only [Act.put, List.setIfInBounds_toArray, List.set_cons_zero, List.set_cons_succ])
    refine perm_q (v := ?v2_12) (some 5) rfl rfl rfl ?q2_12 ?h2_12; (case q2_12 => (intro w' hS; obtain ⟨z1, z2, z3⟩ := hS; first | (go_simp; done) | (go_simp; rfl))); (try simp only [Act.put, List.setIfInBounds_toArray, List.set_cons_zero, List.set_cons_succ])
    refine perm_q (v := ?v2_13) (some 6) rfl rfl rfl ?q2_13 ?h2_13; (case q2_13 => (intro w' hS; obtain ⟨z1, z2, z3⟩ := hS; first | (go_simp; done) | (go_simp; rfl))); (try simp only [Act.put, List.setIfInBounds_toArray, List.set_cons_zero, List.set_cons_succ])
    refine perm_nil ?_
    go_wp2
    go_ret3
    rw [← HR.out]
    exact ⟨rfl, (Keeps.refl Nob w).drew⟩
  · rw [if_neg h1] at hR
    have hkb : (kd == 1) = false := by simpa using h1
    rw [hkb] at hinp
    clear h1 hkb
    cases was with
    | none =>
      have c0 : w.cell? ⟨kb, i * 5, none⟩ = some (.bool false) := c0
      have HR := Lib.hid hR
      clear hR
      go_enter Tryd.func50, Tryd.ntmps50
      go_wp2_with (first
        | (go_at_call 60; go_must (refine hhas.out.mono ?_; rintro e w' ⟨rfl, rfl⟩))
        | (go_at_call 61; go_must (refine hinp.out.mono ?_; rintro e w' ⟨rfl, rfl⟩))
      )
      go_ret3
      rw [← HR.out]
      exact ⟨rfl, Keeps.refl _ _⟩
    | some k =>
      have c0 : w.cell? ⟨kb, i * 5, none⟩ = some (.bool true) := c0
      simp only [Option.getD_some] at c1 c2 c3 c4
      have HR := Lib.hid hR
      clear hR
      go_enter Tryd.func50, Tryd.ntmps50
      go_wp2_with (first
        | (go_at_call 60; go_must (refine hhas.out.mono ?_; rintro e w' ⟨rfl, rfl⟩))
        | (go_at_call 61; go_must (refine hinp.out.mono ?_; rintro e w' ⟨rfl, rfl⟩))
      )
      refine wp_region_perm [(0, true), (1, true), (2, true), (3, true), (4, true), (5, true), (6, true), (7, true), (8, true), (9, true), (10, true), (11, true), (12, true), (13, true), (14, true), (15, true), (16, true), (17, true), (18, true)] (fun w' => w'.cell? ⟨wb, 3, none⟩ = some (.slice (some ⟨kb, 0, none⟩) E.rules.length E.rules.length) ∧ w'.cell? ⟨kb, i * 5 + 3, none⟩ = some (.int .i64 k.checked) ∧ w'.cell? ⟨kb, i * 5 + 4, none⟩ = some (.int .i64 k.changed)) rfl (by kernel_rfl) (by kernel_rfl) (by decide) (fun c a d v w h => by cases d <;> exact h) ⟨p3, c3, c4⟩ ?_
      refine perm_q (v := ?v3_0) (some 37) rfl rfl rfl ?q3_0 ?h3_0; (case q3_0 => (intro w' hS; obtain ⟨z1, z2, z3⟩ := hS; first | (go_simp; done) | (go_simp; rfl))); (try simp only [Act.put, List.setIfInBounds_toArray, List.set_cons_zero, List.set_cons_succ])
      refine perm_q (v := ?v3_1) (some 38) rfl rfl rfl ?q3_1 ?h3_1; (case q3_1 => (intro w' hS; obtain ⟨z1, z2, z3⟩ := hS; first | (go_simp; done) | (go_simp; rfl))); (try simp only [Act.put, List.setIfInBounds_toArray, List.set_cons_zero, List.set_cons_succ])
      refine perm_q (v := ?v3_2) (some 39) rfl rfl rfl ?q3_2 ?h3_2; (case q3_2 => (intro w' hS; obtain ⟨z1, z2, z3⟩ := hS; first | (go_simp; done) | (go_simp; rfl))); (try simp only [Act.put, List.setIfInBounds_toArray, List.set_cons_zero, List.set_cons_succ])
      refine perm_q (v := ?v3_3) (some 40) rfl rfl rfl ?q3_3 ?h3_3; (case q3_3 => (intro w' hS; obtain ⟨z1, z2, z3⟩ := hS; first | (go_simp; done) | (go_simp; rfl))); (try simp only [Act.put, List.setIfInBounds_toArray, List.set_cons_zero, List.set_cons_succ])
      refine perm_q (v := ?v3_4) (some 41) rfl rfl rfl ?q3_4 ?h3_4; (case q3_4 => (intro w' hS; obtain ⟨z1, z2, z3⟩ := hS; first | (go_simp; done) | (go_simp; rfl))); (try simp only [Act.put, List.setIfInBounds_toArray, List.set_cons_zero, List.set_cons_succ])
      refine perm_q (v := ?v3_5) (some 42) rfl rfl rfl ?q3_5 ?h3_5; (case q3_5 => (intro w' hS; obtain ⟨z1, z2, z3⟩ := hS; first | (go_simp; done) | (go_simp; rfl))); (try simp only [Act.put, List.setIfInBounds_toArray, List.set_cons_zero, List.set_cons_succ])
      refine perm_q (v := ?v3_6) (some 43) rfl rfl rfl ?q3_6 ?h3_6; (case q3_6 => (intro w' hS; obtain ⟨z1, z2, z3⟩ := hS; first | (go_simp; done) | (go_simp; rfl))); (try simp only [Act.put, List.setIfInBounds_toArray, List.set_cons_zero, List.set_cons_succ])
      refine perm_q (v := ?v3_7) (some 44) rfl rfl rfl ?q3_7 ?h3_7; (case q3_7 => (intro w' hS; obtain ⟨z1, z2, z3⟩ := hS; first | (go_simp; done) | (go_simp; rfl))); (try simp only [Act.put, List.setIfInBounds_toArray, List.set_cons_zero, List.set_cons_succ])
      refine perm_q (v := ?v3_8) (some 45) rfl rfl rfl ?q3_8 ?h3_8; (case q3_8 => (intro w' hS; obtain ⟨z1, z2, z3⟩ := hS; first | (go_simp; done) | (go_simp; rfl))); (try simp only [Act.put, List.setIfInBounds_toArray, List.set_cons_zero, List.set_cons_succ])
      refine perm_q (v := ?v3_9) (some 46) rfl rfl rfl ?q3_9 ?h3_9; (case q3_9 => (intro w' hS; obtain ⟨z1, z2, z3⟩ := hS; first | (go_simp; done) | (go_simp; rfl))); (try simp only [Act.put, List.setIfInBounds_toArray, List.set_cons_zero, List.set_cons_succ])
      refine perm_q (v := ?v3_10) (some 47) rfl rfl rfl ?q3_10 ?h3_10; (case q3_10 => (intro w' hS; obtain ⟨z1, z2, z3⟩ := hS; first | (go_simp; done) | (go_simp; rfl))); (try simp only [Act.put, List.setIfInBounds_toArray, List.set_cons_zero, List.set_cons_succ])
      refine perm_q (v := ?v3_11) (some 48) rfl rfl rfl ?q3_11 ?h3_11; (case q3_11 => (intro w' hS; obtain ⟨z1, z2, z3⟩ := hS; first | (go_simp; done) | (go_simp; rfl))); (try simp only [Act.put, List.setIfInBounds_toArray, List.set_cons_zero, List.set_cons_succ])
      refine perm_q (v := ?v3_12) (some 49) rfl rfl rfl ?q3_12 ?h3_12; (case q3_12 => (intro w' hS; obtain ⟨z1, z2, z3⟩ := hS; first | (go_simp; done) | (go_simp; rfl))); (try simp only [Act.put, List.setIfInBounds_toArray, List.set_cons_zero, List.set_cons_succ])
      refine perm_q (v := ?v3_13) (some 50) rfl rfl rfl ?q3_13 ?h3_13; (case q3_13 => (intro w' hS; obtain ⟨z1, z2, z3⟩ := hS; first | (go_simp; done) | (go_simp; rfl))); (try simp only [Act.put, List.setIfInBounds_toArray, List.set_cons_zero, List.set_cons_succ])
      refine perm_q (v := ?v3_14) (some 51) rfl rfl rfl ?q3_14 ?h3_14; (case q3_14 => (intro w' hS; obtain ⟨z1, z2, z3⟩ := hS; first | (go_simp; done) | (go_simp; rfl))); (try simp only [Act.put, List.setIfInBounds_toArray, List.set_cons_zero, List.set_cons_succ])
      refine perm_q (v := ?v3_15) (some 52) rfl rfl rfl ?q3_15 ?h3_15; (case q3_15 => (intro w' hS; obtain ⟨z1, z2, z3⟩ := hS; first | (go_simp; done) | (go_simp; rfl))); (try simp only [Act.put, List.setIfInBounds_toArray, List.set_cons_zero, List.set_cons_succ])
      refine perm_q (v := ?v3_16) (some 4) rfl rfl rfl ?q3_16 ?h3_16; (case q3_16 => (intro w' hS; obtain ⟨z1, z2, z3⟩ := hS; first | (go_simp; done) | (go_simp; rfl))); (try simp only [Act.put, List.setIfInBounds_toArray, List.set_cons_zero, List.set_cons_succ])
      refine perm_q (v := ?v3_17) (some 5) rfl rfl rfl ?q3_17 ?h3_17; (case q3_17 => (intro w' hS; obtain ⟨z1, z2, z3⟩ := hS; first | (go_simp; done) | (go_simp; rfl))); (try simp only [Act.put, List.setIfInBounds_toArray, List.set_cons_zero, List.set_cons_succ])
      refine perm_q (v := ?v3_18) (some 6) rfl rfl rfl ?q3_18 ?h3_18; (case q3_18 => (intro w' hS; obtain ⟨z1, z2, z3⟩ := hS; first | (go_simp; done) | (go_simp; rfl))); (try simp only [Act.put, List.setIfInBounds_toArray, List.set_cons_zero, List.set_cons_succ])
      refine perm_nil ?_
      go_wp2
      go_ret3
      rw [← HR.out]
      exact ⟨rfl, (Keeps.refl Nob w).drew⟩
end Go.Proofs.QW

/-
  A new engine of the specification (New), in memory: it is the model's at its start. Condition: the rules lie.
-/
namespace Go.Proofs.QW
open Go.RowKit Go.Proofs.KL Go.Proofs.QM
set_option maxRecDepth 100000
set_option linter.unusedSimpArgs false
set_option linter.unusedVariables false

def Z113 : Value := .agg #[.bool false, .int .i64 0, .slice none 0 0, .int .i64 0, .int .i64 0]
theorem info113b : (Tryd.prog.info? 113).map (fun i => (i.zero, i.size, i.bytes)) = some (some Z113, 5, 56) := by kernel_rfl
theorem info3b : (Tryd.prog.info? 3).map (fun i => (i.zero, i.size, i.bytes)) = some (some (.int .i64 0), 1, 8) := by kernel_rfl
theorem under98 : Tryd.prog.underlying 98 = some (.slice 113) := by kernel_rfl
theorem made113 {n i : Nat} (hi : i < n) : (madeCells Z113.cells (n * 5))[i * 5]? = some (.bool false) ∧ (madeCells Z113.cells (n * 5))[i * 5 + 1]? = some (.int .i64 0) ∧ (madeCells Z113.cells (n * 5))[i * 5 + 2]? = some (.slice none 0 0) ∧ (madeCells Z113.cells (n * 5))[i * 5 + 3]? = some (.int .i64 0) ∧ (madeCells Z113.cells (n * 5))[i * 5 + 4]? = some (.int .i64 0) := by
  have h := fun j (hj : j < n * 5) => madeCells_get (z := Z113) (sz := 5) rfl (by decide) hj
  refine ⟨(h (i * 5) (by omega)).trans ?_, (h (i * 5 + 1) (by omega)).trans ?_, (h (i * 5 + 2) (by omega)).trans ?_, (h (i * 5 + 3) (by omega)).trans ?_, (h (i * 5 + 4) (by omega)).trans ?_⟩
  · simp only [show i * 5 % 5 = 0 by omega]; rfl
  · simp only [show (i * 5 + 1) % 5 = 1 by omega]; rfl
  · simp only [show (i * 5 + 2) % 5 = 2 by omega]; rfl
  · simp only [show (i * 5 + 3) % 5 = 3 by omega]; rfl
  · simp only [show (i * 5 + 4) % 5 = 4 by omega]; rfl
theorem made3n {n i : Nat} (hi : i < n) : (madeCells (Value.int .i64 0).cells (n * 1))[i]? = some (.int .i64 0) := by
  refine (madeCells_get (z := .int .i64 0) (sz := 1) rfl (by decide) (by omega : i < n * 1)).trans ?_
  simp only [Nat.mod_one]; rfl
theorem getD_zeros (n i : Nat) : (List.replicate n (0 : Int)).getD i 0 = 0 := by
  rw [List.getD_eq_getElem?_getD, List.getElem?_replicate]; split <;> rfl
theorem ref_start {w w0 : World} {X : Nat → Prop} {wb sb hb kb nb : Nat} {rs : List QRule} {rv : Value}
    (hb0 : w.heap[wb]? = some (.cells #[rv, .slice (some ⟨sb, 0, none⟩) rs.length rs.length, .slice (some ⟨hb, 0, none⟩) rs.length rs.length, .slice (some ⟨kb, 0, none⟩) rs.length rs.length, .int .i64 0, .slice (some ⟨nb, 0, none⟩) rs.length rs.length, .slice none 0 0, .int .i64 0] 100 (0, 0)))
    (hr : RulesX w (fun b => X b ∧ b < w0.heap.size) rv rs) (hs : w.heap[sb]? = some (.cells (madeCells (Value.int .i64 0).cells (rs.length * 1)) 3 (0, 0))) (hh : w.heap[hb]? = some (.cells (madeCells (Value.int .i64 0).cells (rs.length * 1)) 3 (0, 0)))
    (hk : w.heap[kb]? = some (.cells (madeCells Z113.cells (rs.length * 5)) 113 (0, 0))) (hn : w.heap[nb]? = some (.cells (madeCells (Value.bool false).cells (rs.length * 1)) 4 (0, 0)))
    (l : (w0.heap.size ≤ wb ∧ w0.heap.size ≤ sb ∧ w0.heap.size ≤ hb) ∧ w0.heap.size ≤ kb ∧ w0.heap.size ≤ nb) (hsh : sb ≠ hb) (hz : w0.heap.size ≤ w.heap.size) :
    RefAt w (fun b => X b ∧ b < w0.heap.size) wb sb hb kb nb (fresh rs 0) (List.replicate rs.length none) (.slice none 0 0) := by
  refine ⟨[], 0, ⟨⟨rv, hb0, hr⟩, ⟨_, hs, fun i hi => ?_⟩, ⟨_, hh, fun i hi => ?_⟩, ⟨_, hk, fun i hi => ?_⟩, ⟨_, hn, fun i hi => ?_⟩, ⟨rfl, .inl ⟨rfl, rfl⟩⟩, fun h => by have := h.2; omega, fun h => by have := h.2; omega, fun h => by have := h.2; omega, fun h => by have := h.2; omega, fun h => by have := h.2; omega, fun b h => (by cases h), fun h => (by cases h), fun h => (by cases h), hsh, fun k h => by have := h.2; omega⟩⟩
  · rw [made3n (n := rs.length) hi]; show _ = some (Value.int .i64 ((List.replicate rs.length (0 : Int)).getD i 0)); rw [getD_zeros]
  · rw [made3n (n := rs.length) hi]; show _ = some (Value.int .i64 ((List.replicate rs.length (0 : Int)).getD i 0)); rw [getD_zeros]
  · obtain ⟨h1, h2, h3, h4, h5⟩ := made113 (n := rs.length) hi
    show RowC _ _ _ i ((List.replicate rs.length none).getD i none)
    rw [getD_replicate]
    exact ⟨_, h1, h2, h3, h4, h5, nil_ints _ _⟩
  · rw [made4 (n := rs.length) hi]; simp
def RefNewOut (rs : List QRule) (w : World) (X : Nat → Prop) (e : Ending) (w' : World) : Prop :=
  ∃ wb sb hb kb nb, e = .returned (.pointer (some ⟨wb, 0, none⟩)) ∧ Keeps Nob w w' ∧ RefAt w' (fun b => X b ∧ b < w.heap.size) wb sb hb kb nb (fresh rs 0) (List.replicate rs.length none) (.slice none 0 0) ∧ (w.heap.size ≤ wb ∧ w.heap.size ≤ sb ∧ w.heap.size ≤ hb) ∧ w.heap.size ≤ kb ∧ w.heap.size ≤ nb
set_option maxHeartbeats 8000000 in
/-- NEW. -/
theorem RefNew_any (rs : List QRule) (h200 : rs.length ≤ 200) (w : World) (X : Nat → Prop) (rv : Value) (hr : RulesX w X rv rs) :
    Calls Tryd.prog 25 #[rv] w (RefNewOut rs w X) := by
  have hr' := hr.keep (X' := fun b => X b ∧ b < w.heap.size) (Keeps.refl Nob w) (fun _ _ _ => id) (fun b h h' => ⟨h', h⟩)
  have HR := Lib.hid hr'
  obtain ⟨rA, rc, rfl, -, -⟩ := id hr
  obtain ⟨n, hn⟩ : ∃ n, rs.length = n := ⟨_, rfl⟩
  have Hn := Lib.hid hn
  rw [hn] at h200 ⊢
  clear hr hr' hn
  have Hkc := Lib.hid (Keeps.refl Nob w).drew
  go_enter Tryd.func25, Tryd.ntmps25
  go_wp2_with fail
  refine wp_region_tree (.q 0 (.q 1 (.q 3 (.q 5 (.q 7 (.br [2, 4, 6, 8] (fun k => bif Nat.beq k 2 then .br [4, 6, 8] (fun k => bif Nat.beq k 4 then .br [6, 8] (fun k => bif Nat.beq k 6 then .br [8] (fun k => .q 9 (.br [10] (fun k => .q 11 (.done)))) else .br [6] (fun k => .q 9 (.br [10] (fun k => .q 11 (.done))))) else bif Nat.beq k 6 then .br [4, 8] (fun k => bif Nat.beq k 4 then .br [8] (fun k => .q 9 (.br [10] (fun k => .q 11 (.done)))) else .br [4] (fun k => .q 9 (.br [10] (fun k => .q 11 (.done))))) else .br [4, 6] (fun k => bif Nat.beq k 4 then .br [6] (fun k => .q 9 (.br [10] (fun k => .q 11 (.done)))) else .br [4] (fun k => .q 9 (.br [10] (fun k => .q 11 (.done)))))) else bif Nat.beq k 4 then .br [2, 6, 8] (fun k => bif Nat.beq k 2 then .br [6, 8] (fun k => bif Nat.beq k 6 then .br [8] (fun k => .q 9 (.br [10] (fun k => .q 11 (.done)))) else .br [6] (fun k => .q 9 (.br [10] (fun k => .q 11 (.done))))) else bif Nat.beq k 6 then .br [2, 8] (fun k => bif Nat.beq k 2 then .br [8] (fun k => .q 9 (.br [10] (fun k => .q 11 (.done)))) else .br [2] (fun k => .q 9 (.br [10] (fun k => .q 11 (.done))))) else .br [2, 6] (fun k => bif Nat.beq k 2 then .br [6] (fun k => .q 9 (.br [10] (fun k => .q 11 (.done)))) else .br [2] (fun k => .q 9 (.br [10] (fun k => .q 11 (.done)))))) else bif Nat.beq k 6 then .br [2, 4, 8] (fun k => bif Nat.beq k 2 then .br [4, 8] (fun k => bif Nat.beq k 4 then .br [8] (fun k => .q 9 (.br [10] (fun k => .q 11 (.done)))) else .br [4] (fun k => .q 9 (.br [10] (fun k => .q 11 (.done))))) else bif Nat.beq k 4 then .br [2, 8] (fun k => bif Nat.beq k 2 then .br [8] (fun k => .q 9 (.br [10] (fun k => .q 11 (.done)))) else .br [2] (fun k => .q 9 (.br [10] (fun k => .q 11 (.done))))) else .br [2, 4] (fun k => bif Nat.beq k 2 then .br [4] (fun k => .q 9 (.br [10] (fun k => .q 11 (.done)))) else .br [2] (fun k => .q 9 (.br [10] (fun k => .q 11 (.done)))))) else .br [2, 4, 6] (fun k => bif Nat.beq k 2 then .br [4, 6] (fun k => bif Nat.beq k 4 then .br [6] (fun k => .q 9 (.br [10] (fun k => .q 11 (.done)))) else .br [4] (fun k => .q 9 (.br [10] (fun k => .q 11 (.done))))) else bif Nat.beq k 4 then .br [2, 6] (fun k => bif Nat.beq k 2 then .br [6] (fun k => .q 9 (.br [10] (fun k => .q 11 (.done)))) else .br [2] (fun k => .q 9 (.br [10] (fun k => .q 11 (.done))))) else .br [2, 4] (fun k => bif Nat.beq k 2 then .br [4] (fun k => .q 9 (.br [10] (fun k => .q 11 (.done)))) else .br [2] (fun k => .q 9 (.br [10] (fun k => .q 11 (.done))))))))))))) (fun w' => True) rfl (by kernel_rfl) (by kernel_rfl) (fun c a d v w h => by cases d <;> exact h) trivial ?_
  refine tree_q (v := ?v1_93) (some 6) rfl rfl rfl ?q1_93 ?h1_93; (case q1_93 => (intro w' hS; skip; first | (go_simp; done) | (go_simp; rfl))); (try simp only [Act.put, List.setIfInBounds_toArray, List.set_cons_zero, List.set_cons_succ])
  refine tree_q (v := ?v1_92) (some 7) rfl rfl rfl ?q1_92 ?h1_92; (case q1_92 => (intro w' hS; skip; first | (go_simp; done) | (go_simp; rfl))); (try simp only [Act.put, List.setIfInBounds_toArray, List.set_cons_zero, List.set_cons_succ])
  refine tree_q (v := ?v1_91) (some 9) rfl rfl rfl ?q1_91 ?h1_91; (case q1_91 => (intro w' hS; skip; first | (go_simp; done) | (go_simp; rfl))); (try simp only [Act.put, List.setIfInBounds_toArray, List.set_cons_zero, List.set_cons_succ])
  refine tree_q (v := ?v1_90) (some 11) rfl rfl rfl ?q1_90 ?h1_90; (case q1_90 => (intro w' hS; skip; first | (go_simp; done) | (go_simp; rfl))); (try simp only [Act.put, List.setIfInBounds_toArray, List.set_cons_zero, List.set_cons_succ])
  refine tree_q (v := ?v1_89) (some 13) rfl rfl rfl ?q1_89 ?h1_89; (case q1_89 => (intro w' hS; skip; first | (go_simp; done) | (go_simp; rfl))); (try simp only [Act.put, List.setIfInBounds_toArray, List.set_cons_zero, List.set_cons_succ])
  refine tree_b rfl rfl ?b1_22 ?nb1_22
  case' b1_22 =>   -- 2: makeSlice 23 t7 t7
    go_must (refine ev_makeSlice rfl rfl n rfl rfl Tryd.underlying23 info3b rfl (by decide) (by omega) (by omega) ?_; intro gs ws hgs hls hbs hks)
    (try simp only [Act.put, List.setIfInBounds_toArray, List.set_cons_zero, List.set_cons_succ])
    refine wpList_nil ⟨trivial, ?_⟩
    have zs := hks.size
    have Hbs := Lib.hid hbs
    (try have Hbh := Lib.hid (hks.blk Hbh.out id))
    (try have Hbk := Lib.hid (hks.blk Hbk.out id))
    (try have Hbn := Lib.hid (hks.blk Hbn.out id))
    have Hkc := Lib.hid (Hkc.out.trans hks (fun _ _ h => h))
    clear hks hbs
    refine tree_b rfl rfl ?b1_7 ?nb1_7
    case' b1_7 =>   -- 4: makeSlice 23 t9 t9
      go_must (refine ev_makeSlice rfl rfl n rfl rfl Tryd.underlying23 info3b rfl (by decide) (by omega) (by omega) ?_; intro gh wh hgh hlh hbh hkh)
      (try simp only [Act.put, List.setIfInBounds_toArray, List.set_cons_zero, List.set_cons_succ])
      refine wpList_nil ⟨trivial, ?_⟩
      have zh := hkh.size
      have Hbh := Lib.hid hbh
      (try have Hbs := Lib.hid (hkh.blk Hbs.out id))
      (try have Hbk := Lib.hid (hkh.blk Hbk.out id))
      (try have Hbn := Lib.hid (hkh.blk Hbn.out id))
      have Hkc := Lib.hid (Hkc.out.trans hkh (fun _ _ h => h))
      clear hkh hbh
      refine tree_b rfl rfl ?b1_3 ?nb1_3
      case' b1_3 =>   -- 6: makeSlice 98 t11 t11
        go_must (refine ev_makeSlice rfl rfl n rfl rfl under98 info113b rfl (by decide) (by omega) (by omega) ?_; intro gk wk hgk hlk hbk hkk)
        (try simp only [Act.put, List.setIfInBounds_toArray, List.set_cons_zero, List.set_cons_succ])
        refine wpList_nil ⟨trivial, ?_⟩
        have zk := hkk.size
        have Hbk := Lib.hid hbk
        (try have Hbs := Lib.hid (hkk.blk Hbs.out id))
        (try have Hbh := Lib.hid (hkk.blk Hbh.out id))
        (try have Hbn := Lib.hid (hkk.blk Hbn.out id))
        have Hkc := Lib.hid (Hkc.out.trans hkk (fun _ _ h => h))
        clear hkk hbk
        refine tree_e rfl rfl ?_   -- 8: makeSlice 76 t13 t13
        go_must (refine ev_makeSlice rfl rfl n rfl rfl Tryd.underlying76 info4b rfl (by decide) (by omega) (by omega) ?_; intro gn wn hgn hln hbn hkn)
        (try simp only [Act.put, List.setIfInBounds_toArray, List.set_cons_zero, List.set_cons_succ])
        refine wpList_nil ⟨trivial, ?_⟩
        have zn := hkn.size
        have Hbn := Lib.hid hbn
        (try have Hbs := Lib.hid (hkn.blk Hbs.out id))
        (try have Hbh := Lib.hid (hkn.blk Hbh.out id))
        (try have Hbk := Lib.hid (hkn.blk Hbk.out id))
        have Hkc := Lib.hid (Hkc.out.trans hkn (fun _ _ h => h))
        clear hkn hbn
        refine tree_q (v := ?v1_2) (some 15) rfl rfl rfl ?q1_2 ?h1_2; (case q1_2 => (intro w' hS; skip; first | (go_simp; done) | (go_simp; rfl))); (try simp only [Act.put, List.setIfInBounds_toArray, List.set_cons_zero, List.set_cons_succ])
        refine tree_e rfl rfl ?_   -- 10: box 100 t15
        go_must (refine ev_box (cs := #[.slice rA n rc, .slice (some ⟨gs, 0, none⟩) n n, .slice (some ⟨gh, 0, none⟩) n n, .slice (some ⟨gk, 0, none⟩) n n, .int .i64 0, .slice (some ⟨gn, 0, none⟩) n n, .slice none 0 0, .int .i64 0]) rfl rfl rfl ?_; intro gp wp hgp hlp hbp hkp)
        (try simp only [Act.put, List.setIfInBounds_toArray, List.set_cons_zero, List.set_cons_succ])
        refine wpList_nil ⟨trivial, ?_⟩
        have Hbp := Lib.hid hbp
        have Hlo := Lib.hid (show (w.heap.size ≤ gp ∧ w.heap.size ≤ gs ∧ w.heap.size ≤ gh) ∧ w.heap.size ≤ gk ∧ w.heap.size ≤ gn from by have zd : w.drew.heap.size = w.heap.size := rfl; omega)
        have Hne := Lib.hid (show gs ≠ gh by omega)
        have Hkc := Lib.hid (Hkc.out.trans hkp (fun _ _ h => h))
        have Hbs := Lib.hid (hkp.blk Hbs.out id)
        have Hbh := Lib.hid (hkp.blk Hbh.out id)
        have Hbk := Lib.hid (hkp.blk Hbk.out id)
        have Hbn := Lib.hid (hkp.blk Hbn.out id)
        clear hkp hbp
        refine tree_q (v := ?v1_1) (some 2) rfl rfl rfl ?q1_1 ?h1_1; (case q1_1 => (intro w' hS; skip; first | (go_simp; done) | (go_simp; rfl))); (try simp only [Act.put, List.setIfInBounds_toArray, List.set_cons_zero, List.set_cons_succ])
        refine tree_nil ?_
      case' nb1_3 =>
        refine tree_e rfl rfl ?b1_6
        case' b1_6 =>   -- 8: makeSlice 76 t13 t13
          go_must (refine ev_makeSlice rfl rfl n rfl rfl Tryd.underlying76 info4b rfl (by decide) (by omega) (by omega) ?_; intro gn wn hgn hln hbn hkn)
          (try simp only [Act.put, List.setIfInBounds_toArray, List.set_cons_zero, List.set_cons_succ])
          refine wpList_nil ⟨trivial, ?_⟩
          have zn := hkn.size
          have Hbn := Lib.hid hbn
          (try have Hbs := Lib.hid (hkn.blk Hbs.out id))
          (try have Hbh := Lib.hid (hkn.blk Hbh.out id))
          (try have Hbk := Lib.hid (hkn.blk Hbk.out id))
          have Hkc := Lib.hid (Hkc.out.trans hkn (fun _ _ h => h))
          clear hkn hbn
          refine tree_e rfl rfl ?_   -- 6: makeSlice 98 t11 t11
          go_must (refine ev_makeSlice rfl rfl n rfl rfl under98 info113b rfl (by decide) (by omega) (by omega) ?_; intro gk wk hgk hlk hbk hkk)
          (try simp only [Act.put, List.setIfInBounds_toArray, List.set_cons_zero, List.set_cons_succ])
          refine wpList_nil ⟨trivial, ?_⟩
          have zk := hkk.size
          have Hbk := Lib.hid hbk
          (try have Hbs := Lib.hid (hkk.blk Hbs.out id))
          (try have Hbh := Lib.hid (hkk.blk Hbh.out id))
          (try have Hbn := Lib.hid (hkk.blk Hbn.out id))
          have Hkc := Lib.hid (Hkc.out.trans hkk (fun _ _ h => h))
          clear hkk hbk
          refine tree_q (v := ?v1_5) (some 15) rfl rfl rfl ?q1_5 ?h1_5; (case q1_5 => (intro w' hS; skip; first | (go_simp; done) | (go_simp; rfl))); (try simp only [Act.put, List.setIfInBounds_toArray, List.set_cons_zero, List.set_cons_succ])
          refine tree_e rfl rfl ?_   -- 10: box 100 t15
          go_must (refine ev_box (cs := #[.slice rA n rc, .slice (some ⟨gs, 0, none⟩) n n, .slice (some ⟨gh, 0, none⟩) n n, .slice (some ⟨gk, 0, none⟩) n n, .int .i64 0, .slice (some ⟨gn, 0, none⟩) n n, .slice none 0 0, .int .i64 0]) rfl rfl rfl ?_; intro gp wp hgp hlp hbp hkp)
          (try simp only [Act.put, List.setIfInBounds_toArray, List.set_cons_zero, List.set_cons_succ])
          refine wpList_nil ⟨trivial, ?_⟩
          have Hbp := Lib.hid hbp
          have Hlo := Lib.hid (show (w.heap.size ≤ gp ∧ w.heap.size ≤ gs ∧ w.heap.size ≤ gh) ∧ w.heap.size ≤ gk ∧ w.heap.size ≤ gn from by have zd : w.drew.heap.size = w.heap.size := rfl; omega)
          have Hne := Lib.hid (show gs ≠ gh by omega)
          have Hkc := Lib.hid (Hkc.out.trans hkp (fun _ _ h => h))
          have Hbs := Lib.hid (hkp.blk Hbs.out id)
          have Hbh := Lib.hid (hkp.blk Hbh.out id)
          have Hbk := Lib.hid (hkp.blk Hbk.out id)
          have Hbn := Lib.hid (hkp.blk Hbn.out id)
          clear hkp hbp
          refine tree_q (v := ?v1_4) (some 2) rfl rfl rfl ?q1_4 ?h1_4; (case q1_4 => (intro w' hS; skip; first | (go_simp; done) | (go_simp; rfl))); (try simp only [Act.put, List.setIfInBounds_toArray, List.set_cons_zero, List.set_cons_succ])
          refine tree_nil ?_
    case' nb1_7 =>
      refine tree_b rfl rfl ?b1_14 ?nb1_14
      case' b1_14 =>   -- 6: makeSlice 98 t11 t11
        go_must (refine ev_makeSlice rfl rfl n rfl rfl under98 info113b rfl (by decide) (by omega) (by omega) ?_; intro gk wk hgk hlk hbk hkk)
        (try simp only [Act.put, List.setIfInBounds_toArray, List.set_cons_zero, List.set_cons_succ])
        refine wpList_nil ⟨trivial, ?_⟩
        have zk := hkk.size
        have Hbk := Lib.hid hbk
        (try have Hbs := Lib.hid (hkk.blk Hbs.out id))
        (try have Hbh := Lib.hid (hkk.blk Hbh.out id))
        (try have Hbn := Lib.hid (hkk.blk Hbn.out id))
        have Hkc := Lib.hid (Hkc.out.trans hkk (fun _ _ h => h))
        clear hkk hbk
        refine tree_b rfl rfl ?b1_10 ?nb1_10
        case' b1_10 =>   -- 4: makeSlice 23 t9 t9
          go_must (refine ev_makeSlice rfl rfl n rfl rfl Tryd.underlying23 info3b rfl (by decide) (by omega) (by omega) ?_; intro gh wh hgh hlh hbh hkh)
          (try simp only [Act.put, List.setIfInBounds_toArray, List.set_cons_zero, List.set_cons_succ])
          refine wpList_nil ⟨trivial, ?_⟩
          have zh := hkh.size
          have Hbh := Lib.hid hbh
          (try have Hbs := Lib.hid (hkh.blk Hbs.out id))
          (try have Hbk := Lib.hid (hkh.blk Hbk.out id))
          (try have Hbn := Lib.hid (hkh.blk Hbn.out id))
          have Hkc := Lib.hid (Hkc.out.trans hkh (fun _ _ h => h))
          clear hkh hbh
          refine tree_e rfl rfl ?_   -- 8: makeSlice 76 t13 t13
          go_must (refine ev_makeSlice rfl rfl n rfl rfl Tryd.underlying76 info4b rfl (by decide) (by omega) (by omega) ?_; intro gn wn hgn hln hbn hkn)
          (try simp only [Act.put, List.setIfInBounds_toArray, List.set_cons_zero, List.set_cons_succ])
          refine wpList_nil ⟨trivial, ?_⟩
          have zn := hkn.size
          have Hbn := Lib.hid hbn
          (try have Hbs := Lib.hid (hkn.blk Hbs.out id))
          (try have Hbh := Lib.hid (hkn.blk Hbh.out id))
          (try have Hbk := Lib.hid (hkn.blk Hbk.out id))
          have Hkc := Lib.hid (Hkc.out.trans hkn (fun _ _ h => h))
          clear hkn hbn
          refine tree_q (v := ?v1_9) (some 15) rfl rfl rfl ?q1_9 ?h1_9; (case q1_9 => (intro w' hS; skip; first | (go_simp; done) | (go_simp; rfl))); (try simp only [Act.put, List.setIfInBounds_toArray, List.set_cons_zero, List.set_cons_succ])
          refine tree_e rfl rfl ?_   -- 10: box 100 t15
          go_must (refine ev_box (cs := #[.slice rA n rc, .slice (some ⟨gs, 0, none⟩) n n, .slice (some ⟨gh, 0, none⟩) n n, .slice (some ⟨gk, 0, none⟩) n n, .int .i64 0, .slice (some ⟨gn, 0, none⟩) n n, .slice none 0 0, .int .i64 0]) rfl rfl rfl ?_; intro gp wp hgp hlp hbp hkp)
          (try simp only [Act.put, List.setIfInBounds_toArray, List.set_cons_zero, List.set_cons_succ])
          refine wpList_nil ⟨trivial, ?_⟩
          have Hbp := Lib.hid hbp
          have Hlo := Lib.hid (show (w.heap.size ≤ gp ∧ w.heap.size ≤ gs ∧ w.heap.size ≤ gh) ∧ w.heap.size ≤ gk ∧ w.heap.size ≤ gn from by have zd : w.drew.heap.size = w.heap.size := rfl; omega)
          have Hne := Lib.hid (show gs ≠ gh by omega)
          have Hkc := Lib.hid (Hkc.out.trans hkp (fun _ _ h => h))
          have Hbs := Lib.hid (hkp.blk Hbs.out id)
          have Hbh := Lib.hid (hkp.blk Hbh.out id)
          have Hbk := Lib.hid (hkp.blk Hbk.out id)
          have Hbn := Lib.hid (hkp.blk Hbn.out id)
          clear hkp hbp
          refine tree_q (v := ?v1_8) (some 2) rfl rfl rfl ?q1_8 ?h1_8; (case q1_8 => (intro w' hS; skip; first | (go_simp; done) | (go_simp; rfl))); (try simp only [Act.put, List.setIfInBounds_toArray, List.set_cons_zero, List.set_cons_succ])
          refine tree_nil ?_
        case' nb1_10 =>
          refine tree_e rfl rfl ?b1_13
          case' b1_13 =>   -- 8: makeSlice 76 t13 t13
            go_must (refine ev_makeSlice rfl rfl n rfl rfl Tryd.underlying76 info4b rfl (by decide) (by omega) (by omega) ?_; intro gn wn hgn hln hbn hkn)
            (try simp only [Act.put, List.setIfInBounds_toArray, List.set_cons_zero, List.set_cons_succ])
            refine wpList_nil ⟨trivial, ?_⟩
            have zn := hkn.size
            have Hbn := Lib.hid hbn
            (try have Hbs := Lib.hid (hkn.blk Hbs.out id))
            (try have Hbh := Lib.hid (hkn.blk Hbh.out id))
            (try have Hbk := Lib.hid (hkn.blk Hbk.out id))
            have Hkc := Lib.hid (Hkc.out.trans hkn (fun _ _ h => h))
            clear hkn hbn
            refine tree_e rfl rfl ?_   -- 4: makeSlice 23 t9 t9
            go_must (refine ev_makeSlice rfl rfl n rfl rfl Tryd.underlying23 info3b rfl (by decide) (by omega) (by omega) ?_; intro gh wh hgh hlh hbh hkh)
            (try simp only [Act.put, List.setIfInBounds_toArray, List.set_cons_zero, List.set_cons_succ])
            refine wpList_nil ⟨trivial, ?_⟩
            have zh := hkh.size
            have Hbh := Lib.hid hbh
            (try have Hbs := Lib.hid (hkh.blk Hbs.out id))
            (try have Hbk := Lib.hid (hkh.blk Hbk.out id))
            (try have Hbn := Lib.hid (hkh.blk Hbn.out id))
            have Hkc := Lib.hid (Hkc.out.trans hkh (fun _ _ h => h))
            clear hkh hbh
            refine tree_q (v := ?v1_12) (some 15) rfl rfl rfl ?q1_12 ?h1_12; (case q1_12 => (intro w' hS; skip; first | (go_simp; done) | (go_simp; rfl))); (try simp only [Act.put, List.setIfInBounds_toArray, List.set_cons_zero, List.set_cons_succ])
            refine tree_e rfl rfl ?_   -- 10: box 100 t15
            go_must (refine ev_box (cs := #[.slice rA n rc, .slice (some ⟨gs, 0, none⟩) n n, .slice (some ⟨gh, 0, none⟩) n n, .slice (some ⟨gk, 0, none⟩) n n, .int .i64 0, .slice (some ⟨gn, 0, none⟩) n n, .slice none 0 0, .int .i64 0]) rfl rfl rfl ?_; intro gp wp hgp hlp hbp hkp)
            (try simp only [Act.put, List.setIfInBounds_toArray, List.set_cons_zero, List.set_cons_succ])
            refine wpList_nil ⟨trivial, ?_⟩
            have Hbp := Lib.hid hbp
            have Hlo := Lib.hid (show (w.heap.size ≤ gp ∧ w.heap.size ≤ gs ∧ w.heap.size ≤ gh) ∧ w.heap.size ≤ gk ∧ w.heap.size ≤ gn from by have zd : w.drew.heap.size = w.heap.size := rfl; omega)
            have Hne := Lib.hid (show gs ≠ gh by omega)
            have Hkc := Lib.hid (Hkc.out.trans hkp (fun _ _ h => h))
            have Hbs := Lib.hid (hkp.blk Hbs.out id)
            have Hbh := Lib.hid (hkp.blk Hbh.out id)
            have Hbk := Lib.hid (hkp.blk Hbk.out id)
            have Hbn := Lib.hid (hkp.blk Hbn.out id)
            clear hkp hbp
            refine tree_q (v := ?v1_11) (some 2) rfl rfl rfl ?q1_11 ?h1_11; (case q1_11 => (intro w' hS; skip; first | (go_simp; done) | (go_simp; rfl))); (try simp only [Act.put, List.setIfInBounds_toArray, List.set_cons_zero, List.set_cons_succ])
            refine tree_nil ?_
      case' nb1_14 =>
        refine tree_e rfl rfl ?b1_21
        case' b1_21 =>   -- 8: makeSlice 76 t13 t13
          go_must (refine ev_makeSlice rfl rfl n rfl rfl Tryd.underlying76 info4b rfl (by decide) (by omega) (by omega) ?_; intro gn wn hgn hln hbn hkn)
          (try simp only [Act.put, List.setIfInBounds_toArray, List.set_cons_zero, List.set_cons_succ])
          refine wpList_nil ⟨trivial, ?_⟩
          have zn := hkn.size
          have Hbn := Lib.hid hbn
          (try have Hbs := Lib.hid (hkn.blk Hbs.out id))
          (try have Hbh := Lib.hid (hkn.blk Hbh.out id))
          (try have Hbk := Lib.hid (hkn.blk Hbk.out id))
          have Hkc := Lib.hid (Hkc.out.trans hkn (fun _ _ h => h))
          clear hkn hbn
          refine tree_b rfl rfl ?b1_17 ?nb1_17
          case' b1_17 =>   -- 4: makeSlice 23 t9 t9
            go_must (refine ev_makeSlice rfl rfl n rfl rfl Tryd.underlying23 info3b rfl (by decide) (by omega) (by omega) ?_; intro gh wh hgh hlh hbh hkh)
            (try simp only [Act.put, List.setIfInBounds_toArray, List.set_cons_zero, List.set_cons_succ])
            refine wpList_nil ⟨trivial, ?_⟩
            have zh := hkh.size
            have Hbh := Lib.hid hbh
            (try have Hbs := Lib.hid (hkh.blk Hbs.out id))
            (try have Hbk := Lib.hid (hkh.blk Hbk.out id))
            (try have Hbn := Lib.hid (hkh.blk Hbn.out id))
            have Hkc := Lib.hid (Hkc.out.trans hkh (fun _ _ h => h))
            clear hkh hbh
            refine tree_e rfl rfl ?_   -- 6: makeSlice 98 t11 t11
            go_must (refine ev_makeSlice rfl rfl n rfl rfl under98 info113b rfl (by decide) (by omega) (by omega) ?_; intro gk wk hgk hlk hbk hkk)
            (try simp only [Act.put, List.setIfInBounds_toArray, List.set_cons_zero, List.set_cons_succ])
            refine wpList_nil ⟨trivial, ?_⟩
            have zk := hkk.size
            have Hbk := Lib.hid hbk
            (try have Hbs := Lib.hid (hkk.blk Hbs.out id))
            (try have Hbh := Lib.hid (hkk.blk Hbh.out id))
            (try have Hbn := Lib.hid (hkk.blk Hbn.out id))
            have Hkc := Lib.hid (Hkc.out.trans hkk (fun _ _ h => h))
            clear hkk hbk
            refine tree_q (v := ?v1_16) (some 15) rfl rfl rfl ?q1_16 ?h1_16; (case q1_16 => (intro w' hS; skip; first | (go_simp; done) | (go_simp; rfl))); (try simp only [Act.put, List.setIfInBounds_toArray, List.set_cons_zero, List.set_cons_succ])
            refine tree_e rfl rfl ?_   -- 10: box 100 t15
            go_must (refine ev_box (cs := #[.slice rA n rc, .slice (some ⟨gs, 0, none⟩) n n, .slice (some ⟨gh, 0, none⟩) n n, .slice (some ⟨gk, 0, none⟩) n n, .int .i64 0, .slice (some ⟨gn, 0, none⟩) n n, .slice none 0 0, .int .i64 0]) rfl rfl rfl ?_; intro gp wp hgp hlp hbp hkp)
            (try simp only [Act.put, List.setIfInBounds_toArray, List.set_cons_zero, List.set_cons_succ])
            refine wpList_nil ⟨trivial, ?_⟩
            have Hbp := Lib.hid hbp
            have Hlo := Lib.hid (show (w.heap.size ≤ gp ∧ w.heap.size ≤ gs ∧ w.heap.size ≤ gh) ∧ w.heap.size ≤ gk ∧ w.heap.size ≤ gn from by have zd : w.drew.heap.size = w.heap.size := rfl; omega)
            have Hne := Lib.hid (show gs ≠ gh by omega)
            have Hkc := Lib.hid (Hkc.out.trans hkp (fun _ _ h => h))
            have Hbs := Lib.hid (hkp.blk Hbs.out id)
            have Hbh := Lib.hid (hkp.blk Hbh.out id)
            have Hbk := Lib.hid (hkp.blk Hbk.out id)
            have Hbn := Lib.hid (hkp.blk Hbn.out id)
            clear hkp hbp
            refine tree_q (v := ?v1_15) (some 2) rfl rfl rfl ?q1_15 ?h1_15; (case q1_15 => (intro w' hS; skip; first | (go_simp; done) | (go_simp; rfl))); (try simp only [Act.put, List.setIfInBounds_toArray, List.set_cons_zero, List.set_cons_succ])
            refine tree_nil ?_
          case' nb1_17 =>
            refine tree_e rfl rfl ?b1_20
            case' b1_20 =>   -- 6: makeSlice 98 t11 t11
              go_must (refine ev_makeSlice rfl rfl n rfl rfl under98 info113b rfl (by decide) (by omega) (by omega) ?_; intro gk wk hgk hlk hbk hkk)
              (try simp only [Act.put, List.setIfInBounds_toArray, List.set_cons_zero, List.set_cons_succ])
              refine wpList_nil ⟨trivial, ?_⟩
              have zk := hkk.size
              have Hbk := Lib.hid hbk
              (try have Hbs := Lib.hid (hkk.blk Hbs.out id))
              (try have Hbh := Lib.hid (hkk.blk Hbh.out id))
              (try have Hbn := Lib.hid (hkk.blk Hbn.out id))
              have Hkc := Lib.hid (Hkc.out.trans hkk (fun _ _ h => h))
              clear hkk hbk
              refine tree_e rfl rfl ?_   -- 4: makeSlice 23 t9 t9
              go_must (refine ev_makeSlice rfl rfl n rfl rfl Tryd.underlying23 info3b rfl (by decide) (by omega) (by omega) ?_; intro gh wh hgh hlh hbh hkh)
              (try simp only [Act.put, List.setIfInBounds_toArray, List.set_cons_zero, List.set_cons_succ])
              refine wpList_nil ⟨trivial, ?_⟩
              have zh := hkh.size
              have Hbh := Lib.hid hbh
              (try have Hbs := Lib.hid (hkh.blk Hbs.out id))
              (try have Hbk := Lib.hid (hkh.blk Hbk.out id))
              (try have Hbn := Lib.hid (hkh.blk Hbn.out id))
              have Hkc := Lib.hid (Hkc.out.trans hkh (fun _ _ h => h))
              clear hkh hbh
              refine tree_q (v := ?v1_19) (some 15) rfl rfl rfl ?q1_19 ?h1_19; (case q1_19 => (intro w' hS; skip; first | (go_simp; done) | (go_simp; rfl))); (try simp only [Act.put, List.setIfInBounds_toArray, List.set_cons_zero, List.set_cons_succ])
              refine tree_e rfl rfl ?_   -- 10: box 100 t15
              go_must (refine ev_box (cs := #[.slice rA n rc, .slice (some ⟨gs, 0, none⟩) n n, .slice (some ⟨gh, 0, none⟩) n n, .slice (some ⟨gk, 0, none⟩) n n, .int .i64 0, .slice (some ⟨gn, 0, none⟩) n n, .slice none 0 0, .int .i64 0]) rfl rfl rfl ?_; intro gp wp hgp hlp hbp hkp)
              (try simp only [Act.put, List.setIfInBounds_toArray, List.set_cons_zero, List.set_cons_succ])
              refine wpList_nil ⟨trivial, ?_⟩
              have Hbp := Lib.hid hbp
              have Hlo := Lib.hid (show (w.heap.size ≤ gp ∧ w.heap.size ≤ gs ∧ w.heap.size ≤ gh) ∧ w.heap.size ≤ gk ∧ w.heap.size ≤ gn from by have zd : w.drew.heap.size = w.heap.size := rfl; omega)
              have Hne := Lib.hid (show gs ≠ gh by omega)
              have Hkc := Lib.hid (Hkc.out.trans hkp (fun _ _ h => h))
              have Hbs := Lib.hid (hkp.blk Hbs.out id)
              have Hbh := Lib.hid (hkp.blk Hbh.out id)
              have Hbk := Lib.hid (hkp.blk Hbk.out id)
              have Hbn := Lib.hid (hkp.blk Hbn.out id)
              clear hkp hbp
              refine tree_q (v := ?v1_18) (some 2) rfl rfl rfl ?q1_18 ?h1_18; (case q1_18 => (intro w' hS; skip; first | (go_simp; done) | (go_simp; rfl))); (try simp only [Act.put, List.setIfInBounds_toArray, List.set_cons_zero, List.set_cons_succ])
              refine tree_nil ?_
  case' nb1_22 =>
    refine tree_b rfl rfl ?b1_44 ?nb1_44
    case' b1_44 =>   -- 4: makeSlice 23 t9 t9
      go_must (refine ev_makeSlice rfl rfl n rfl rfl Tryd.underlying23 info3b rfl (by decide) (by omega) (by omega) ?_; intro gh wh hgh hlh hbh hkh)
      (try simp only [Act.put, List.setIfInBounds_toArray, List.set_cons_zero, List.set_cons_succ])
      refine wpList_nil ⟨trivial, ?_⟩
      have zh := hkh.size
      have Hbh := Lib.hid hbh
      (try have Hbs := Lib.hid (hkh.blk Hbs.out id))
      (try have Hbk := Lib.hid (hkh.blk Hbk.out id))
      (try have Hbn := Lib.hid (hkh.blk Hbn.out id))
      have Hkc := Lib.hid (Hkc.out.trans hkh (fun _ _ h => h))
      clear hkh hbh
      refine tree_b rfl rfl ?b1_29 ?nb1_29
      case' b1_29 =>   -- 2: makeSlice 23 t7 t7
        go_must (refine ev_makeSlice rfl rfl n rfl rfl Tryd.underlying23 info3b rfl (by decide) (by omega) (by omega) ?_; intro gs ws hgs hls hbs hks)
        (try simp only [Act.put, List.setIfInBounds_toArray, List.set_cons_zero, List.set_cons_succ])
        refine wpList_nil ⟨trivial, ?_⟩
        have zs := hks.size
        have Hbs := Lib.hid hbs
        (try have Hbh := Lib.hid (hks.blk Hbh.out id))
        (try have Hbk := Lib.hid (hks.blk Hbk.out id))
        (try have Hbn := Lib.hid (hks.blk Hbn.out id))
        have Hkc := Lib.hid (Hkc.out.trans hks (fun _ _ h => h))
        clear hks hbs
        refine tree_b rfl rfl ?b1_25 ?nb1_25
        case' b1_25 =>   -- 6: makeSlice 98 t11 t11
          go_must (refine ev_makeSlice rfl rfl n rfl rfl under98 info113b rfl (by decide) (by omega) (by omega) ?_; intro gk wk hgk hlk hbk hkk)
          (try simp only [Act.put, List.setIfInBounds_toArray, List.set_cons_zero, List.set_cons_succ])
          refine wpList_nil ⟨trivial, ?_⟩
          have zk := hkk.size
          have Hbk := Lib.hid hbk
          (try have Hbs := Lib.hid (hkk.blk Hbs.out id))
          (try have Hbh := Lib.hid (hkk.blk Hbh.out id))
          (try have Hbn := Lib.hid (hkk.blk Hbn.out id))
          have Hkc := Lib.hid (Hkc.out.trans hkk (fun _ _ h => h))
          clear hkk hbk
          refine tree_e rfl rfl ?_   -- 8: makeSlice 76 t13 t13
          go_must (refine ev_makeSlice rfl rfl n rfl rfl Tryd.underlying76 info4b rfl (by decide) (by omega) (by omega) ?_; intro gn wn hgn hln hbn hkn)
          (try simp only [Act.put, List.setIfInBounds_toArray, List.set_cons_zero, List.set_cons_succ])
          refine wpList_nil ⟨trivial, ?_⟩
          have zn := hkn.size
          have Hbn := Lib.hid hbn
          (try have Hbs := Lib.hid (hkn.blk Hbs.out id))
          (try have Hbh := Lib.hid (hkn.blk Hbh.out id))
          (try have Hbk := Lib.hid (hkn.blk Hbk.out id))
          have Hkc := Lib.hid (Hkc.out.trans hkn (fun _ _ h => h))
          clear hkn hbn
          refine tree_q (v := ?v1_24) (some 15) rfl rfl rfl ?q1_24 ?h1_24; (case q1_24 => (intro w' hS; skip; first | (go_simp; done) | (go_simp; rfl))); (try simp only [Act.put, List.setIfInBounds_toArray, List.set_cons_zero, List.set_cons_succ])
          refine tree_e rfl rfl ?_   -- 10: box 100 t15
          go_must (refine ev_box (cs := #[.slice rA n rc, .slice (some ⟨gs, 0, none⟩) n n, .slice (some ⟨gh, 0, none⟩) n n, .slice (some ⟨gk, 0, none⟩) n n, .int .i64 0, .slice (some ⟨gn, 0, none⟩) n n, .slice none 0 0, .int .i64 0]) rfl rfl rfl ?_; intro gp wp hgp hlp hbp hkp)
          (try simp only [Act.put, List.setIfInBounds_toArray, List.set_cons_zero, List.set_cons_succ])
          refine wpList_nil ⟨trivial, ?_⟩
          have Hbp := Lib.hid hbp
          have Hlo := Lib.hid (show (w.heap.size ≤ gp ∧ w.heap.size ≤ gs ∧ w.heap.size ≤ gh) ∧ w.heap.size ≤ gk ∧ w.heap.size ≤ gn from by have zd : w.drew.heap.size = w.heap.size := rfl; omega)
          have Hne := Lib.hid (show gs ≠ gh by omega)
          have Hkc := Lib.hid (Hkc.out.trans hkp (fun _ _ h => h))
          have Hbs := Lib.hid (hkp.blk Hbs.out id)
          have Hbh := Lib.hid (hkp.blk Hbh.out id)
          have Hbk := Lib.hid (hkp.blk Hbk.out id)
          have Hbn := Lib.hid (hkp.blk Hbn.out id)
          clear hkp hbp
          refine tree_q (v := ?v1_23) (some 2) rfl rfl rfl ?q1_23 ?h1_23; (case q1_23 => (intro w' hS; skip; first | (go_simp; done) | (go_simp; rfl))); (try simp only [Act.put, List.setIfInBounds_toArray, List.set_cons_zero, List.set_cons_succ])
          refine tree_nil ?_
        case' nb1_25 =>
          refine tree_e rfl rfl ?b1_28
          case' b1_28 =>   -- 8: makeSlice 76 t13 t13
            go_must (refine ev_makeSlice rfl rfl n rfl rfl Tryd.underlying76 info4b rfl (by decide) (by omega) (by omega) ?_; intro gn wn hgn hln hbn hkn)
            (try simp only [Act.put, List.setIfInBounds_toArray, List.set_cons_zero, List.set_cons_succ])
            refine wpList_nil ⟨trivial, ?_⟩
            have zn := hkn.size
            have Hbn := Lib.hid hbn
            (try have Hbs := Lib.hid (hkn.blk Hbs.out id))
            (try have Hbh := Lib.hid (hkn.blk Hbh.out id))
            (try have Hbk := Lib.hid (hkn.blk Hbk.out id))
            have Hkc := Lib.hid (Hkc.out.trans hkn (fun _ _ h => h))
            clear hkn hbn
            refine tree_e rfl rfl ?_   -- 6: makeSlice 98 t11 t11
            go_must (refine ev_makeSlice rfl rfl n rfl rfl under98 info113b rfl (by decide) (by omega) (by omega) ?_; intro gk wk hgk hlk hbk hkk)
            (try simp only [Act.put, List.setIfInBounds_toArray, List.set_cons_zero, List.set_cons_succ])
            refine wpList_nil ⟨trivial, ?_⟩
            have zk := hkk.size
            have Hbk := Lib.hid hbk
            (try have Hbs := Lib.hid (hkk.blk Hbs.out id))
            (try have Hbh := Lib.hid (hkk.blk Hbh.out id))
            (try have Hbn := Lib.hid (hkk.blk Hbn.out id))
            have Hkc := Lib.hid (Hkc.out.trans hkk (fun _ _ h => h))
            clear hkk hbk
            refine tree_q (v := ?v1_27) (some 15) rfl rfl rfl ?q1_27 ?h1_27; (case q1_27 => (intro w' hS; skip; first | (go_simp; done) | (go_simp; rfl))); (try simp only [Act.put, List.setIfInBounds_toArray, List.set_cons_zero, List.set_cons_succ])
            refine tree_e rfl rfl ?_   -- 10: box 100 t15
            go_must (refine ev_box (cs := #[.slice rA n rc, .slice (some ⟨gs, 0, none⟩) n n, .slice (some ⟨gh, 0, none⟩) n n, .slice (some ⟨gk, 0, none⟩) n n, .int .i64 0, .slice (some ⟨gn, 0, none⟩) n n, .slice none 0 0, .int .i64 0]) rfl rfl rfl ?_; intro gp wp hgp hlp hbp hkp)
            (try simp only [Act.put, List.setIfInBounds_toArray, List.set_cons_zero, List.set_cons_succ])
            refine wpList_nil ⟨trivial, ?_⟩
            have Hbp := Lib.hid hbp
            have Hlo := Lib.hid (show (w.heap.size ≤ gp ∧ w.heap.size ≤ gs ∧ w.heap.size ≤ gh) ∧ w.heap.size ≤ gk ∧ w.heap.size ≤ gn from by have zd : w.drew.heap.size = w.heap.size := rfl; omega)
            have Hne := Lib.hid (show gs ≠ gh by omega)
            have Hkc := Lib.hid (Hkc.out.trans hkp (fun _ _ h => h))
            have Hbs := Lib.hid (hkp.blk Hbs.out id)
            have Hbh := Lib.hid (hkp.blk Hbh.out id)
            have Hbk := Lib.hid (hkp.blk Hbk.out id)
            have Hbn := Lib.hid (hkp.blk Hbn.out id)
            clear hkp hbp
            refine tree_q (v := ?v1_26) (some 2) rfl rfl rfl ?q1_26 ?h1_26; (case q1_26 => (intro w' hS; skip; first | (go_simp; done) | (go_simp; rfl))); (try simp only [Act.put, List.setIfInBounds_toArray, List.set_cons_zero, List.set_cons_succ])
            refine tree_nil ?_
      case' nb1_29 =>
        refine tree_b rfl rfl ?b1_36 ?nb1_36
        case' b1_36 =>   -- 6: makeSlice 98 t11 t11
          go_must (refine ev_makeSlice rfl rfl n rfl rfl under98 info113b rfl (by decide) (by omega) (by omega) ?_; intro gk wk hgk hlk hbk hkk)
          (try simp only [Act.put, List.setIfInBounds_toArray, List.set_cons_zero, List.set_cons_succ])
          refine wpList_nil ⟨trivial, ?_⟩
          have zk := hkk.size
          have Hbk := Lib.hid hbk
          (try have Hbs := Lib.hid (hkk.blk Hbs.out id))
          (try have Hbh := Lib.hid (hkk.blk Hbh.out id))
          (try have Hbn := Lib.hid (hkk.blk Hbn.out id))
          have Hkc := Lib.hid (Hkc.out.trans hkk (fun _ _ h => h))
          clear hkk hbk
          refine tree_b rfl rfl ?b1_32 ?nb1_32
          case' b1_32 =>   -- 2: makeSlice 23 t7 t7
            go_must (refine ev_makeSlice rfl rfl n rfl rfl Tryd.underlying23 info3b rfl (by decide) (by omega) (by omega) ?_; intro gs ws hgs hls hbs hks)
            (try simp only [Act.put, List.setIfInBounds_toArray, List.set_cons_zero, List.set_cons_succ])
            refine wpList_nil ⟨trivial, ?_⟩
            have zs := hks.size
            have Hbs := Lib.hid hbs
            (try have Hbh := Lib.hid (hks.blk Hbh.out id))
            (try have Hbk := Lib.hid (hks.blk Hbk.out id))
            (try have Hbn := Lib.hid (hks.blk Hbn.out id))
            have Hkc := Lib.hid (Hkc.out.trans hks (fun _ _ h => h))
            clear hks hbs
            refine tree_e rfl rfl ?_   -- 8: makeSlice 76 t13 t13
            go_must (refine ev_makeSlice rfl rfl n rfl rfl Tryd.underlying76 info4b rfl (by decide) (by omega) (by omega) ?_; intro gn wn hgn hln hbn hkn)
            (try simp only [Act.put, List.setIfInBounds_toArray, List.set_cons_zero, List.set_cons_succ])
            refine wpList_nil ⟨trivial, ?_⟩
            have zn := hkn.size
            have Hbn := Lib.hid hbn
            (try have Hbs := Lib.hid (hkn.blk Hbs.out id))
            (try have Hbh := Lib.hid (hkn.blk Hbh.out id))
            (try have Hbk := Lib.hid (hkn.blk Hbk.out id))
            have Hkc := Lib.hid (Hkc.out.trans hkn (fun _ _ h => h))
            clear hkn hbn
            refine tree_q (v := ?v1_31) (some 15) rfl rfl rfl ?q1_31 ?h1_31; (case q1_31 => (intro w' hS; skip; first | (go_simp; done) | (go_simp; rfl))); (try simp only [Act.put, List.setIfInBounds_toArray, List.set_cons_zero, List.set_cons_succ])
            refine tree_e rfl rfl ?_   -- 10: box 100 t15
            go_must (refine ev_box (cs := #[.slice rA n rc, .slice (some ⟨gs, 0, none⟩) n n, .slice (some ⟨gh, 0, none⟩) n n, .slice (some ⟨gk, 0, none⟩) n n, .int .i64 0, .slice (some ⟨gn, 0, none⟩) n n, .slice none 0 0, .int .i64 0]) rfl rfl rfl ?_; intro gp wp hgp hlp hbp hkp)
            (try simp only [Act.put, List.setIfInBounds_toArray, List.set_cons_zero, List.set_cons_succ])
            refine wpList_nil ⟨trivial, ?_⟩
            have Hbp := Lib.hid hbp
            have Hlo := Lib.hid (show (w.heap.size ≤ gp ∧ w.heap.size ≤ gs ∧ w.heap.size ≤ gh) ∧ w.heap.size ≤ gk ∧ w.heap.size ≤ gn from by have zd : w.drew.heap.size = w.heap.size := rfl; omega)
            have Hne := Lib.hid (show gs ≠ gh by omega)
            have Hkc := Lib.hid (Hkc.out.trans hkp (fun _ _ h => h))
            have Hbs := Lib.hid (hkp.blk Hbs.out id)
            have Hbh := Lib.hid (hkp.blk Hbh.out id)
            have Hbk := Lib.hid (hkp.blk Hbk.out id)
            have Hbn := Lib.hid (hkp.blk Hbn.out id)
            clear hkp hbp
            refine tree_q (v := ?v1_30) (some 2) rfl rfl rfl ?q1_30 ?h1_30; (case q1_30 => (intro w' hS; skip; first | (go_simp; done) | (go_simp; rfl))); (try simp only [Act.put, List.setIfInBounds_toArray, List.set_cons_zero, List.set_cons_succ])
            refine tree_nil ?_
          case' nb1_32 =>
            refine tree_e rfl rfl ?b1_35
            case' b1_35 =>   -- 8: makeSlice 76 t13 t13
              go_must (refine ev_makeSlice rfl rfl n rfl rfl Tryd.underlying76 info4b rfl (by decide) (by omega) (by omega) ?_; intro gn wn hgn hln hbn hkn)
              (try simp only [Act.put, List.setIfInBounds_toArray, List.set_cons_zero, List.set_cons_succ])
              refine wpList_nil ⟨trivial, ?_⟩
              have zn := hkn.size
              have Hbn := Lib.hid hbn
              (try have Hbs := Lib.hid (hkn.blk Hbs.out id))
              (try have Hbh := Lib.hid (hkn.blk Hbh.out id))
              (try have Hbk := Lib.hid (hkn.blk Hbk.out id))
              have Hkc := Lib.hid (Hkc.out.trans hkn (fun _ _ h => h))
              clear hkn hbn
              refine tree_e rfl rfl ?_   -- 2: makeSlice 23 t7 t7
              go_must (refine ev_makeSlice rfl rfl n rfl rfl Tryd.underlying23 info3b rfl (by decide) (by omega) (by omega) ?_; intro gs ws hgs hls hbs hks)
              (try simp only [Act.put, List.setIfInBounds_toArray, List.set_cons_zero, List.set_cons_succ])
              refine wpList_nil ⟨trivial, ?_⟩
              have zs := hks.size
              have Hbs := Lib.hid hbs
              (try have Hbh := Lib.hid (hks.blk Hbh.out id))
              (try have Hbk := Lib.hid (hks.blk Hbk.out id))
              (try have Hbn := Lib.hid (hks.blk Hbn.out id))
              have Hkc := Lib.hid (Hkc.out.trans hks (fun _ _ h => h))
              clear hks hbs
              refine tree_q (v := ?v1_34) (some 15) rfl rfl rfl ?q1_34 ?h1_34; (case q1_34 => (intro w' hS; skip; first | (go_simp; done) | (go_simp; rfl))); (try simp only [Act.put, List.setIfInBounds_toArray, List.set_cons_zero, List.set_cons_succ])
              refine tree_e rfl rfl ?_   -- 10: box 100 t15
              go_must (refine ev_box (cs := #[.slice rA n rc, .slice (some ⟨gs, 0, none⟩) n n, .slice (some ⟨gh, 0, none⟩) n n, .slice (some ⟨gk, 0, none⟩) n n, .int .i64 0, .slice (some ⟨gn, 0, none⟩) n n, .slice none 0 0, .int .i64 0]) rfl rfl rfl ?_; intro gp wp hgp hlp hbp hkp)
              (try simp only [Act.put, List.setIfInBounds_toArray, List.set_cons_zero, List.set_cons_succ])
              refine wpList_nil ⟨trivial, ?_⟩
              have Hbp := Lib.hid hbp
              have Hlo := Lib.hid (show (w.heap.size ≤ gp ∧ w.heap.size ≤ gs ∧ w.heap.size ≤ gh) ∧ w.heap.size ≤ gk ∧ w.heap.size ≤ gn from by have zd : w.drew.heap.size = w.heap.size := rfl; omega)
              have Hne := Lib.hid (show gs ≠ gh by omega)
              have Hkc := Lib.hid (Hkc.out.trans hkp (fun _ _ h => h))
              have Hbs := Lib.hid (hkp.blk Hbs.out id)
              have Hbh := Lib.hid (hkp.blk Hbh.out id)
              have Hbk := Lib.hid (hkp.blk Hbk.out id)
              have Hbn := Lib.hid (hkp.blk Hbn.out id)
              clear hkp hbp
              refine tree_q (v := ?v1_33) (some 2) rfl rfl rfl ?q1_33 ?h1_33; (case q1_33 => (intro w' hS; skip; first | (go_simp; done) | (go_simp; rfl))); (try simp only [Act.put, List.setIfInBounds_toArray, List.set_cons_zero, List.set_cons_succ])
              refine tree_nil ?_
        case' nb1_36 =>
          refine tree_e rfl rfl ?b1_43
          case' b1_43 =>   -- 8: makeSlice 76 t13 t13
            go_must (refine ev_makeSlice rfl rfl n rfl rfl Tryd.underlying76 info4b rfl (by decide) (by omega) (by omega) ?_; intro gn wn hgn hln hbn hkn)
            (try simp only [Act.put, List.setIfInBounds_toArray, List.set_cons_zero, List.set_cons_succ])
            refine wpList_nil ⟨trivial, ?_⟩
            have zn := hkn.size
            have Hbn := Lib.hid hbn
            (try have Hbs := Lib.hid (hkn.blk Hbs.out id))
            (try have Hbh := Lib.hid (hkn.blk Hbh.out id))
            (try have Hbk := Lib.hid (hkn.blk Hbk.out id))
            have Hkc := Lib.hid (Hkc.out.trans hkn (fun _ _ h => h))
            clear hkn hbn
            refine tree_b rfl rfl ?b1_39 ?nb1_39
            case' b1_39 =>   -- 2: makeSlice 23 t7 t7
              go_must (refine ev_makeSlice rfl rfl n rfl rfl Tryd.underlying23 info3b rfl (by decide) (by omega) (by omega) ?_; intro gs ws hgs hls hbs hks)
              (try simp only [Act.put, List.setIfInBounds_toArray, List.set_cons_zero, List.set_cons_succ])
              refine wpList_nil ⟨trivial, ?_⟩
              have zs := hks.size
              have Hbs := Lib.hid hbs
              (try have Hbh := Lib.hid (hks.blk Hbh.out id))
              (try have Hbk := Lib.hid (hks.blk Hbk.out id))
              (try have Hbn := Lib.hid (hks.blk Hbn.out id))
              have Hkc := Lib.hid (Hkc.out.trans hks (fun _ _ h => h))
              clear hks hbs
              refine tree_e rfl rfl ?_   -- 6: makeSlice 98 t11 t11
              go_must (refine ev_makeSlice rfl rfl n rfl rfl under98 info113b rfl (by decide) (by omega) (by omega) ?_; intro gk wk hgk hlk hbk hkk)
              (try simp only [Act.put, List.setIfInBounds_toArray, List.set_cons_zero, List.set_cons_succ])
              refine wpList_nil ⟨trivial, ?_⟩
              have zk := hkk.size
              have Hbk := Lib.hid hbk
              (try have Hbs := Lib.hid (hkk.blk Hbs.out id))
              (try have Hbh := Lib.hid (hkk.blk Hbh.out id))
              (try have Hbn := Lib.hid (hkk.blk Hbn.out id))
              have Hkc := Lib.hid (Hkc.out.trans hkk (fun _ _ h => h))
              clear hkk hbk
              refine tree_q (v := ?v1_38) (some 15) rfl rfl rfl ?q1_38 ?h1_38; (case q1_38 => (intro w' hS; skip; first | (go_simp; done) | (go_simp; rfl))); (try simp only [Act.put, List.setIfInBounds_toArray, List.set_cons_zero, List.set_cons_succ])
              refine tree_e rfl rfl ?_   -- 10: box 100 t15
              go_must (refine ev_box (cs := #[.slice rA n rc, .slice (some ⟨gs, 0, none⟩) n n, .slice (some ⟨gh, 0, none⟩) n n, .slice (some ⟨gk, 0, none⟩) n n, .int .i64 0, .slice (some ⟨gn, 0, none⟩) n n, .slice none 0 0, .int .i64 0]) rfl rfl rfl ?_; intro gp wp hgp hlp hbp hkp)
              (try simp only [Act.put, List.setIfInBounds_toArray, List.set_cons_zero, List.set_cons_succ])
              refine wpList_nil ⟨trivial, ?_⟩
              have Hbp := Lib.hid hbp
              have Hlo := Lib.hid (show (w.heap.size ≤ gp ∧ w.heap.size ≤ gs ∧ w.heap.size ≤ gh) ∧ w.heap.size ≤ gk ∧ w.heap.size ≤ gn from by have zd : w.drew.heap.size = w.heap.size := rfl; omega)
              have Hne := Lib.hid (show gs ≠ gh by omega)
              have Hkc := Lib.hid (Hkc.out.trans hkp (fun _ _ h => h))
              have Hbs := Lib.hid (hkp.blk Hbs.out id)
              have Hbh := Lib.hid (hkp.blk Hbh.out id)
              have Hbk := Lib.hid (hkp.blk Hbk.out id)
              have Hbn := Lib.hid (hkp.blk Hbn.out id)
              clear hkp hbp
              refine tree_q (v := ?v1_37) (some 2) rfl rfl rfl ?q1_37 ?h1_37; (case q1_37 => (intro w' hS; skip; first | (go_simp; done) | (go_simp; rfl))); (try simp only [Act.put, List.setIfInBounds_toArray, List.set_cons_zero, List.set_cons_succ])
              refine tree_nil ?_
            case' nb1_39 =>
              refine tree_e rfl rfl ?b1_42
              case' b1_42 =>   -- 6: makeSlice 98 t11 t11
                go_must (refine ev_makeSlice rfl rfl n rfl rfl under98 info113b rfl (by decide) (by omega) (by omega) ?_; intro gk wk hgk hlk hbk hkk)
                (try simp only [Act.put, List.setIfInBounds_toArray, List.set_cons_zero, List.set_cons_succ])
                refine wpList_nil ⟨trivial, ?_⟩
                have zk := hkk.size
                have Hbk := Lib.hid hbk
                (try have Hbs := Lib.hid (hkk.blk Hbs.out id))
                (try have Hbh := Lib.hid (hkk.blk Hbh.out id))
                (try have Hbn := Lib.hid (hkk.blk Hbn.out id))
                have Hkc := Lib.hid (Hkc.out.trans hkk (fun _ _ h => h))
                clear hkk hbk
                refine tree_e rfl rfl ?_   -- 2: makeSlice 23 t7 t7
                go_must (refine ev_makeSlice rfl rfl n rfl rfl Tryd.underlying23 info3b rfl (by decide) (by omega) (by omega) ?_; intro gs ws hgs hls hbs hks)
                (try simp only [Act.put, List.setIfInBounds_toArray, List.set_cons_zero, List.set_cons_succ])
                refine wpList_nil ⟨trivial, ?_⟩
                have zs := hks.size
                have Hbs := Lib.hid hbs
                (try have Hbh := Lib.hid (hks.blk Hbh.out id))
                (try have Hbk := Lib.hid (hks.blk Hbk.out id))
                (try have Hbn := Lib.hid (hks.blk Hbn.out id))
                have Hkc := Lib.hid (Hkc.out.trans hks (fun _ _ h => h))
                clear hks hbs
                refine tree_q (v := ?v1_41) (some 15) rfl rfl rfl ?q1_41 ?h1_41; (case q1_41 => (intro w' hS; skip; first | (go_simp; done) | (go_simp; rfl))); (try simp only [Act.put, List.setIfInBounds_toArray, List.set_cons_zero, List.set_cons_succ])
                refine tree_e rfl rfl ?_   -- 10: box 100 t15
                go_must (refine ev_box (cs := #[.slice rA n rc, .slice (some ⟨gs, 0, none⟩) n n, .slice (some ⟨gh, 0, none⟩) n n, .slice (some ⟨gk, 0, none⟩) n n, .int .i64 0, .slice (some ⟨gn, 0, none⟩) n n, .slice none 0 0, .int .i64 0]) rfl rfl rfl ?_; intro gp wp hgp hlp hbp hkp)
                (try simp only [Act.put, List.setIfInBounds_toArray, List.set_cons_zero, List.set_cons_succ])
                refine wpList_nil ⟨trivial, ?_⟩
                have Hbp := Lib.hid hbp
                have Hlo := Lib.hid (show (w.heap.size ≤ gp ∧ w.heap.size ≤ gs ∧ w.heap.size ≤ gh) ∧ w.heap.size ≤ gk ∧ w.heap.size ≤ gn from by have zd : w.drew.heap.size = w.heap.size := rfl; omega)
                have Hne := Lib.hid (show gs ≠ gh by omega)
                have Hkc := Lib.hid (Hkc.out.trans hkp (fun _ _ h => h))
                have Hbs := Lib.hid (hkp.blk Hbs.out id)
                have Hbh := Lib.hid (hkp.blk Hbh.out id)
                have Hbk := Lib.hid (hkp.blk Hbk.out id)
                have Hbn := Lib.hid (hkp.blk Hbn.out id)
                clear hkp hbp
                refine tree_q (v := ?v1_40) (some 2) rfl rfl rfl ?q1_40 ?h1_40; (case q1_40 => (intro w' hS; skip; first | (go_simp; done) | (go_simp; rfl))); (try simp only [Act.put, List.setIfInBounds_toArray, List.set_cons_zero, List.set_cons_succ])
                refine tree_nil ?_
    case' nb1_44 =>
      refine tree_b rfl rfl ?b1_66 ?nb1_66
      case' b1_66 =>   -- 6: makeSlice 98 t11 t11
        go_must (refine ev_makeSlice rfl rfl n rfl rfl under98 info113b rfl (by decide) (by omega) (by omega) ?_; intro gk wk hgk hlk hbk hkk)
        (try simp only [Act.put, List.setIfInBounds_toArray, List.set_cons_zero, List.set_cons_succ])
        refine wpList_nil ⟨trivial, ?_⟩
        have zk := hkk.size
        have Hbk := Lib.hid hbk
        (try have Hbs := Lib.hid (hkk.blk Hbs.out id))
        (try have Hbh := Lib.hid (hkk.blk Hbh.out id))
        (try have Hbn := Lib.hid (hkk.blk Hbn.out id))
        have Hkc := Lib.hid (Hkc.out.trans hkk (fun _ _ h => h))
        clear hkk hbk
        refine tree_b rfl rfl ?b1_51 ?nb1_51
        case' b1_51 =>   -- 2: makeSlice 23 t7 t7
          go_must (refine ev_makeSlice rfl rfl n rfl rfl Tryd.underlying23 info3b rfl (by decide) (by omega) (by omega) ?_; intro gs ws hgs hls hbs hks)
          (try simp only [Act.put, List.setIfInBounds_toArray, List.set_cons_zero, List.set_cons_succ])
          refine wpList_nil ⟨trivial, ?_⟩
          have zs := hks.size
          have Hbs := Lib.hid hbs
          (try have Hbh := Lib.hid (hks.blk Hbh.out id))
          (try have Hbk := Lib.hid (hks.blk Hbk.out id))
          (try have Hbn := Lib.hid (hks.blk Hbn.out id))
          have Hkc := Lib.hid (Hkc.out.trans hks (fun _ _ h => h))
          clear hks hbs
          refine tree_b rfl rfl ?b1_47 ?nb1_47
          case' b1_47 =>   -- 4: makeSlice 23 t9 t9
            go_must (refine ev_makeSlice rfl rfl n rfl rfl Tryd.underlying23 info3b rfl (by decide) (by omega) (by omega) ?_; intro gh wh hgh hlh hbh hkh)
            (try simp only [Act.put, List.setIfInBounds_toArray, List.set_cons_zero, List.set_cons_succ])
            refine wpList_nil ⟨trivial, ?_⟩
            have zh := hkh.size
            have Hbh := Lib.hid hbh
            (try have Hbs := Lib.hid (hkh.blk Hbs.out id))
            (try have Hbk := Lib.hid (hkh.blk Hbk.out id))
            (try have Hbn := Lib.hid (hkh.blk Hbn.out id))
            have Hkc := Lib.hid (Hkc.out.trans hkh (fun _ _ h => h))
            clear hkh hbh
            refine tree_e rfl rfl ?_   -- 8: makeSlice 76 t13 t13
            go_must (refine ev_makeSlice rfl rfl n rfl rfl Tryd.underlying76 info4b rfl (by decide) (by omega) (by omega) ?_; intro gn wn hgn hln hbn hkn)
            (try simp only [Act.put, List.setIfInBounds_toArray, List.set_cons_zero, List.set_cons_succ])
            refine wpList_nil ⟨trivial, ?_⟩
            have zn := hkn.size
            have Hbn := Lib.hid hbn
            (try have Hbs := Lib.hid (hkn.blk Hbs.out id))
            (try have Hbh := Lib.hid (hkn.blk Hbh.out id))
            (try have Hbk := Lib.hid (hkn.blk Hbk.out id))
            have Hkc := Lib.hid (Hkc.out.trans hkn (fun _ _ h => h))
            clear hkn hbn
            refine tree_q (v := ?v1_46) (some 15) rfl rfl rfl ?q1_46 ?h1_46; (case q1_46 => (intro w' hS; skip; first | (go_simp; done) | (go_simp; rfl))); (try simp only [Act.put, List.setIfInBounds_toArray, List.set_cons_zero, List.set_cons_succ])
            refine tree_e rfl rfl ?_   -- 10: box 100 t15
            go_must (refine ev_box (cs := #[.slice rA n rc, .slice (some ⟨gs, 0, none⟩) n n, .slice (some ⟨gh, 0, none⟩) n n, .slice (some ⟨gk, 0, none⟩) n n, .int .i64 0, .slice (some ⟨gn, 0, none⟩) n n, .slice none 0 0, .int .i64 0]) rfl rfl rfl ?_; intro gp wp hgp hlp hbp hkp)
            (try simp only [Act.put, List.setIfInBounds_toArray, List.set_cons_zero, List.set_cons_succ])
            refine wpList_nil ⟨trivial, ?_⟩
            have Hbp := Lib.hid hbp
            have Hlo := Lib.hid (show (w.heap.size ≤ gp ∧ w.heap.size ≤ gs ∧ w.heap.size ≤ gh) ∧ w.heap.size ≤ gk ∧ w.heap.size ≤ gn from by have zd : w.drew.heap.size = w.heap.size := rfl; omega)
            have Hne := Lib.hid (show gs ≠ gh by omega)
            have Hkc := Lib.hid (Hkc.out.trans hkp (fun _ _ h => h))
            have Hbs := Lib.hid (hkp.blk Hbs.out id)
            have Hbh := Lib.hid (hkp.blk Hbh.out id)
            have Hbk := Lib.hid (hkp.blk Hbk.out id)
            have Hbn := Lib.hid (hkp.blk Hbn.out id)
            clear hkp hbp
            refine tree_q (v := ?v1_45) (some 2) rfl rfl rfl ?q1_45 ?h1_45; (case q1_45 => (intro w' hS; skip; first | (go_simp; done) | (go_simp; rfl))); (try simp only [Act.put, List.setIfInBounds_toArray, List.set_cons_zero, List.set_cons_succ])
            refine tree_nil ?_
          case' nb1_47 =>
            refine tree_e rfl rfl ?b1_50
            case' b1_50 =>   -- 8: makeSlice 76 t13 t13
              go_must (refine ev_makeSlice rfl rfl n rfl rfl Tryd.underlying76 info4b rfl (by decide) (by omega) (by omega) ?_; intro gn wn hgn hln hbn hkn)
              (try simp only [Act.put, List.setIfInBounds_toArray, List.set_cons_zero, List.set_cons_succ])
              refine wpList_nil ⟨trivial, ?_⟩
              have zn := hkn.size
              have Hbn := Lib.hid hbn
              (try have Hbs := Lib.hid (hkn.blk Hbs.out id))
              (try have Hbh := Lib.hid (hkn.blk Hbh.out id))
              (try have Hbk := Lib.hid (hkn.blk Hbk.out id))
              have Hkc := Lib.hid (Hkc.out.trans hkn (fun _ _ h => h))
              clear hkn hbn
              refine tree_e rfl rfl ?_   -- 4: makeSlice 23 t9 t9
              go_must (refine ev_makeSlice rfl rfl n rfl rfl Tryd.underlying23 info3b rfl (by decide) (by omega) (by omega) ?_; intro gh wh hgh hlh hbh hkh)
              (try simp only [Act.put, List.setIfInBounds_toArray, List.set_cons_zero, List.set_cons_succ])
              refine wpList_nil ⟨trivial, ?_⟩
              have zh := hkh.size
              have Hbh := Lib.hid hbh
              (try have Hbs := Lib.hid (hkh.blk Hbs.out id))
              (try have Hbk := Lib.hid (hkh.blk Hbk.out id))
              (try have Hbn := Lib.hid (hkh.blk Hbn.out id))
              have Hkc := Lib.hid (Hkc.out.trans hkh (fun _ _ h => h))
              clear hkh hbh
              refine tree_q (v := ?v1_49) (some 15) rfl rfl rfl ?q1_49 ?h1_49; (case q1_49 => (intro w' hS; skip; first | (go_simp; done) | (go_simp; rfl))); (try simp only [Act.put, List.setIfInBounds_toArray, List.set_cons_zero, List.set_cons_succ])
              refine tree_e rfl rfl ?_   -- 10: box 100 t15
              go_must (refine ev_box (cs := #[.slice rA n rc, .slice (some ⟨gs, 0, none⟩) n n, .slice (some ⟨gh, 0, none⟩) n n, .slice (some ⟨gk, 0, none⟩) n n, .int .i64 0, .slice (some ⟨gn, 0, none⟩) n n, .slice none 0 0, .int .i64 0]) rfl rfl rfl ?_; intro gp wp hgp hlp hbp hkp)
              (try simp only [Act.put, List.setIfInBounds_toArray, List.set_cons_zero, List.set_cons_succ])
              refine wpList_nil ⟨trivial, ?_⟩
              have Hbp := Lib.hid hbp
              have Hlo := Lib.hid (show (w.heap.size ≤ gp ∧ w.heap.size ≤ gs ∧ w.heap.size ≤ gh) ∧ w.heap.size ≤ gk ∧ w.heap.size ≤ gn from by have zd : w.drew.heap.size = w.heap.size := rfl; omega)
              have Hne := Lib.hid (show gs ≠ gh by omega)
              have Hkc := Lib.hid (Hkc.out.trans hkp (fun _ _ h => h))
              have Hbs := Lib.hid (hkp.blk Hbs.out id)
              have Hbh := Lib.hid (hkp.blk Hbh.out id)
              have Hbk := Lib.hid (hkp.blk Hbk.out id)
              have Hbn := Lib.hid (hkp.blk Hbn.out id)
              clear hkp hbp
              refine tree_q (v := ?v1_48) (some 2) rfl rfl rfl ?q1_48 ?h1_48; (case q1_48 => (intro w' hS; skip; first | (go_simp; done) | (go_simp; rfl))); (try simp only [Act.put, List.setIfInBounds_toArray, List.set_cons_zero, List.set_cons_succ])
              refine tree_nil ?_
        case' nb1_51 =>
          refine tree_b rfl rfl ?b1_58 ?nb1_58
          case' b1_58 =>   -- 4: makeSlice 23 t9 t9
            go_must (refine ev_makeSlice rfl rfl n rfl rfl Tryd.underlying23 info3b rfl (by decide) (by omega) (by omega) ?_; intro gh wh hgh hlh hbh hkh)
            (try simp only [Act.put, List.setIfInBounds_toArray, List.set_cons_zero, List.set_cons_succ])
            refine wpList_nil ⟨trivial, ?_⟩
            have zh := hkh.size
            have Hbh := Lib.hid hbh
            (try have Hbs := Lib.hid (hkh.blk Hbs.out id))
            (try have Hbk := Lib.hid (hkh.blk Hbk.out id))
            (try have Hbn := Lib.hid (hkh.blk Hbn.out id))
            have Hkc := Lib.hid (Hkc.out.trans hkh (fun _ _ h => h))
            clear hkh hbh
            refine tree_b rfl rfl ?b1_54 ?nb1_54
            case' b1_54 =>   -- 2: makeSlice 23 t7 t7
              go_must (refine ev_makeSlice rfl rfl n rfl rfl Tryd.underlying23 info3b rfl (by decide) (by omega) (by omega) ?_; intro gs ws hgs hls hbs hks)
              (try simp only [Act.put, List.setIfInBounds_toArray, List.set_cons_zero, List.set_cons_succ])
              refine wpList_nil ⟨trivial, ?_⟩
              have zs := hks.size
              have Hbs := Lib.hid hbs
              (try have Hbh := Lib.hid (hks.blk Hbh.out id))
              (try have Hbk := Lib.hid (hks.blk Hbk.out id))
              (try have Hbn := Lib.hid (hks.blk Hbn.out id))
              have Hkc := Lib.hid (Hkc.out.trans hks (fun _ _ h => h))
              clear hks hbs
              refine tree_e rfl rfl ?_   -- 8: makeSlice 76 t13 t13
              go_must (refine ev_makeSlice rfl rfl n rfl rfl Tryd.underlying76 info4b rfl (by decide) (by omega) (by omega) ?_; intro gn wn hgn hln hbn hkn)
              (try simp only [Act.put, List.setIfInBounds_toArray, List.set_cons_zero, List.set_cons_succ])
              refine wpList_nil ⟨trivial, ?_⟩
              have zn := hkn.size
              have Hbn := Lib.hid hbn
              (try have Hbs := Lib.hid (hkn.blk Hbs.out id))
              (try have Hbh := Lib.hid (hkn.blk Hbh.out id))
              (try have Hbk := Lib.hid (hkn.blk Hbk.out id))
              have Hkc := Lib.hid (Hkc.out.trans hkn (fun _ _ h => h))
              clear hkn hbn
              refine tree_q (v := ?v1_53) (some 15) rfl rfl rfl ?q1_53 ?h1_53; (case q1_53 => (intro w' hS; skip; first | (go_simp; done) | (go_simp; rfl))); (try simp only [Act.put, List.setIfInBounds_toArray, List.set_cons_zero, List.set_cons_succ])
              refine tree_e rfl rfl ?_   -- 10: box 100 t15
              go_must (refine ev_box (cs := #[.slice rA n rc, .slice (some ⟨gs, 0, none⟩) n n, .slice (some ⟨gh, 0, none⟩) n n, .slice (some ⟨gk, 0, none⟩) n n, .int .i64 0, .slice (some ⟨gn, 0, none⟩) n n, .slice none 0 0, .int .i64 0]) rfl rfl rfl ?_; intro gp wp hgp hlp hbp hkp)
              (try simp only [Act.put, List.setIfInBounds_toArray, List.set_cons_zero, List.set_cons_succ])
              refine wpList_nil ⟨trivial, ?_⟩
              have Hbp := Lib.hid hbp
              have Hlo := Lib.hid (show (w.heap.size ≤ gp ∧ w.heap.size ≤ gs ∧ w.heap.size ≤ gh) ∧ w.heap.size ≤ gk ∧ w.heap.size ≤ gn from by have zd : w.drew.heap.size = w.heap.size := rfl; omega)
              have Hne := Lib.hid (show gs ≠ gh by omega)
              have Hkc := Lib.hid (Hkc.out.trans hkp (fun _ _ h => h))
              have Hbs := Lib.hid (hkp.blk Hbs.out id)
              have Hbh := Lib.hid (hkp.blk Hbh.out id)
              have Hbk := Lib.hid (hkp.blk Hbk.out id)
              have Hbn := Lib.hid (hkp.blk Hbn.out id)
              clear hkp hbp
              refine tree_q (v := ?v1_52) (some 2) rfl rfl rfl ?q1_52 ?h1_52; (case q1_52 => (intro w' hS; skip; first | (go_simp; done) | (go_simp; rfl))); (try simp only [Act.put, List.setIfInBounds_toArray, List.set_cons_zero, List.set_cons_succ])
              refine tree_nil ?_
            case' nb1_54 =>
              refine tree_e rfl rfl ?b1_57
              case' b1_57 =>   -- 8: makeSlice 76 t13 t13
                go_must (refine ev_makeSlice rfl rfl n rfl rfl Tryd.underlying76 info4b rfl (by decide) (by omega) (by omega) ?_; intro gn wn hgn hln hbn hkn)
                (try simp only [Act.put, List.setIfInBounds_toArray, List.set_cons_zero, List.set_cons_succ])
                refine wpList_nil ⟨trivial, ?_⟩
                have zn := hkn.size
                have Hbn := Lib.hid hbn
                (try have Hbs := Lib.hid (hkn.blk Hbs.out id))
                (try have Hbh := Lib.hid (hkn.blk Hbh.out id))
                (try have Hbk := Lib.hid (hkn.blk Hbk.out id))
                have Hkc := Lib.hid (Hkc.out.trans hkn (fun _ _ h => h))
                clear hkn hbn
                refine tree_e rfl rfl ?_   -- 2: makeSlice 23 t7 t7
                go_must (refine ev_makeSlice rfl rfl n rfl rfl Tryd.underlying23 info3b rfl (by decide) (by omega) (by omega) ?_; intro gs ws hgs hls hbs hks)
                (try simp only [Act.put, List.setIfInBounds_toArray, List.set_cons_zero, List.set_cons_succ])
                refine wpList_nil ⟨trivial, ?_⟩
                have zs := hks.size
                have Hbs := Lib.hid hbs
                (try have Hbh := Lib.hid (hks.blk Hbh.out id))
                (try have Hbk := Lib.hid (hks.blk Hbk.out id))
                (try have Hbn := Lib.hid (hks.blk Hbn.out id))
                have Hkc := Lib.hid (Hkc.out.trans hks (fun _ _ h => h))
                clear hks hbs
                refine tree_q (v := ?v1_56) (some 15) rfl rfl rfl ?q1_56 ?h1_56; (case q1_56 => (intro w' hS; skip; first | (go_simp; done) | (go_simp; rfl))); (try simp only [Act.put, List.setIfInBounds_toArray, List.set_cons_zero, List.set_cons_succ])
                refine tree_e rfl rfl ?_   -- 10: box 100 t15
                go_must (refine ev_box (cs := #[.slice rA n rc, .slice (some ⟨gs, 0, none⟩) n n, .slice (some ⟨gh, 0, none⟩) n n, .slice (some ⟨gk, 0, none⟩) n n, .int .i64 0, .slice (some ⟨gn, 0, none⟩) n n, .slice none 0 0, .int .i64 0]) rfl rfl rfl ?_; intro gp wp hgp hlp hbp hkp)
                (try simp only [Act.put, List.setIfInBounds_toArray, List.set_cons_zero, List.set_cons_succ])
                refine wpList_nil ⟨trivial, ?_⟩
                have Hbp := Lib.hid hbp
                have Hlo := Lib.hid (show (w.heap.size ≤ gp ∧ w.heap.size ≤ gs ∧ w.heap.size ≤ gh) ∧ w.heap.size ≤ gk ∧ w.heap.size ≤ gn from by have zd : w.drew.heap.size = w.heap.size := rfl; omega)
                have Hne := Lib.hid (show gs ≠ gh by omega)
                have Hkc := Lib.hid (Hkc.out.trans hkp (fun _ _ h => h))
                have Hbs := Lib.hid (hkp.blk Hbs.out id)
                have Hbh := Lib.hid (hkp.blk Hbh.out id)
                have Hbk := Lib.hid (hkp.blk Hbk.out id)
                have Hbn := Lib.hid (hkp.blk Hbn.out id)
                clear hkp hbp
                refine tree_q (v := ?v1_55) (some 2) rfl rfl rfl ?q1_55 ?h1_55; (case q1_55 => (intro w' hS; skip; first | (go_simp; done) | (go_simp; rfl))); (try simp only [Act.put, List.setIfInBounds_toArray, List.set_cons_zero, List.set_cons_succ])
                refine tree_nil ?_
          case' nb1_58 =>
            refine tree_e rfl rfl ?b1_65
            case' b1_65 =>   -- 8: makeSlice 76 t13 t13
              go_must (refine ev_makeSlice rfl rfl n rfl rfl Tryd.underlying76 info4b rfl (by decide) (by omega) (by omega) ?_; intro gn wn hgn hln hbn hkn)
              (try simp only [Act.put, List.setIfInBounds_toArray, List.set_cons_zero, List.set_cons_succ])
              refine wpList_nil ⟨trivial, ?_⟩
              have zn := hkn.size
              have Hbn := Lib.hid hbn
              (try have Hbs := Lib.hid (hkn.blk Hbs.out id))
              (try have Hbh := Lib.hid (hkn.blk Hbh.out id))
              (try have Hbk := Lib.hid (hkn.blk Hbk.out id))
              have Hkc := Lib.hid (Hkc.out.trans hkn (fun _ _ h => h))
              clear hkn hbn
              refine tree_b rfl rfl ?b1_61 ?nb1_61
              case' b1_61 =>   -- 2: makeSlice 23 t7 t7
                go_must (refine ev_makeSlice rfl rfl n rfl rfl Tryd.underlying23 info3b rfl (by decide) (by omega) (by omega) ?_; intro gs ws hgs hls hbs hks)
                (try simp only [Act.put, List.setIfInBounds_toArray, List.set_cons_zero, List.set_cons_succ])
                refine wpList_nil ⟨trivial, ?_⟩
                have zs := hks.size
                have Hbs := Lib.hid hbs
                (try have Hbh := Lib.hid (hks.blk Hbh.out id))
                (try have Hbk := Lib.hid (hks.blk Hbk.out id))
                (try have Hbn := Lib.hid (hks.blk Hbn.out id))
                have Hkc := Lib.hid (Hkc.out.trans hks (fun _ _ h => h))
                clear hks hbs
                refine tree_e rfl rfl ?_   -- 4: makeSlice 23 t9 t9
                go_must (refine ev_makeSlice rfl rfl n rfl rfl Tryd.underlying23 info3b rfl (by decide) (by omega) (by omega) ?_; intro gh wh hgh hlh hbh hkh)
                (try simp only [Act.put, List.setIfInBounds_toArray, List.set_cons_zero, List.set_cons_succ])
                refine wpList_nil ⟨trivial, ?_⟩
                have zh := hkh.size
                have Hbh := Lib.hid hbh
                (try have Hbs := Lib.hid (hkh.blk Hbs.out id))
                (try have Hbk := Lib.hid (hkh.blk Hbk.out id))
                (try have Hbn := Lib.hid (hkh.blk Hbn.out id))
                have Hkc := Lib.hid (Hkc.out.trans hkh (fun _ _ h => h))
                clear hkh hbh
                refine tree_q (v := ?v1_60) (some 15) rfl rfl rfl ?q1_60 ?h1_60; (case q1_60 => (intro w' hS; skip; first | (go_simp; done) | (go_simp; rfl))); (try simp only [Act.put, List.setIfInBounds_toArray, List.set_cons_zero, List.set_cons_succ])
                refine tree_e rfl rfl ?_   -- 10: box 100 t15
                go_must (refine ev_box (cs := #[.slice rA n rc, .slice (some ⟨gs, 0, none⟩) n n, .slice (some ⟨gh, 0, none⟩) n n, .slice (some ⟨gk, 0, none⟩) n n, .int .i64 0, .slice (some ⟨gn, 0, none⟩) n n, .slice none 0 0, .int .i64 0]) rfl rfl rfl ?_; intro gp wp hgp hlp hbp hkp)
                (try simp only [Act.put, List.setIfInBounds_toArray, List.set_cons_zero, List.set_cons_succ])
                refine wpList_nil ⟨trivial, ?_⟩
                have Hbp := Lib.hid hbp
                have Hlo := Lib.hid (show (w.heap.size ≤ gp ∧ w.heap.size ≤ gs ∧ w.heap.size ≤ gh) ∧ w.heap.size ≤ gk ∧ w.heap.size ≤ gn from by have zd : w.drew.heap.size = w.heap.size := rfl; omega)
                have Hne := Lib.hid (show gs ≠ gh by omega)
                have Hkc := Lib.hid (Hkc.out.trans hkp (fun _ _ h => h))
                have Hbs := Lib.hid (hkp.blk Hbs.out id)
                have Hbh := Lib.hid (hkp.blk Hbh.out id)
                have Hbk := Lib.hid (hkp.blk Hbk.out id)
                have Hbn := Lib.hid (hkp.blk Hbn.out id)
                clear hkp hbp
                refine tree_q (v := ?v1_59) (some 2) rfl rfl rfl ?q1_59 ?h1_59; (case q1_59 => (intro w' hS; skip; first | (go_simp; done) | (go_simp; rfl))); (try simp only [Act.put, List.setIfInBounds_toArray, List.set_cons_zero, List.set_cons_succ])
                refine tree_nil ?_
              case' nb1_61 =>
                refine tree_e rfl rfl ?b1_64
                case' b1_64 =>   -- 4: makeSlice 23 t9 t9
                  go_must (refine ev_makeSlice rfl rfl n rfl rfl Tryd.underlying23 info3b rfl (by decide) (by omega) (by omega) ?_; intro gh wh hgh hlh hbh hkh)
                  (try simp only [Act.put, List.setIfInBounds_toArray, List.set_cons_zero, List.set_cons_succ])
                  refine wpList_nil ⟨trivial, ?_⟩
                  have zh := hkh.size
                  have Hbh := Lib.hid hbh
                  (try have Hbs := Lib.hid (hkh.blk Hbs.out id))
                  (try have Hbk := Lib.hid (hkh.blk Hbk.out id))
                  (try have Hbn := Lib.hid (hkh.blk Hbn.out id))
                  have Hkc := Lib.hid (Hkc.out.trans hkh (fun _ _ h => h))
                  clear hkh hbh
                  refine tree_e rfl rfl ?_   -- 2: makeSlice 23 t7 t7
                  go_must (refine ev_makeSlice rfl rfl n rfl rfl Tryd.underlying23 info3b rfl (by decide) (by omega) (by omega) ?_; intro gs ws hgs hls hbs hks)
                  (try simp only [Act.put, List.setIfInBounds_toArray, List.set_cons_zero, List.set_cons_succ])
                  refine wpList_nil ⟨trivial, ?_⟩
                  have zs := hks.size
                  have Hbs := Lib.hid hbs
                  (try have Hbh := Lib.hid (hks.blk Hbh.out id))
                  (try have Hbk := Lib.hid (hks.blk Hbk.out id))
                  (try have Hbn := Lib.hid (hks.blk Hbn.out id))
                  have Hkc := Lib.hid (Hkc.out.trans hks (fun _ _ h => h))
                  clear hks hbs
                  refine tree_q (v := ?v1_63) (some 15) rfl rfl rfl ?q1_63 ?h1_63; (case q1_63 => (intro w' hS; skip; first | (go_simp; done) | (go_simp; rfl))); (try simp only [Act.put, List.setIfInBounds_toArray, List.set_cons_zero, List.set_cons_succ])
                  refine tree_e rfl rfl ?_   -- 10: box 100 t15
                  go_must (refine ev_box (cs := #[.slice rA n rc, .slice (some ⟨gs, 0, none⟩) n n, .slice (some ⟨gh, 0, none⟩) n n, .slice (some ⟨gk, 0, none⟩) n n, .int .i64 0, .slice (some ⟨gn, 0, none⟩) n n, .slice none 0 0, .int .i64 0]) rfl rfl rfl ?_; intro gp wp hgp hlp hbp hkp)
                  (try simp only [Act.put, List.setIfInBounds_toArray, List.set_cons_zero, List.set_cons_succ])
                  refine wpList_nil ⟨trivial, ?_⟩
                  have Hbp := Lib.hid hbp
                  have Hlo := Lib.hid (show (w.heap.size ≤ gp ∧ w.heap.size ≤ gs ∧ w.heap.size ≤ gh) ∧ w.heap.size ≤ gk ∧ w.heap.size ≤ gn from by have zd : w.drew.heap.size = w.heap.size := rfl; omega)
                  have Hne := Lib.hid (show gs ≠ gh by omega)
                  have Hkc := Lib.hid (Hkc.out.trans hkp (fun _ _ h => h))
                  have Hbs := Lib.hid (hkp.blk Hbs.out id)
                  have Hbh := Lib.hid (hkp.blk Hbh.out id)
                  have Hbk := Lib.hid (hkp.blk Hbk.out id)
                  have Hbn := Lib.hid (hkp.blk Hbn.out id)
                  clear hkp hbp
                  refine tree_q (v := ?v1_62) (some 2) rfl rfl rfl ?q1_62 ?h1_62; (case q1_62 => (intro w' hS; skip; first | (go_simp; done) | (go_simp; rfl))); (try simp only [Act.put, List.setIfInBounds_toArray, List.set_cons_zero, List.set_cons_succ])
                  refine tree_nil ?_
      case' nb1_66 =>
        refine tree_e rfl rfl ?b1_88
        case' b1_88 =>   -- 8: makeSlice 76 t13 t13
          go_must (refine ev_makeSlice rfl rfl n rfl rfl Tryd.underlying76 info4b rfl (by decide) (by omega) (by omega) ?_; intro gn wn hgn hln hbn hkn)
          (try simp only [Act.put, List.setIfInBounds_toArray, List.set_cons_zero, List.set_cons_succ])
          refine wpList_nil ⟨trivial, ?_⟩
          have zn := hkn.size
          have Hbn := Lib.hid hbn
          (try have Hbs := Lib.hid (hkn.blk Hbs.out id))
          (try have Hbh := Lib.hid (hkn.blk Hbh.out id))
          (try have Hbk := Lib.hid (hkn.blk Hbk.out id))
          have Hkc := Lib.hid (Hkc.out.trans hkn (fun _ _ h => h))
          clear hkn hbn
          refine tree_b rfl rfl ?b1_73 ?nb1_73
          case' b1_73 =>   -- 2: makeSlice 23 t7 t7
            go_must (refine ev_makeSlice rfl rfl n rfl rfl Tryd.underlying23 info3b rfl (by decide) (by omega) (by omega) ?_; intro gs ws hgs hls hbs hks)
            (try simp only [Act.put, List.setIfInBounds_toArray, List.set_cons_zero, List.set_cons_succ])
            refine wpList_nil ⟨trivial, ?_⟩
            have zs := hks.size
            have Hbs := Lib.hid hbs
            (try have Hbh := Lib.hid (hks.blk Hbh.out id))
            (try have Hbk := Lib.hid (hks.blk Hbk.out id))
            (try have Hbn := Lib.hid (hks.blk Hbn.out id))
            have Hkc := Lib.hid (Hkc.out.trans hks (fun _ _ h => h))
            clear hks hbs
            refine tree_b rfl rfl ?b1_69 ?nb1_69
            case' b1_69 =>   -- 4: makeSlice 23 t9 t9
              go_must (refine ev_makeSlice rfl rfl n rfl rfl Tryd.underlying23 info3b rfl (by decide) (by omega) (by omega) ?_; intro gh wh hgh hlh hbh hkh)
              (try simp only [Act.put, List.setIfInBounds_toArray, List.set_cons_zero, List.set_cons_succ])
              refine wpList_nil ⟨trivial, ?_⟩
              have zh := hkh.size
              have Hbh := Lib.hid hbh
              (try have Hbs := Lib.hid (hkh.blk Hbs.out id))
              (try have Hbk := Lib.hid (hkh.blk Hbk.out id))
              (try have Hbn := Lib.hid (hkh.blk Hbn.out id))
              have Hkc := Lib.hid (Hkc.out.trans hkh (fun _ _ h => h))
              clear hkh hbh
              refine tree_e rfl rfl ?_   -- 6: makeSlice 98 t11 t11
              go_must (refine ev_makeSlice rfl rfl n rfl rfl under98 info113b rfl (by decide) (by omega) (by omega) ?_; intro gk wk hgk hlk hbk hkk)
              (try simp only [Act.put, List.setIfInBounds_toArray, List.set_cons_zero, List.set_cons_succ])
              refine wpList_nil ⟨trivial, ?_⟩
              have zk := hkk.size
              have Hbk := Lib.hid hbk
              (try have Hbs := Lib.hid (hkk.blk Hbs.out id))
              (try have Hbh := Lib.hid (hkk.blk Hbh.out id))
              (try have Hbn := Lib.hid (hkk.blk Hbn.out id))
              have Hkc := Lib.hid (Hkc.out.trans hkk (fun _ _ h => h))
              clear hkk hbk
              refine tree_q (v := ?v1_68) (some 15) rfl rfl rfl ?q1_68 ?h1_68; (case q1_68 => (intro w' hS; skip; first | (go_simp; done) | (go_simp; rfl))); (try simp only [Act.put, List.setIfInBounds_toArray, List.set_cons_zero, List.set_cons_succ])
              refine tree_e rfl rfl ?_   -- 10: box 100 t15
              go_must (refine ev_box (cs := #[.slice rA n rc, .slice (some ⟨gs, 0, none⟩) n n, .slice (some ⟨gh, 0, none⟩) n n, .slice (some ⟨gk, 0, none⟩) n n, .int .i64 0, .slice (some ⟨gn, 0, none⟩) n n, .slice none 0 0, .int .i64 0]) rfl rfl rfl ?_; intro gp wp hgp hlp hbp hkp)
              (try simp only [Act.put, List.setIfInBounds_toArray, List.set_cons_zero, List.set_cons_succ])
              refine wpList_nil ⟨trivial, ?_⟩
              have Hbp := Lib.hid hbp
              have Hlo := Lib.hid (show (w.heap.size ≤ gp ∧ w.heap.size ≤ gs ∧ w.heap.size ≤ gh) ∧ w.heap.size ≤ gk ∧ w.heap.size ≤ gn from by have zd : w.drew.heap.size = w.heap.size := rfl; omega)
              have Hne := Lib.hid (show gs ≠ gh by omega)
              have Hkc := Lib.hid (Hkc.out.trans hkp (fun _ _ h => h))
              have Hbs := Lib.hid (hkp.blk Hbs.out id)
              have Hbh := Lib.hid (hkp.blk Hbh.out id)
              have Hbk := Lib.hid (hkp.blk Hbk.out id)
              have Hbn := Lib.hid (hkp.blk Hbn.out id)
              clear hkp hbp
              refine tree_q (v := ?v1_67) (some 2) rfl rfl rfl ?q1_67 ?h1_67; (case q1_67 => (intro w' hS; skip; first | (go_simp; done) | (go_simp; rfl))); (try simp only [Act.put, List.setIfInBounds_toArray, List.set_cons_zero, List.set_cons_succ])
              refine tree_nil ?_
            case' nb1_69 =>
              refine tree_e rfl rfl ?b1_72
              case' b1_72 =>   -- 6: makeSlice 98 t11 t11
                go_must (refine ev_makeSlice rfl rfl n rfl rfl under98 info113b rfl (by decide) (by omega) (by omega) ?_; intro gk wk hgk hlk hbk hkk)
                (try simp only [Act.put, List.setIfInBounds_toArray, List.set_cons_zero, List.set_cons_succ])
                refine wpList_nil ⟨trivial, ?_⟩
                have zk := hkk.size
                have Hbk := Lib.hid hbk
                (try have Hbs := Lib.hid (hkk.blk Hbs.out id))
                (try have Hbh := Lib.hid (hkk.blk Hbh.out id))
                (try have Hbn := Lib.hid (hkk.blk Hbn.out id))
                have Hkc := Lib.hid (Hkc.out.trans hkk (fun _ _ h => h))
                clear hkk hbk
                refine tree_e rfl rfl ?_   -- 4: makeSlice 23 t9 t9
                go_must (refine ev_makeSlice rfl rfl n rfl rfl Tryd.underlying23 info3b rfl (by decide) (by omega) (by omega) ?_; intro gh wh hgh hlh hbh hkh)
                (try simp only [Act.put, List.setIfInBounds_toArray, List.set_cons_zero, List.set_cons_succ])
                refine wpList_nil ⟨trivial, ?_⟩
                have zh := hkh.size
                have Hbh := Lib.hid hbh
                (try have Hbs := Lib.hid (hkh.blk Hbs.out id))
                (try have Hbk := Lib.hid (hkh.blk Hbk.out id))
                (try have Hbn := Lib.hid (hkh.blk Hbn.out id))
                have Hkc := Lib.hid (Hkc.out.trans hkh (fun _ _ h => h))
                clear hkh hbh
                refine tree_q (v := ?v1_71) (some 15) rfl rfl rfl ?q1_71 ?h1_71; (case q1_71 => (intro w' hS; skip; first | (go_simp; done) | (go_simp; rfl))); (try simp only [Act.put, List.setIfInBounds_toArray, List.set_cons_zero, List.set_cons_succ])
                refine tree_e rfl rfl ?_   -- 10: box 100 t15
                go_must (refine ev_box (cs := #[.slice rA n rc, .slice (some ⟨gs, 0, none⟩) n n, .slice (some ⟨gh, 0, none⟩) n n, .slice (some ⟨gk, 0, none⟩) n n, .int .i64 0, .slice (some ⟨gn, 0, none⟩) n n, .slice none 0 0, .int .i64 0]) rfl rfl rfl ?_; intro gp wp hgp hlp hbp hkp)
                (try simp only [Act.put, List.setIfInBounds_toArray, List.set_cons_zero, List.set_cons_succ])
                refine wpList_nil ⟨trivial, ?_⟩
                have Hbp := Lib.hid hbp
                have Hlo := Lib.hid (show (w.heap.size ≤ gp ∧ w.heap.size ≤ gs ∧ w.heap.size ≤ gh) ∧ w.heap.size ≤ gk ∧ w.heap.size ≤ gn from by have zd : w.drew.heap.size = w.heap.size := rfl; omega)
                have Hne := Lib.hid (show gs ≠ gh by omega)
                have Hkc := Lib.hid (Hkc.out.trans hkp (fun _ _ h => h))
                have Hbs := Lib.hid (hkp.blk Hbs.out id)
                have Hbh := Lib.hid (hkp.blk Hbh.out id)
                have Hbk := Lib.hid (hkp.blk Hbk.out id)
                have Hbn := Lib.hid (hkp.blk Hbn.out id)
                clear hkp hbp
                refine tree_q (v := ?v1_70) (some 2) rfl rfl rfl ?q1_70 ?h1_70; (case q1_70 => (intro w' hS; skip; first | (go_simp; done) | (go_simp; rfl))); (try simp only [Act.put, List.setIfInBounds_toArray, List.set_cons_zero, List.set_cons_succ])
                refine tree_nil ?_
          case' nb1_73 =>
            refine tree_b rfl rfl ?b1_80 ?nb1_80
            case' b1_80 =>   -- 4: makeSlice 23 t9 t9
              go_must (refine ev_makeSlice rfl rfl n rfl rfl Tryd.underlying23 info3b rfl (by decide) (by omega) (by omega) ?_; intro gh wh hgh hlh hbh hkh)
              (try simp only [Act.put, List.setIfInBounds_toArray, List.set_cons_zero, List.set_cons_succ])
              refine wpList_nil ⟨trivial, ?_⟩
              have zh := hkh.size
              have Hbh := Lib.hid hbh
              (try have Hbs := Lib.hid (hkh.blk Hbs.out id))
              (try have Hbk := Lib.hid (hkh.blk Hbk.out id))
              (try have Hbn := Lib.hid (hkh.blk Hbn.out id))
              have Hkc := Lib.hid (Hkc.out.trans hkh (fun _ _ h => h))
              clear hkh hbh
              refine tree_b rfl rfl ?b1_76 ?nb1_76
              case' b1_76 =>   -- 2: makeSlice 23 t7 t7
                go_must (refine ev_makeSlice rfl rfl n rfl rfl Tryd.underlying23 info3b rfl (by decide) (by omega) (by omega) ?_; intro gs ws hgs hls hbs hks)
                (try simp only [Act.put, List.setIfInBounds_toArray, List.set_cons_zero, List.set_cons_succ])
                refine wpList_nil ⟨trivial, ?_⟩
                have zs := hks.size
                have Hbs := Lib.hid hbs
                (try have Hbh := Lib.hid (hks.blk Hbh.out id))
                (try have Hbk := Lib.hid (hks.blk Hbk.out id))
                (try have Hbn := Lib.hid (hks.blk Hbn.out id))
                have Hkc := Lib.hid (Hkc.out.trans hks (fun _ _ h => h))
                clear hks hbs
                refine tree_e rfl rfl ?_   -- 6: makeSlice 98 t11 t11
                go_must (refine ev_makeSlice rfl rfl n rfl rfl under98 info113b rfl (by decide) (by omega) (by omega) ?_; intro gk wk hgk hlk hbk hkk)
                (try simp only [Act.put, List.setIfInBounds_toArray, List.set_cons_zero, List.set_cons_succ])
                refine wpList_nil ⟨trivial, ?_⟩
                have zk := hkk.size
                have Hbk := Lib.hid hbk
                (try have Hbs := Lib.hid (hkk.blk Hbs.out id))
                (try have Hbh := Lib.hid (hkk.blk Hbh.out id))
                (try have Hbn := Lib.hid (hkk.blk Hbn.out id))
                have Hkc := Lib.hid (Hkc.out.trans hkk (fun _ _ h => h))
                clear hkk hbk
                refine tree_q (v := ?v1_75) (some 15) rfl rfl rfl ?q1_75 ?h1_75; (case q1_75 => (intro w' hS; skip; first | (go_simp; done) | (go_simp; rfl))); (try simp only [Act.put, List.setIfInBounds_toArray, List.set_cons_zero, List.set_cons_succ])
                refine tree_e rfl rfl ?_   -- 10: box 100 t15
                go_must (refine ev_box (cs := #[.slice rA n rc, .slice (some ⟨gs, 0, none⟩) n n, .slice (some ⟨gh, 0, none⟩) n n, .slice (some ⟨gk, 0, none⟩) n n, .int .i64 0, .slice (some ⟨gn, 0, none⟩) n n, .slice none 0 0, .int .i64 0]) rfl rfl rfl ?_; intro gp wp hgp hlp hbp hkp)
                (try simp only [Act.put, List.setIfInBounds_toArray, List.set_cons_zero, List.set_cons_succ])
                refine wpList_nil ⟨trivial, ?_⟩
                have Hbp := Lib.hid hbp
                have Hlo := Lib.hid (show (w.heap.size ≤ gp ∧ w.heap.size ≤ gs ∧ w.heap.size ≤ gh) ∧ w.heap.size ≤ gk ∧ w.heap.size ≤ gn from by have zd : w.drew.heap.size = w.heap.size := rfl; omega)
                have Hne := Lib.hid (show gs ≠ gh by omega)
                have Hkc := Lib.hid (Hkc.out.trans hkp (fun _ _ h => h))
                have Hbs := Lib.hid (hkp.blk Hbs.out id)
                have Hbh := Lib.hid (hkp.blk Hbh.out id)
                have Hbk := Lib.hid (hkp.blk Hbk.out id)
                have Hbn := Lib.hid (hkp.blk Hbn.out id)
                clear hkp hbp
                refine tree_q (v := ?v1_74) (some 2) rfl rfl rfl ?q1_74 ?h1_74; (case q1_74 => (intro w' hS; skip; first | (go_simp; done) | (go_simp; rfl))); (try simp only [Act.put, List.setIfInBounds_toArray, List.set_cons_zero, List.set_cons_succ])
                refine tree_nil ?_
              case' nb1_76 =>
                refine tree_e rfl rfl ?b1_79
                case' b1_79 =>   -- 6: makeSlice 98 t11 t11
                  go_must (refine ev_makeSlice rfl rfl n rfl rfl under98 info113b rfl (by decide) (by omega) (by omega) ?_; intro gk wk hgk hlk hbk hkk)
                  (try simp only [Act.put, List.setIfInBounds_toArray, List.set_cons_zero, List.set_cons_succ])
                  refine wpList_nil ⟨trivial, ?_⟩
                  have zk := hkk.size
                  have Hbk := Lib.hid hbk
                  (try have Hbs := Lib.hid (hkk.blk Hbs.out id))
                  (try have Hbh := Lib.hid (hkk.blk Hbh.out id))
                  (try have Hbn := Lib.hid (hkk.blk Hbn.out id))
                  have Hkc := Lib.hid (Hkc.out.trans hkk (fun _ _ h => h))
                  clear hkk hbk
                  refine tree_e rfl rfl ?_   -- 2: makeSlice 23 t7 t7
                  go_must (refine ev_makeSlice rfl rfl n rfl rfl Tryd.underlying23 info3b rfl (by decide) (by omega) (by omega) ?_; intro gs ws hgs hls hbs hks)
                  (try simp only [Act.put, List.setIfInBounds_toArray, List.set_cons_zero, List.set_cons_succ])
                  refine wpList_nil ⟨trivial, ?_⟩
                  have zs := hks.size
                  have Hbs := Lib.hid hbs
                  (try have Hbh := Lib.hid (hks.blk Hbh.out id))
                  (try have Hbk := Lib.hid (hks.blk Hbk.out id))
                  (try have Hbn := Lib.hid (hks.blk Hbn.out id))
                  have Hkc := Lib.hid (Hkc.out.trans hks (fun _ _ h => h))
                  clear hks hbs
                  refine tree_q (v := ?v1_78) (some 15) rfl rfl rfl ?q1_78 ?h1_78; (case q1_78 => (intro w' hS; skip; first | (go_simp; done) | (go_simp; rfl))); (try simp only [Act.put, List.setIfInBounds_toArray, List.set_cons_zero, List.set_cons_succ])
                  refine tree_e rfl rfl ?_   -- 10: box 100 t15
                  go_must (refine ev_box (cs := #[.slice rA n rc, .slice (some ⟨gs, 0, none⟩) n n, .slice (some ⟨gh, 0, none⟩) n n, .slice (some ⟨gk, 0, none⟩) n n, .int .i64 0, .slice (some ⟨gn, 0, none⟩) n n, .slice none 0 0, .int .i64 0]) rfl rfl rfl ?_; intro gp wp hgp hlp hbp hkp)
                  (try simp only [Act.put, List.setIfInBounds_toArray, List.set_cons_zero, List.set_cons_succ])
                  refine wpList_nil ⟨trivial, ?_⟩
                  have Hbp := Lib.hid hbp
                  have Hlo := Lib.hid (show (w.heap.size ≤ gp ∧ w.heap.size ≤ gs ∧ w.heap.size ≤ gh) ∧ w.heap.size ≤ gk ∧ w.heap.size ≤ gn from by have zd : w.drew.heap.size = w.heap.size := rfl; omega)
                  have Hne := Lib.hid (show gs ≠ gh by omega)
                  have Hkc := Lib.hid (Hkc.out.trans hkp (fun _ _ h => h))
                  have Hbs := Lib.hid (hkp.blk Hbs.out id)
                  have Hbh := Lib.hid (hkp.blk Hbh.out id)
                  have Hbk := Lib.hid (hkp.blk Hbk.out id)
                  have Hbn := Lib.hid (hkp.blk Hbn.out id)
                  clear hkp hbp
                  refine tree_q (v := ?v1_77) (some 2) rfl rfl rfl ?q1_77 ?h1_77; (case q1_77 => (intro w' hS; skip; first | (go_simp; done) | (go_simp; rfl))); (try simp only [Act.put, List.setIfInBounds_toArray, List.set_cons_zero, List.set_cons_succ])
                  refine tree_nil ?_
            case' nb1_80 =>
              refine tree_e rfl rfl ?b1_87
              case' b1_87 =>   -- 6: makeSlice 98 t11 t11
                go_must (refine ev_makeSlice rfl rfl n rfl rfl under98 info113b rfl (by decide) (by omega) (by omega) ?_; intro gk wk hgk hlk hbk hkk)
                (try simp only [Act.put, List.setIfInBounds_toArray, List.set_cons_zero, List.set_cons_succ])
                refine wpList_nil ⟨trivial, ?_⟩
                have zk := hkk.size
                have Hbk := Lib.hid hbk
                (try have Hbs := Lib.hid (hkk.blk Hbs.out id))
                (try have Hbh := Lib.hid (hkk.blk Hbh.out id))
                (try have Hbn := Lib.hid (hkk.blk Hbn.out id))
                have Hkc := Lib.hid (Hkc.out.trans hkk (fun _ _ h => h))
                clear hkk hbk
                refine tree_b rfl rfl ?b1_83 ?nb1_83
                case' b1_83 =>   -- 2: makeSlice 23 t7 t7
                  go_must (refine ev_makeSlice rfl rfl n rfl rfl Tryd.underlying23 info3b rfl (by decide) (by omega) (by omega) ?_; intro gs ws hgs hls hbs hks)
                  (try simp only [Act.put, List.setIfInBounds_toArray, List.set_cons_zero, List.set_cons_succ])
                  refine wpList_nil ⟨trivial, ?_⟩
                  have zs := hks.size
                  have Hbs := Lib.hid hbs
                  (try have Hbh := Lib.hid (hks.blk Hbh.out id))
                  (try have Hbk := Lib.hid (hks.blk Hbk.out id))
                  (try have Hbn := Lib.hid (hks.blk Hbn.out id))
                  have Hkc := Lib.hid (Hkc.out.trans hks (fun _ _ h => h))
                  clear hks hbs
                  refine tree_e rfl rfl ?_   -- 4: makeSlice 23 t9 t9
                  go_must (refine ev_makeSlice rfl rfl n rfl rfl Tryd.underlying23 info3b rfl (by decide) (by omega) (by omega) ?_; intro gh wh hgh hlh hbh hkh)
                  (try simp only [Act.put, List.setIfInBounds_toArray, List.set_cons_zero, List.set_cons_succ])
                  refine wpList_nil ⟨trivial, ?_⟩
                  have zh := hkh.size
                  have Hbh := Lib.hid hbh
                  (try have Hbs := Lib.hid (hkh.blk Hbs.out id))
                  (try have Hbk := Lib.hid (hkh.blk Hbk.out id))
                  (try have Hbn := Lib.hid (hkh.blk Hbn.out id))
                  have Hkc := Lib.hid (Hkc.out.trans hkh (fun _ _ h => h))
                  clear hkh hbh
                  refine tree_q (v := ?v1_82) (some 15) rfl rfl rfl ?q1_82 ?h1_82; (case q1_82 => (intro w' hS; skip; first | (go_simp; done) | (go_simp; rfl))); (try simp only [Act.put, List.setIfInBounds_toArray, List.set_cons_zero, List.set_cons_succ])
                  refine tree_e rfl rfl ?_   -- 10: box 100 t15
                  go_must (refine ev_box (cs := #[.slice rA n rc, .slice (some ⟨gs, 0, none⟩) n n, .slice (some ⟨gh, 0, none⟩) n n, .slice (some ⟨gk, 0, none⟩) n n, .int .i64 0, .slice (some ⟨gn, 0, none⟩) n n, .slice none 0 0, .int .i64 0]) rfl rfl rfl ?_; intro gp wp hgp hlp hbp hkp)
                  (try simp only [Act.put, List.setIfInBounds_toArray, List.set_cons_zero, List.set_cons_succ])
                  refine wpList_nil ⟨trivial, ?_⟩
                  have Hbp := Lib.hid hbp
                  have Hlo := Lib.hid (show (w.heap.size ≤ gp ∧ w.heap.size ≤ gs ∧ w.heap.size ≤ gh) ∧ w.heap.size ≤ gk ∧ w.heap.size ≤ gn from by have zd : w.drew.heap.size = w.heap.size := rfl; omega)
                  have Hne := Lib.hid (show gs ≠ gh by omega)
                  have Hkc := Lib.hid (Hkc.out.trans hkp (fun _ _ h => h))
                  have Hbs := Lib.hid (hkp.blk Hbs.out id)
                  have Hbh := Lib.hid (hkp.blk Hbh.out id)
                  have Hbk := Lib.hid (hkp.blk Hbk.out id)
                  have Hbn := Lib.hid (hkp.blk Hbn.out id)
                  clear hkp hbp
                  refine tree_q (v := ?v1_81) (some 2) rfl rfl rfl ?q1_81 ?h1_81; (case q1_81 => (intro w' hS; skip; first | (go_simp; done) | (go_simp; rfl))); (try simp only [Act.put, List.setIfInBounds_toArray, List.set_cons_zero, List.set_cons_succ])
                  refine tree_nil ?_
                case' nb1_83 =>
                  refine tree_e rfl rfl ?b1_86
                  case' b1_86 =>   -- 4: makeSlice 23 t9 t9
                    go_must (refine ev_makeSlice rfl rfl n rfl rfl Tryd.underlying23 info3b rfl (by decide) (by omega) (by omega) ?_; intro gh wh hgh hlh hbh hkh)
                    (try simp only [Act.put, List.setIfInBounds_toArray, List.set_cons_zero, List.set_cons_succ])
                    refine wpList_nil ⟨trivial, ?_⟩
                    have zh := hkh.size
                    have Hbh := Lib.hid hbh
                    (try have Hbs := Lib.hid (hkh.blk Hbs.out id))
                    (try have Hbk := Lib.hid (hkh.blk Hbk.out id))
                    (try have Hbn := Lib.hid (hkh.blk Hbn.out id))
                    have Hkc := Lib.hid (Hkc.out.trans hkh (fun _ _ h => h))
                    clear hkh hbh
                    refine tree_e rfl rfl ?_   -- 2: makeSlice 23 t7 t7
                    go_must (refine ev_makeSlice rfl rfl n rfl rfl Tryd.underlying23 info3b rfl (by decide) (by omega) (by omega) ?_; intro gs ws hgs hls hbs hks)
                    (try simp only [Act.put, List.setIfInBounds_toArray, List.set_cons_zero, List.set_cons_succ])
                    refine wpList_nil ⟨trivial, ?_⟩
                    have zs := hks.size
                    have Hbs := Lib.hid hbs
                    (try have Hbh := Lib.hid (hks.blk Hbh.out id))
                    (try have Hbk := Lib.hid (hks.blk Hbk.out id))
                    (try have Hbn := Lib.hid (hks.blk Hbn.out id))
                    have Hkc := Lib.hid (Hkc.out.trans hks (fun _ _ h => h))
                    clear hks hbs
                    refine tree_q (v := ?v1_85) (some 15) rfl rfl rfl ?q1_85 ?h1_85; (case q1_85 => (intro w' hS; skip; first | (go_simp; done) | (go_simp; rfl))); (try simp only [Act.put, List.setIfInBounds_toArray, List.set_cons_zero, List.set_cons_succ])
                    refine tree_e rfl rfl ?_   -- 10: box 100 t15
                    go_must (refine ev_box (cs := #[.slice rA n rc, .slice (some ⟨gs, 0, none⟩) n n, .slice (some ⟨gh, 0, none⟩) n n, .slice (some ⟨gk, 0, none⟩) n n, .int .i64 0, .slice (some ⟨gn, 0, none⟩) n n, .slice none 0 0, .int .i64 0]) rfl rfl rfl ?_; intro gp wp hgp hlp hbp hkp)
                    (try simp only [Act.put, List.setIfInBounds_toArray, List.set_cons_zero, List.set_cons_succ])
                    refine wpList_nil ⟨trivial, ?_⟩
                    have Hbp := Lib.hid hbp
                    have Hlo := Lib.hid (show (w.heap.size ≤ gp ∧ w.heap.size ≤ gs ∧ w.heap.size ≤ gh) ∧ w.heap.size ≤ gk ∧ w.heap.size ≤ gn from by have zd : w.drew.heap.size = w.heap.size := rfl; omega)
                    have Hne := Lib.hid (show gs ≠ gh by omega)
                    have Hkc := Lib.hid (Hkc.out.trans hkp (fun _ _ h => h))
                    have Hbs := Lib.hid (hkp.blk Hbs.out id)
                    have Hbh := Lib.hid (hkp.blk Hbh.out id)
                    have Hbk := Lib.hid (hkp.blk Hbk.out id)
                    have Hbn := Lib.hid (hkp.blk Hbn.out id)
                    clear hkp hbp
                    refine tree_q (v := ?v1_84) (some 2) rfl rfl rfl ?q1_84 ?h1_84; (case q1_84 => (intro w' hS; skip; first | (go_simp; done) | (go_simp; rfl))); (try simp only [Act.put, List.setIfInBounds_toArray, List.set_cons_zero, List.set_cons_succ])
                    refine tree_nil ?_
  · skip
    have hne := Hn.out
    subst hne
    go_wp2
    go_ret
    have Hst := ref_start (w0 := w) Hbp.out (HR.out.keep (X' := fun b => X b ∧ b < w.heap.size) Hkc.out (fun _ _ _ => id) (fun _ _ h => h)) Hbs.out Hbh.out Hbk.out Hbn.out (by have h := Hlo.out; omega) (by have h := Hne.out; omega) Hkc.out.size
    exact ⟨_, _, _, _, _, rfl, Hkc.out, Hst, Hlo.out⟩
  · skip
    have hne := Hn.out
    subst hne
    go_wp2
    go_ret
    have Hst := ref_start (w0 := w) Hbp.out (HR.out.keep (X' := fun b => X b ∧ b < w.heap.size) Hkc.out (fun _ _ _ => id) (fun _ _ h => h)) Hbs.out Hbh.out Hbk.out Hbn.out (by have h := Hlo.out; omega) (by have h := Hne.out; omega) Hkc.out.size
    exact ⟨_, _, _, _, _, rfl, Hkc.out, Hst, Hlo.out⟩
  · skip
    have hne := Hn.out
    subst hne
    go_wp2
    go_ret
    have Hst := ref_start (w0 := w) Hbp.out (HR.out.keep (X' := fun b => X b ∧ b < w.heap.size) Hkc.out (fun _ _ _ => id) (fun _ _ h => h)) Hbs.out Hbh.out Hbk.out Hbn.out (by have h := Hlo.out; omega) (by have h := Hne.out; omega) Hkc.out.size
    exact ⟨_, _, _, _, _, rfl, Hkc.out, Hst, Hlo.out⟩
  · skip
    have hne := Hn.out
    subst hne
    go_wp2
    go_ret
    have Hst := ref_start (w0 := w) Hbp.out (HR.out.keep (X' := fun b => X b ∧ b < w.heap.size) Hkc.out (fun _ _ _ => id) (fun _ _ h => h)) Hbs.out Hbh.out Hbk.out Hbn.out (by have h := Hlo.out; omega) (by have h := Hne.out; omega) Hkc.out.size
    exact ⟨_, _, _, _, _, rfl, Hkc.out, Hst, Hlo.out⟩
  · skip
    have hne := Hn.out
    subst hne
    go_wp2
    go_ret
    have Hst := ref_start (w0 := w) Hbp.out (HR.out.keep (X' := fun b => X b ∧ b < w.heap.size) Hkc.out (fun _ _ _ => id) (fun _ _ h => h)) Hbs.out Hbh.out Hbk.out Hbn.out (by have h := Hlo.out; omega) (by have h := Hne.out; omega) Hkc.out.size
    exact ⟨_, _, _, _, _, rfl, Hkc.out, Hst, Hlo.out⟩
  · skip
    have hne := Hn.out
    subst hne
    go_wp2
    go_ret
    have Hst := ref_start (w0 := w) Hbp.out (HR.out.keep (X' := fun b => X b ∧ b < w.heap.size) Hkc.out (fun _ _ _ => id) (fun _ _ h => h)) Hbs.out Hbh.out Hbk.out Hbn.out (by have h := Hlo.out; omega) (by have h := Hne.out; omega) Hkc.out.size
    exact ⟨_, _, _, _, _, rfl, Hkc.out, Hst, Hlo.out⟩
  · skip
    have hne := Hn.out
    subst hne
    go_wp2
    go_ret
    have Hst := ref_start (w0 := w) Hbp.out (HR.out.keep (X' := fun b => X b ∧ b < w.heap.size) Hkc.out (fun _ _ _ => id) (fun _ _ h => h)) Hbs.out Hbh.out Hbk.out Hbn.out (by have h := Hlo.out; omega) (by have h := Hne.out; omega) Hkc.out.size
    exact ⟨_, _, _, _, _, rfl, Hkc.out, Hst, Hlo.out⟩
  · skip
    have hne := Hn.out
    subst hne
    go_wp2
    go_ret
    have Hst := ref_start (w0 := w) Hbp.out (HR.out.keep (X' := fun b => X b ∧ b < w.heap.size) Hkc.out (fun _ _ _ => id) (fun _ _ h => h)) Hbs.out Hbh.out Hbk.out Hbn.out (by have h := Hlo.out; omega) (by have h := Hne.out; omega) Hkc.out.size
    exact ⟨_, _, _, _, _, rfl, Hkc.out, Hst, Hlo.out⟩
  · skip
    have hne := Hn.out
    subst hne
    go_wp2
    go_ret
    have Hst := ref_start (w0 := w) Hbp.out (HR.out.keep (X' := fun b => X b ∧ b < w.heap.size) Hkc.out (fun _ _ _ => id) (fun _ _ h => h)) Hbs.out Hbh.out Hbk.out Hbn.out (by have h := Hlo.out; omega) (by have h := Hne.out; omega) Hkc.out.size
    exact ⟨_, _, _, _, _, rfl, Hkc.out, Hst, Hlo.out⟩
  · skip
    have hne := Hn.out
    subst hne
    go_wp2
    go_ret
    have Hst := ref_start (w0 := w) Hbp.out (HR.out.keep (X' := fun b => X b ∧ b < w.heap.size) Hkc.out (fun _ _ _ => id) (fun _ _ h => h)) Hbs.out Hbh.out Hbk.out Hbn.out (by have h := Hlo.out; omega) (by have h := Hne.out; omega) Hkc.out.size
    exact ⟨_, _, _, _, _, rfl, Hkc.out, Hst, Hlo.out⟩
  · skip
    have hne := Hn.out
    subst hne
    go_wp2
    go_ret
    have Hst := ref_start (w0 := w) Hbp.out (HR.out.keep (X' := fun b => X b ∧ b < w.heap.size) Hkc.out (fun _ _ _ => id) (fun _ _ h => h)) Hbs.out Hbh.out Hbk.out Hbn.out (by have h := Hlo.out; omega) (by have h := Hne.out; omega) Hkc.out.size
    exact ⟨_, _, _, _, _, rfl, Hkc.out, Hst, Hlo.out⟩
  · skip
    have hne := Hn.out
    subst hne
    go_wp2
    go_ret
    have Hst := ref_start (w0 := w) Hbp.out (HR.out.keep (X' := fun b => X b ∧ b < w.heap.size) Hkc.out (fun _ _ _ => id) (fun _ _ h => h)) Hbs.out Hbh.out Hbk.out Hbn.out (by have h := Hlo.out; omega) (by have h := Hne.out; omega) Hkc.out.size
    exact ⟨_, _, _, _, _, rfl, Hkc.out, Hst, Hlo.out⟩
  · skip
    have hne := Hn.out
    subst hne
    go_wp2
    go_ret
    have Hst := ref_start (w0 := w) Hbp.out (HR.out.keep (X' := fun b => X b ∧ b < w.heap.size) Hkc.out (fun _ _ _ => id) (fun _ _ h => h)) Hbs.out Hbh.out Hbk.out Hbn.out (by have h := Hlo.out; omega) (by have h := Hne.out; omega) Hkc.out.size
    exact ⟨_, _, _, _, _, rfl, Hkc.out, Hst, Hlo.out⟩
  · skip
    have hne := Hn.out
    subst hne
    go_wp2
    go_ret
    have Hst := ref_start (w0 := w) Hbp.out (HR.out.keep (X' := fun b => X b ∧ b < w.heap.size) Hkc.out (fun _ _ _ => id) (fun _ _ h => h)) Hbs.out Hbh.out Hbk.out Hbn.out (by have h := Hlo.out; omega) (by have h := Hne.out; omega) Hkc.out.size
    exact ⟨_, _, _, _, _, rfl, Hkc.out, Hst, Hlo.out⟩
  · skip
    have hne := Hn.out
    subst hne
    go_wp2
    go_ret
    have Hst := ref_start (w0 := w) Hbp.out (HR.out.keep (X' := fun b => X b ∧ b < w.heap.size) Hkc.out (fun _ _ _ => id) (fun _ _ h => h)) Hbs.out Hbh.out Hbk.out Hbn.out (by have h := Hlo.out; omega) (by have h := Hne.out; omega) Hkc.out.size
    exact ⟨_, _, _, _, _, rfl, Hkc.out, Hst, Hlo.out⟩
  · skip
    have hne := Hn.out
    subst hne
    go_wp2
    go_ret
    have Hst := ref_start (w0 := w) Hbp.out (HR.out.keep (X' := fun b => X b ∧ b < w.heap.size) Hkc.out (fun _ _ _ => id) (fun _ _ h => h)) Hbs.out Hbh.out Hbk.out Hbn.out (by have h := Hlo.out; omega) (by have h := Hne.out; omega) Hkc.out.size
    exact ⟨_, _, _, _, _, rfl, Hkc.out, Hst, Hlo.out⟩
  · skip
    have hne := Hn.out
    subst hne
    go_wp2
    go_ret
    have Hst := ref_start (w0 := w) Hbp.out (HR.out.keep (X' := fun b => X b ∧ b < w.heap.size) Hkc.out (fun _ _ _ => id) (fun _ _ h => h)) Hbs.out Hbh.out Hbk.out Hbn.out (by have h := Hlo.out; omega) (by have h := Hne.out; omega) Hkc.out.size
    exact ⟨_, _, _, _, _, rfl, Hkc.out, Hst, Hlo.out⟩
  · skip
    have hne := Hn.out
    subst hne
    go_wp2
    go_ret
    have Hst := ref_start (w0 := w) Hbp.out (HR.out.keep (X' := fun b => X b ∧ b < w.heap.size) Hkc.out (fun _ _ _ => id) (fun _ _ h => h)) Hbs.out Hbh.out Hbk.out Hbn.out (by have h := Hlo.out; omega) (by have h := Hne.out; omega) Hkc.out.size
    exact ⟨_, _, _, _, _, rfl, Hkc.out, Hst, Hlo.out⟩
  · skip
    have hne := Hn.out
    subst hne
    go_wp2
    go_ret
    have Hst := ref_start (w0 := w) Hbp.out (HR.out.keep (X' := fun b => X b ∧ b < w.heap.size) Hkc.out (fun _ _ _ => id) (fun _ _ h => h)) Hbs.out Hbh.out Hbk.out Hbn.out (by have h := Hlo.out; omega) (by have h := Hne.out; omega) Hkc.out.size
    exact ⟨_, _, _, _, _, rfl, Hkc.out, Hst, Hlo.out⟩
  · skip
    have hne := Hn.out
    subst hne
    go_wp2
    go_ret
    have Hst := ref_start (w0 := w) Hbp.out (HR.out.keep (X' := fun b => X b ∧ b < w.heap.size) Hkc.out (fun _ _ _ => id) (fun _ _ h => h)) Hbs.out Hbh.out Hbk.out Hbn.out (by have h := Hlo.out; omega) (by have h := Hne.out; omega) Hkc.out.size
    exact ⟨_, _, _, _, _, rfl, Hkc.out, Hst, Hlo.out⟩
  · skip
    have hne := Hn.out
    subst hne
    go_wp2
    go_ret
    have Hst := ref_start (w0 := w) Hbp.out (HR.out.keep (X' := fun b => X b ∧ b < w.heap.size) Hkc.out (fun _ _ _ => id) (fun _ _ h => h)) Hbs.out Hbh.out Hbk.out Hbn.out (by have h := Hlo.out; omega) (by have h := Hne.out; omega) Hkc.out.size
    exact ⟨_, _, _, _, _, rfl, Hkc.out, Hst, Hlo.out⟩
  · skip
    have hne := Hn.out
    subst hne
    go_wp2
    go_ret
    have Hst := ref_start (w0 := w) Hbp.out (HR.out.keep (X' := fun b => X b ∧ b < w.heap.size) Hkc.out (fun _ _ _ => id) (fun _ _ h => h)) Hbs.out Hbh.out Hbk.out Hbn.out (by have h := Hlo.out; omega) (by have h := Hne.out; omega) Hkc.out.size
    exact ⟨_, _, _, _, _, rfl, Hkc.out, Hst, Hlo.out⟩
  · skip
    have hne := Hn.out
    subst hne
    go_wp2
    go_ret
    have Hst := ref_start (w0 := w) Hbp.out (HR.out.keep (X' := fun b => X b ∧ b < w.heap.size) Hkc.out (fun _ _ _ => id) (fun _ _ h => h)) Hbs.out Hbh.out Hbk.out Hbn.out (by have h := Hlo.out; omega) (by have h := Hne.out; omega) Hkc.out.size
    exact ⟨_, _, _, _, _, rfl, Hkc.out, Hst, Hlo.out⟩
  · skip
    have hne := Hn.out
    subst hne
    go_wp2
    go_ret
    have Hst := ref_start (w0 := w) Hbp.out (HR.out.keep (X' := fun b => X b ∧ b < w.heap.size) Hkc.out (fun _ _ _ => id) (fun _ _ h => h)) Hbs.out Hbh.out Hbk.out Hbn.out (by have h := Hlo.out; omega) (by have h := Hne.out; omega) Hkc.out.size
    exact ⟨_, _, _, _, _, rfl, Hkc.out, Hst, Hlo.out⟩
end Go.Proofs.QW

/-
  Both engines lie and show the same (like); two lists of rules that are the same (equal). Condition: they lie.
-/
namespace Go.Proofs.QW
open Go.RowKit Go.Proofs.KL Go.Proofs.QM
set_option maxRecDepth 100000
set_option linter.unusedSimpArgs false
set_option linter.unusedVariables false

theorem keptVal_false {E : Env} {ans : List (Option KeptR)} {q : Int} {v : Int} (h : keptVal E ans q = (v, false)) : v = 0 := by
  unfold keptVal at h
  split at h
  · injection h with h _; exact h.symm
  split at h
  · injection h with _ h; cases h
  split at h
  · injection h with _ h; cases h
  · injection h with h _; exact h.symm
set_option maxHeartbeats 4000000 in
/-- LIKE. -/
theorem like_any {E : Env} {ans : List (Option KeptR)} (h200 : E.rules.length ≤ 200) (hal : ∀ p, (foundF E ans p).1.asked.length ≤ 12) (w : World) (Xp : Nat → Prop) (eb ib mb : Nat) (X : Nat → Prop) (wb sb hb kb nb : Nat) (dv : Value)
    (he : EngAt w Xp eb ib mb E ans) (hr : RefAt w X wb sb hb kb nb E ans dv) :
    Calls Tryd.prog 27 #[.pointer (some ⟨eb, 0, none⟩), .pointer (some ⟨wb, 0, none⟩)] w fun e w' => e = .returned (.bool true) ∧ Keeps Nob w w' := by
  have He := Lib.hid he
  have Hr := Lib.hid hr
  have Hal := Lib.hid hal
  obtain ⟨done, m, hc⟩ := hr
  obtain ⟨rv, hwb0, hrx⟩ := hc.blk
  obtain ⟨rA, rc, rfl, -, -⟩ := id hrx
  have hwb := (show w.heap[wb]? = some (.cells #[.slice rA E.rules.length rc, .slice (some ⟨sb, 0, none⟩) E.rules.length E.rules.length, .slice (some ⟨hb, 0, none⟩) E.rules.length E.rules.length, .slice (some ⟨kb, 0, none⟩) E.rules.length E.rules.length, .int .i64 E.rev, .slice (some ⟨nb, 0, none⟩) E.rules.length E.rules.length, dv, .int .i64 m] 100 (0, 0)) from hwb0)
  have p0 := (blk_cell hwb 0).trans rfl
  have Hwb := Lib.hid hwb
  have hre : (E.rev == E.rev) = true := by simp
  obtain ⟨n, hn⟩ : ∃ n, E.rules.length = n := ⟨_, rfl⟩
  have Hn := Lib.hid hn
  have h200' := Lib.hid h200
  rw [hn] at p0 h200
  have P0 := Lib.hid p0
  clear hc hwb0 hrx hwb hn he hal p0
  go_enter Tryd.func27, Tryd.ntmps27
  go_wp2
  go_loopw [5] (fun v wr => ∃ q : Int, v = .int .i64 q ∧ -1 ≤ q ∧ q ≤ n + 1 ∧ Hid (Keeps Nob w wr)) (fun v _ => (n + 1 - intOf v).toNat)
  case atStart => exact ⟨-1, rfl, by omega, by omega, Lib.hid (Keeps.refl _ _)⟩
  case round =>
    obtain ⟨q, rfl, hq0, hq1, HKc⟩ := hrel
    have p0 := HKc.out.cell P0.out id
    by_cases hlt : q ≤ n
    · obtain ⟨fk, fe, hfo⟩ : ∃ x y, foundF E ans q = (x, y) := ⟨_, _, rfl⟩
      obtain ⟨kv, kb', hkv⟩ : ∃ x y, keptVal E ans q = (x, y) := ⟨_, _, rfl⟩
      have hfl := Hal.out q
      rw [hfo] at hfl
      have hfl2 : fk.asked.length ≤ 1000000 := by have h : fk.asked.length ≤ 12 := hfl; omega
      have Hfl := Lib.hid (show (foundF E ans q).1.asked.length ≤ 1000000 by rw [hfo]; exact hfl2)
      have Hfo := Lib.hid hfo
      have Hkv := Lib.hid hkv
      have hb1 : (kb' != kb') = false := by simp
      have hb2 : (kv != kv) = false := by simp
      have hb3 : (fk.checked != fk.checked) = false := by simp
      have hb4 : (fk.changed != fk.changed) = false := by simp
      have hb5 : (fe != fe) = false := by simp
      clear hfo hkv hfl
      cases kb' with
      | false =>
        obtain rfl : kv = 0 := keptVal_false Hkv.out
        go_wp2_with (first
          | (go_at_call 19; go_must (have hrun := Kept_any Xp eb ib mb E ans q _ (He.out.after HKc.out) h200'.out; rw [Hkv.out] at hrun; refine hrun.mono ?_; rintro e w1 ⟨rfl, hk1⟩); have HK1 := Lib.hid (HKc.out.trans hk1 (fun _ _ h => h)); clear hrun hk1; (try simp only [Act.put, List.setIfInBounds_toArray, List.set_cons_zero, List.set_cons_succ]))
          | (go_at_call 48; go_must (have hrun := RefHas_any h200'.out _ X wb sb hb kb nb dv q (Hr.out.after HK1.out); rw [Hkv.out] at hrun; refine hrun.mono ?_; rintro e w2 ⟨rfl, hk2⟩); have HK2 := Lib.hid (HK1.out.trans hk2 (fun _ _ h => h)); clear hrun hk2; (try simp only [Act.put, List.setIfInBounds_toArray, List.set_cons_zero, List.set_cons_succ]))
          | (go_at_call 20; go_must (have hrun := Asked_any Xp eb ib mb E ans q _ (He.out.after HK2.out) h200'.out Hfl.out; rw [Hfo.out] at hrun; refine hrun.mono ?_; rintro e w3 ⟨uv, rfl, hk3, huv⟩; obtain ⟨uA, uc, rfl, -, -⟩ := id huv); have HU1 := Lib.hid (huv.keep (X' := fun _ => True) (Keeps.refl Nob w3) (fun _ _ _ => id) (fun _ _ _ => trivial)); have HK3 := Lib.hid (HK2.out.trans hk3 (fun _ _ h => h)); clear hrun hk3 huv; (try simp only [Act.put, List.setIfInBounds_toArray, List.set_cons_zero, List.set_cons_succ]))
          | (go_at_call 49; go_must (have hrun := RefAsked_any h200'.out _ X wb sb hb kb nb dv q (Hr.out.after HK3.out); rw [Hfo.out] at hrun; refine hrun.mono ?_; rintro e w4 ⟨ub, rfl, hk4, hub⟩; obtain ⟨uB, ud, rfl, -, -⟩ := id hub); have HU2 := Lib.hid hub; have HU3 := Lib.hid (HU1.out.keep (X' := fun _ => True) hk4 (fun _ _ _ => id) (fun _ _ h => h)); have HK4 := Lib.hid (HK3.out.trans hk4 (fun _ _ h => h)); clear hrun hk4 hub; (try simp only [Act.put, List.setIfInBounds_toArray, List.set_cons_zero, List.set_cons_succ]))
          | (go_at_call 32; have hrun := same_any fk.asked fk.asked _ _ _ _ _ HU3.out HU2.out hfl2; rw [decide_eq_true rfl] at hrun; go_must (refine hrun.mono ?_; rintro e w5 ⟨rfl, hk5⟩); have HK5 := Lib.hid (HK4.out.trans hk5 (fun _ _ h => h)); clear hrun hk5; (try simp only [Act.put, List.setIfInBounds_toArray, List.set_cons_zero, List.set_cons_succ]))
          | (go_at_call 21; go_must (have hrun := When_any Xp eb ib mb E ans q _ (He.out.after HK5.out) h200'.out; rw [Hfo.out] at hrun; refine hrun.mono ?_; rintro e w6 ⟨rfl, hk6⟩); have HK6 := Lib.hid (HK5.out.trans hk6 (fun _ _ h => h)); clear hrun hk6; (try simp only [Act.put, List.setIfInBounds_toArray, List.set_cons_zero, List.set_cons_succ]))
          | (go_at_call 50; go_must (have hrun := RefTimes_any h200'.out _ X wb sb hb kb nb dv q (Hr.out.after HK6.out); rw [Hfo.out] at hrun; refine hrun.mono ?_; rintro e w7 ⟨rfl, hk7⟩); have HK7 := Lib.hid (HK6.out.trans hk7 (fun _ _ h => h)); clear hrun hk7; (try simp only [Act.put, List.setIfInBounds_toArray, List.set_cons_zero, List.set_cons_succ]))
        )
        go_roundw
        case rel => exact ⟨q + 1, by go_num, by omega, by omega, HK7⟩
        case measure => simp [intOf]; omega
      | true =>
        go_wp2_with (first
          | (go_at_call 19; go_must (have hrun := Kept_any Xp eb ib mb E ans q _ (He.out.after HKc.out) h200'.out; rw [Hkv.out] at hrun; refine hrun.mono ?_; rintro e w1 ⟨rfl, hk1⟩); have HK1 := Lib.hid (HKc.out.trans hk1 (fun _ _ h => h)); clear hrun hk1; (try simp only [Act.put, List.setIfInBounds_toArray, List.set_cons_zero, List.set_cons_succ]))
          | (go_at_call 48; go_must (have hrun := RefHas_any h200'.out _ X wb sb hb kb nb dv q (Hr.out.after HK1.out); rw [Hkv.out] at hrun; refine hrun.mono ?_; rintro e w2 ⟨rfl, hk2⟩); have HK2 := Lib.hid (HK1.out.trans hk2 (fun _ _ h => h)); clear hrun hk2; (try simp only [Act.put, List.setIfInBounds_toArray, List.set_cons_zero, List.set_cons_succ]))
          | (go_at_call 20; go_must (have hrun := Asked_any Xp eb ib mb E ans q _ (He.out.after HK2.out) h200'.out Hfl.out; rw [Hfo.out] at hrun; refine hrun.mono ?_; rintro e w3 ⟨uv, rfl, hk3, huv⟩; obtain ⟨uA, uc, rfl, -, -⟩ := id huv); have HU1 := Lib.hid (huv.keep (X' := fun _ => True) (Keeps.refl Nob w3) (fun _ _ _ => id) (fun _ _ _ => trivial)); have HK3 := Lib.hid (HK2.out.trans hk3 (fun _ _ h => h)); clear hrun hk3 huv; (try simp only [Act.put, List.setIfInBounds_toArray, List.set_cons_zero, List.set_cons_succ]))
          | (go_at_call 49; go_must (have hrun := RefAsked_any h200'.out _ X wb sb hb kb nb dv q (Hr.out.after HK3.out); rw [Hfo.out] at hrun; refine hrun.mono ?_; rintro e w4 ⟨ub, rfl, hk4, hub⟩; obtain ⟨uB, ud, rfl, -, -⟩ := id hub); have HU2 := Lib.hid hub; have HU3 := Lib.hid (HU1.out.keep (X' := fun _ => True) hk4 (fun _ _ _ => id) (fun _ _ h => h)); have HK4 := Lib.hid (HK3.out.trans hk4 (fun _ _ h => h)); clear hrun hk4 hub; (try simp only [Act.put, List.setIfInBounds_toArray, List.set_cons_zero, List.set_cons_succ]))
          | (go_at_call 32; have hrun := same_any fk.asked fk.asked _ _ _ _ _ HU3.out HU2.out hfl2; rw [decide_eq_true rfl] at hrun; go_must (refine hrun.mono ?_; rintro e w5 ⟨rfl, hk5⟩); have HK5 := Lib.hid (HK4.out.trans hk5 (fun _ _ h => h)); clear hrun hk5; (try simp only [Act.put, List.setIfInBounds_toArray, List.set_cons_zero, List.set_cons_succ]))
          | (go_at_call 21; go_must (have hrun := When_any Xp eb ib mb E ans q _ (He.out.after HK5.out) h200'.out; rw [Hfo.out] at hrun; refine hrun.mono ?_; rintro e w6 ⟨rfl, hk6⟩); have HK6 := Lib.hid (HK5.out.trans hk6 (fun _ _ h => h)); clear hrun hk6; (try simp only [Act.put, List.setIfInBounds_toArray, List.set_cons_zero, List.set_cons_succ]))
          | (go_at_call 50; go_must (have hrun := RefTimes_any h200'.out _ X wb sb hb kb nb dv q (Hr.out.after HK6.out); rw [Hfo.out] at hrun; refine hrun.mono ?_; rintro e w7 ⟨rfl, hk7⟩); have HK7 := Lib.hid (HK6.out.trans hk7 (fun _ _ h => h)); clear hrun hk7; (try simp only [Act.put, List.setIfInBounds_toArray, List.set_cons_zero, List.set_cons_succ]))
        )
        go_roundw
        case rel => exact ⟨q + 1, by go_num, by omega, by omega, HK7⟩
        case measure => simp [intOf]; omega
    · have hq : q = n + 1 := by omega
      subst hq
      go_wp2
      have HEx := Lib.hid (He.out.after HKc.out)
      have p4 : wr.cell? ⟨wb, 4, none⟩ = some (.int .i64 E.rev) := HKc.out.cell ((blk_cell Hwb.out 4).trans rfl) id
      refine wp_region_perm [(0, true), (2, true), (3, true), (4, true), (5, true), (1, false), (6, true), (7, true)] (fun w' => w'.cell? ⟨wb, 4, none⟩ = some (.int .i64 E.rev)) rfl (by kernel_rfl) (by kernel_rfl) (by decide) (fun c a d v w h => by cases d <;> exact h) p4 ?_
      refine perm_q (v := ?v1_0) (some 108) rfl rfl rfl ?q1_0 ?h1_0; (case q1_0 => (intro w' hS; skip; first | (go_simp; done) | (go_simp; rfl))); (try simp only [Act.put, List.setIfInBounds_toArray, List.set_cons_zero, List.set_cons_succ])
      refine perm_q (v := ?v1_2) (some 110) rfl rfl rfl ?q1_2 ?h1_2; (case q1_2 => (intro w' hS; skip; first | (go_simp; done) | (go_simp; rfl))); (try simp only [Act.put, List.setIfInBounds_toArray, List.set_cons_zero, List.set_cons_succ])
      refine perm_q (v := ?v1_3) (some 111) rfl rfl rfl ?q1_3 ?h1_3; (case q1_3 => (intro w' hS; skip; first | (go_simp; done) | (go_simp; rfl))); (try simp only [Act.put, List.setIfInBounds_toArray, List.set_cons_zero, List.set_cons_succ])
      refine perm_q (v := ?v1_4) (some 112) rfl rfl rfl ?q1_4 ?h1_4; (case q1_4 => (intro w' hS; skip; first | (go_simp; done) | (go_simp; rfl))); (try simp only [Act.put, List.setIfInBounds_toArray, List.set_cons_zero, List.set_cons_succ])
      refine perm_q (v := ?v1_5) (some 113) rfl rfl rfl ?q1_5 ?h1_5; (case q1_5 => (intro w' hS; skip; first | (go_simp; done) | (go_simp; rfl))); (try simp only [Act.put, List.setIfInBounds_toArray, List.set_cons_zero, List.set_cons_succ])
      refine perm_e rfl ?_   -- 1: call F31(t108)
      go_wp2_with (go_at_call 31; go_must (refine (Revision_any (HEx.out.after (Keeps.refl Nob wr).drew)).mono ?_; rintro e w2 ⟨rfl, rfl⟩))
      refine ⟨p4, ?_⟩
      refine perm_q (v := ?v1_6) (some 114) rfl rfl rfl ?q1_6 ?h1_6; (case q1_6 => (intro w' hS; skip; first | (go_simp; done) | (go_simp; rfl))); (try simp only [Act.put, List.setIfInBounds_toArray, List.set_cons_zero, List.set_cons_succ])
      refine perm_q (v := ?v1_7) (some 4) rfl rfl rfl ?q1_7 ?h1_7; (case q1_7 => (intro w' hS; skip; first | (go_simp; done) | (go_simp; rfl))); (try simp only [Act.put, List.setIfInBounds_toArray, List.set_cons_zero, List.set_cons_succ])
      refine perm_nil ?_
      go_wp2
      go_ret
      exact ⟨rfl, HKc.out.drew⟩
set_option maxHeartbeats 4000000 in
/-- EQUAL. -/
theorem equal_any (rs : List QRule) (hl : rs.length ≤ 1000) (hal : ∀ r ∈ rs, r.asks.length ≤ 14) (w : World) (X Y : Nat → Prop) (av bv : Value) (ha : RulesX w X av rs) (hb : RulesX w Y bv rs) :
    Calls Tryd.prog 24 #[av, bv] w fun e w' => e = .returned (.bool true) ∧ Keeps Nob w w' := by
  obtain ⟨A, ac, rfl, -, hac⟩ := id ha
  obtain ⟨B, bc, rfl, -, hbc⟩ := id hb
  have Hac := Lib.hid hac
  have Hbc := Lib.hid hbc
  have Hal := Lib.hid hal
  obtain ⟨n, hn⟩ : ∃ n, rs.length = n := ⟨_, rfl⟩
  have Hn := Lib.hid hn
  rw [hn] at hl ⊢
  have hnn : (n != n) = false := by simp
  clear ha hb hac hbc hal hn
  go_enter Tryd.func24, Tryd.ntmps24
  go_wp2
  go_loopw [13] (fun v wr => ∃ k : Nat, v = .int .i64 k ∧ k ≤ n ∧ Hid (Keeps Nob w wr)) (fun v _ => n - (intOf v).toNat)
  case atStart => exact ⟨0, rfl, Nat.zero_le _, Lib.hid (Keeps.refl _ _)⟩
  case round =>
    obtain ⟨k, rfl, hk, HKc⟩ := hrel
    by_cases hlt : k < n
    · obtain ⟨b1, o1, u1, rfl, -, a0, a1, a2, hu1⟩ := Hac.out k (by rw [Hn.out]; exact hlt)
      obtain ⟨b2, o2, u2, rfl, -, d0, d1, d2, hu2⟩ := Hbc.out k (by rw [Hn.out]; exact hlt)
      have hrl := Hal.out (rs.getD k default) (by rw [List.getD_eq_getElem?_getD, List.getElem?_eq_getElem (by rw [Hn.out]; exact hlt)]; exact List.getElem_mem _)
      generalize rs.getD k default = r at *
      obtain ⟨uA, uc, rfl, -, -⟩ := id hu1
      obtain ⟨uB, ud, rfl, -, -⟩ := id hu2
      have a0 := HKc.out.cell a0 id
      have a1 := HKc.out.cell a1 id
      have a2 := HKc.out.cell a2 id
      have d0 := HKc.out.cell d0 id
      have d1 := HKc.out.cell d1 id
      have d2 := HKc.out.cell d2 id
      have Hu1 := Lib.hid (hu1.keep (X' := X) (HKc.out.drew) (fun _ _ _ => id) (fun _ _ h => h))
      have Hu2 := Lib.hid (hu2.keep (X' := Y) (HKc.out.drew) (fun _ _ _ => id) (fun _ _ h => h))
      have hrl2 : r.asks.length ≤ 1000000 := by omega
      have e0 : (r.kind != r.kind) = false := by simp
      have e1 : (r.n != r.n) = false := by simp
      clear hu1 hu2 hrl
      go_wp2_with fail
      refine wp_region_perm [(0, true), (1, true), (2, true), (3, true), (4, true), (5, true), (6, true), (7, true), (8, true), (9, true), (10, true), (11, true), (12, true), (13, true), (14, true), (15, true), (16, true), (17, true), (18, true), (19, true), (20, true), (21, true), (22, true), (23, true), (24, true), (25, true), (26, true), (27, true), (28, true), (29, true), (30, true), (31, true), (32, true), (33, true), (34, true), (35, false), (36, true), (37, true)] (fun w' => (w'.cell? ⟨b1, o1 + k * 3, none⟩ = some (.int .i64 r.kind) ∧ w'.cell? ⟨b1, o1 + k * 3 + 1, none⟩ = some (.int .i64 r.n) ∧ w'.cell? ⟨b1, o1 + k * 3 + 2, none⟩ = some (.slice uA r.asks.length uc)) ∧ w'.cell? ⟨b2, o2 + k * 3, none⟩ = some (.int .i64 r.kind) ∧ w'.cell? ⟨b2, o2 + k * 3 + 1, none⟩ = some (.int .i64 r.n) ∧ w'.cell? ⟨b2, o2 + k * 3 + 2, none⟩ = some (.slice uB r.asks.length ud)) rfl (by kernel_rfl) (by kernel_rfl) (by decide) (fun c a d v w h => by cases d <;> exact h) ⟨⟨a0, a1, a2⟩, d0, d1, d2⟩ ?_
      refine perm_q (v := ?v2_0) (some 16) rfl rfl rfl ?q2_0 ?h2_0; (case q2_0 => (intro w' hS; obtain ⟨⟨z1, z2, z3⟩, z4, z5, z6⟩ := hS; first | (go_simp; done) | (go_simp; rfl))); (try simp only [Act.put, List.setIfInBounds_toArray, List.set_cons_zero, List.set_cons_succ])
      refine perm_q (v := ?v2_1) (some 17) rfl rfl rfl ?q2_1 ?h2_1; (case q2_1 => (intro w' hS; obtain ⟨⟨z1, z2, z3⟩, z4, z5, z6⟩ := hS; first | (go_simp; done) | (go_simp; rfl))); (try simp only [Act.put, List.setIfInBounds_toArray, List.set_cons_zero, List.set_cons_succ])
      refine perm_q (v := ?v2_2) (some 18) rfl rfl rfl ?q2_2 ?h2_2; (case q2_2 => (intro w' hS; obtain ⟨⟨z1, z2, z3⟩, z4, z5, z6⟩ := hS; first | (go_simp; done) | (go_simp; rfl))); (try simp only [Act.put, List.setIfInBounds_toArray, List.set_cons_zero, List.set_cons_succ])
      refine perm_q (v := ?v2_3) (some 19) rfl rfl rfl ?q2_3 ?h2_3; (case q2_3 => (intro w' hS; obtain ⟨⟨z1, z2, z3⟩, z4, z5, z6⟩ := hS; first | (go_simp; done) | (go_simp; rfl))); (try simp only [Act.put, List.setIfInBounds_toArray, List.set_cons_zero, List.set_cons_succ])
      refine perm_q (v := ?v2_4) (some 20) rfl rfl rfl ?q2_4 ?h2_4; (case q2_4 => (intro w' hS; obtain ⟨⟨z1, z2, z3⟩, z4, z5, z6⟩ := hS; first | (go_simp; done) | (go_simp; rfl))); (try simp only [Act.put, List.setIfInBounds_toArray, List.set_cons_zero, List.set_cons_succ])
      refine perm_q (v := ?v2_5) (some 21) rfl rfl rfl ?q2_5 ?h2_5; (case q2_5 => (intro w' hS; obtain ⟨⟨z1, z2, z3⟩, z4, z5, z6⟩ := hS; first | (go_simp; done) | (go_simp; rfl))); (try simp only [Act.put, List.setIfInBounds_toArray, List.set_cons_zero, List.set_cons_succ])
      refine perm_q (v := ?v2_6) (some 22) rfl rfl rfl ?q2_6 ?h2_6; (case q2_6 => (intro w' hS; obtain ⟨⟨z1, z2, z3⟩, z4, z5, z6⟩ := hS; first | (go_simp; done) | (go_simp; rfl))); (try simp only [Act.put, List.setIfInBounds_toArray, List.set_cons_zero, List.set_cons_succ])
      refine perm_q (v := ?v2_7) (some 23) rfl rfl rfl ?q2_7 ?h2_7; (case q2_7 => (intro w' hS; obtain ⟨⟨z1, z2, z3⟩, z4, z5, z6⟩ := hS; first | (go_simp; done) | (go_simp; rfl))); (try simp only [Act.put, List.setIfInBounds_toArray, List.set_cons_zero, List.set_cons_succ])
      refine perm_q (v := ?v2_8) (some 24) rfl rfl rfl ?q2_8 ?h2_8; (case q2_8 => (intro w' hS; obtain ⟨⟨z1, z2, z3⟩, z4, z5, z6⟩ := hS; first | (go_simp; done) | (go_simp; rfl))); (try simp only [Act.put, List.setIfInBounds_toArray, List.set_cons_zero, List.set_cons_succ])
      refine perm_q (v := ?v2_9) (some 25) rfl rfl rfl ?q2_9 ?h2_9; (case q2_9 => (intro w' hS; obtain ⟨⟨z1, z2, z3⟩, z4, z5, z6⟩ := hS; first | (go_simp; done) | (go_simp; rfl))); (try simp only [Act.put, List.setIfInBounds_toArray, List.set_cons_zero, List.set_cons_succ])
      refine perm_q (v := ?v2_10) (some 26) rfl rfl rfl ?q2_10 ?h2_10; (case q2_10 => (intro w' hS; obtain ⟨⟨z1, z2, z3⟩, z4, z5, z6⟩ := hS; first | (go_simp; done) | (go_simp; rfl))); (try simp only [Act.put, List.setIfInBounds_toArray, List.set_cons_zero, List.set_cons_succ])
      refine perm_q (v := ?v2_11) (some 27) rfl rfl rfl ?q2_11 ?h2_11; (case q2_11 => (intro w' hS; obtain ⟨⟨z1, z2, z3⟩, z4, z5, z6⟩ := hS; first | (go_simp; done) | (go_simp; rfl))); (try simp only [Act.put, List.setIfInBounds_toArray, List.set_cons_zero, List.set_cons_succ])
      refine perm_q (v := ?v2_12) (some 28) rfl rfl rfl ?q2_12 ?h2_12; (case q2_12 => (intro w' hS; obtain ⟨⟨z1, z2, z3⟩, z4, z5, z6⟩ := hS; first | (go_simp; done) | (go_simp; rfl))); (try simp only [Act.put, List.setIfInBounds_toArray, List.set_cons_zero, List.set_cons_succ])
      refine perm_q (v := ?v2_13) (some 29) rfl rfl rfl ?q2_13 ?h2_13; (case q2_13 => (intro w' hS; obtain ⟨⟨z1, z2, z3⟩, z4, z5, z6⟩ := hS; first | (go_simp; done) | (go_simp; rfl))); (try simp only [Act.put, List.setIfInBounds_toArray, List.set_cons_zero, List.set_cons_succ])
      refine perm_q (v := ?v2_14) (some 30) rfl rfl rfl ?q2_14 ?h2_14; (case q2_14 => (intro w' hS; obtain ⟨⟨z1, z2, z3⟩, z4, z5, z6⟩ := hS; first | (go_simp; done) | (go_simp; rfl))); (try simp only [Act.put, List.setIfInBounds_toArray, List.set_cons_zero, List.set_cons_succ])
      refine perm_q (v := ?v2_15) (some 31) rfl rfl rfl ?q2_15 ?h2_15; (case q2_15 => (intro w' hS; obtain ⟨⟨z1, z2, z3⟩, z4, z5, z6⟩ := hS; first | (go_simp; done) | (go_simp; rfl))); (try simp only [Act.put, List.setIfInBounds_toArray, List.set_cons_zero, List.set_cons_succ])
      refine perm_q (v := ?v2_16) (some 32) rfl rfl rfl ?q2_16 ?h2_16; (case q2_16 => (intro w' hS; obtain ⟨⟨z1, z2, z3⟩, z4, z5, z6⟩ := hS; first | (go_simp; done) | (go_simp; rfl))); (try simp only [Act.put, List.setIfInBounds_toArray, List.set_cons_zero, List.set_cons_succ])
      refine perm_q (v := ?v2_17) (some 33) rfl rfl rfl ?q2_17 ?h2_17; (case q2_17 => (intro w' hS; obtain ⟨⟨z1, z2, z3⟩, z4, z5, z6⟩ := hS; first | (go_simp; done) | (go_simp; rfl))); (try simp only [Act.put, List.setIfInBounds_toArray, List.set_cons_zero, List.set_cons_succ])
      refine perm_q (v := ?v2_18) (some 34) rfl rfl rfl ?q2_18 ?h2_18; (case q2_18 => (intro w' hS; obtain ⟨⟨z1, z2, z3⟩, z4, z5, z6⟩ := hS; first | (go_simp; done) | (go_simp; rfl))); (try simp only [Act.put, List.setIfInBounds_toArray, List.set_cons_zero, List.set_cons_succ])
      refine perm_q (v := ?v2_19) (some 35) rfl rfl rfl ?q2_19 ?h2_19; (case q2_19 => (intro w' hS; obtain ⟨⟨z1, z2, z3⟩, z4, z5, z6⟩ := hS; first | (go_simp; done) | (go_simp; rfl))); (try simp only [Act.put, List.setIfInBounds_toArray, List.set_cons_zero, List.set_cons_succ])
      refine perm_q (v := ?v2_20) (some 36) rfl rfl rfl ?q2_20 ?h2_20; (case q2_20 => (intro w' hS; obtain ⟨⟨z1, z2, z3⟩, z4, z5, z6⟩ := hS; first | (go_simp; done) | (go_simp; rfl))); (try simp only [Act.put, List.setIfInBounds_toArray, List.set_cons_zero, List.set_cons_succ])
      refine perm_q (v := ?v2_21) (some 37) rfl rfl rfl ?q2_21 ?h2_21; (case q2_21 => (intro w' hS; obtain ⟨⟨z1, z2, z3⟩, z4, z5, z6⟩ := hS; first | (go_simp; done) | (go_simp; rfl))); (try simp only [Act.put, List.setIfInBounds_toArray, List.set_cons_zero, List.set_cons_succ])
      refine perm_q (v := ?v2_22) (some 38) rfl rfl rfl ?q2_22 ?h2_22; (case q2_22 => (intro w' hS; obtain ⟨⟨z1, z2, z3⟩, z4, z5, z6⟩ := hS; first | (go_simp; done) | (go_simp; rfl))); (try simp only [Act.put, List.setIfInBounds_toArray, List.set_cons_zero, List.set_cons_succ])
      refine perm_q (v := ?v2_23) (some 39) rfl rfl rfl ?q2_23 ?h2_23; (case q2_23 => (intro w' hS; obtain ⟨⟨z1, z2, z3⟩, z4, z5, z6⟩ := hS; first | (go_simp; done) | (go_simp; rfl))); (try simp only [Act.put, List.setIfInBounds_toArray, List.set_cons_zero, List.set_cons_succ])
      refine perm_q (v := ?v2_24) (some 40) rfl rfl rfl ?q2_24 ?h2_24; (case q2_24 => (intro w' hS; obtain ⟨⟨z1, z2, z3⟩, z4, z5, z6⟩ := hS; first | (go_simp; done) | (go_simp; rfl))); (try simp only [Act.put, List.setIfInBounds_toArray, List.set_cons_zero, List.set_cons_succ])
      refine perm_q (v := ?v2_25) (some 41) rfl rfl rfl ?q2_25 ?h2_25; (case q2_25 => (intro w' hS; obtain ⟨⟨z1, z2, z3⟩, z4, z5, z6⟩ := hS; first | (go_simp; done) | (go_simp; rfl))); (try simp only [Act.put, List.setIfInBounds_toArray, List.set_cons_zero, List.set_cons_succ])
      refine perm_q (v := ?v2_26) (some 42) rfl rfl rfl ?q2_26 ?h2_26; (case q2_26 => (intro w' hS; obtain ⟨⟨z1, z2, z3⟩, z4, z5, z6⟩ := hS; first | (go_simp; done) | (go_simp; rfl))); (try simp only [Act.put, List.setIfInBounds_toArray, List.set_cons_zero, List.set_cons_succ])
      refine perm_q (v := ?v2_27) (some 43) rfl rfl rfl ?q2_27 ?h2_27; (case q2_27 => (intro w' hS; obtain ⟨⟨z1, z2, z3⟩, z4, z5, z6⟩ := hS; first | (go_simp; done) | (go_simp; rfl))); (try simp only [Act.put, List.setIfInBounds_toArray, List.set_cons_zero, List.set_cons_succ])
      refine perm_q (v := ?v2_28) (some 44) rfl rfl rfl ?q2_28 ?h2_28; (case q2_28 => (intro w' hS; obtain ⟨⟨z1, z2, z3⟩, z4, z5, z6⟩ := hS; first | (go_simp; done) | (go_simp; rfl))); (try simp only [Act.put, List.setIfInBounds_toArray, List.set_cons_zero, List.set_cons_succ])
      refine perm_q (v := ?v2_29) (some 45) rfl rfl rfl ?q2_29 ?h2_29; (case q2_29 => (intro w' hS; obtain ⟨⟨z1, z2, z3⟩, z4, z5, z6⟩ := hS; first | (go_simp; done) | (go_simp; rfl))); (try simp only [Act.put, List.setIfInBounds_toArray, List.set_cons_zero, List.set_cons_succ])
      refine perm_q (v := ?v2_30) (some 46) rfl rfl rfl ?q2_30 ?h2_30; (case q2_30 => (intro w' hS; obtain ⟨⟨z1, z2, z3⟩, z4, z5, z6⟩ := hS; first | (go_simp; done) | (go_simp; rfl))); (try simp only [Act.put, List.setIfInBounds_toArray, List.set_cons_zero, List.set_cons_succ])
      refine perm_q (v := ?v2_31) (some 47) rfl rfl rfl ?q2_31 ?h2_31; (case q2_31 => (intro w' hS; obtain ⟨⟨z1, z2, z3⟩, z4, z5, z6⟩ := hS; first | (go_simp; done) | (go_simp; rfl))); (try simp only [Act.put, List.setIfInBounds_toArray, List.set_cons_zero, List.set_cons_succ])
      refine perm_q (v := ?v2_32) (some 48) rfl rfl rfl ?q2_32 ?h2_32; (case q2_32 => (intro w' hS; obtain ⟨⟨z1, z2, z3⟩, z4, z5, z6⟩ := hS; first | (go_simp; done) | (go_simp; rfl))); (try simp only [Act.put, List.setIfInBounds_toArray, List.set_cons_zero, List.set_cons_succ])
      refine perm_q (v := ?v2_33) (some 49) rfl rfl rfl ?q2_33 ?h2_33; (case q2_33 => (intro w' hS; obtain ⟨⟨z1, z2, z3⟩, z4, z5, z6⟩ := hS; first | (go_simp; done) | (go_simp; rfl))); (try simp only [Act.put, List.setIfInBounds_toArray, List.set_cons_zero, List.set_cons_succ])
      refine perm_q (v := ?v2_34) (some 50) rfl rfl rfl ?q2_34 ?h2_34; (case q2_34 => (intro w' hS; obtain ⟨⟨z1, z2, z3⟩, z4, z5, z6⟩ := hS; first | (go_simp; done) | (go_simp; rfl))); (try simp only [Act.put, List.setIfInBounds_toArray, List.set_cons_zero, List.set_cons_succ])
      refine perm_e rfl ?_   -- 35: call F32(t45, t50)
      have hrun := same_any r.asks r.asks _ _ _ _ _ Hu1.out Hu2.out hrl2
      rw [decide_eq_true rfl] at hrun
      go_wp2_with (go_at_call 32; go_must (refine hrun.mono ?_; rintro e w2 ⟨rfl, hk2⟩))
      have HK2 := Lib.hid (HKc.out.trans ((Keeps.refl Nob wr).drew.trans hk2 (fun _ _ h => h)) (fun _ _ h => h))
      refine ⟨⟨⟨hk2.cell (w := wr.drew) a0 id, hk2.cell (w := wr.drew) a1 id, hk2.cell (w := wr.drew) a2 id⟩, hk2.cell (w := wr.drew) d0 id, hk2.cell (w := wr.drew) d1 id, hk2.cell (w := wr.drew) d2 id⟩, ?_⟩
      clear hrun hk2
      refine perm_q (v := ?v2_36) (some 52) rfl rfl rfl ?q2_36 ?h2_36; (case q2_36 => (intro w' hS; obtain ⟨⟨z1, z2, z3⟩, z4, z5, z6⟩ := hS; first | (go_simp; done) | (go_simp; rfl))); (try simp only [Act.put, List.setIfInBounds_toArray, List.set_cons_zero, List.set_cons_succ])
      refine perm_q (v := ?v2_37) (some 53) rfl rfl rfl ?q2_37 ?h2_37; (case q2_37 => (intro w' hS; obtain ⟨⟨z1, z2, z3⟩, z4, z5, z6⟩ := hS; first | (go_simp; done) | (go_simp; rfl))); (try simp only [Act.put, List.setIfInBounds_toArray, List.set_cons_zero, List.set_cons_succ])
      refine perm_nil ?_
      go_wp2
      go_roundw
      case rel => exact ⟨k + 1, by go_num, by omega, HK2⟩
      case measure => simp [intOf]; omega
    · have hk' : k = n := by omega
      subst hk'
      go_wp2
      go_ret
      exact ⟨rfl, HKc.out⟩
end Go.Proofs.QW
