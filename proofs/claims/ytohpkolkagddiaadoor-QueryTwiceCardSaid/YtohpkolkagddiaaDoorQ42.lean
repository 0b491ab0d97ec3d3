/-
  Forget of an engine that lives, and Ask with a bound below 0; what a call of Ask leaves, whatever is asked. Condition: the engine lies.
-/
import Derived.Test.YtohpkolkagddiaaDoorQ41
namespace Go.Proofs.QW
open Go.RowKit Go.Proofs.KL Go.Proofs.QM
set_option maxRecDepth 100000
set_option linter.unusedSimpArgs false
set_option linter.unusedVariables false

set_option maxHeartbeats 2000000 in
/-- Ask with a bound below 0. -/
theorem Ask_neg {E : Env} (w : World) (X : Nat → Prop) (eb ib mb : Nat) (ans : List (Option KeptR)) (q most : Int) (he : EngAt w X eb ib mb E ans) (h200 : E.rules.length ≤ 200) (hq : isErr E.rules.length q = 0) (hneg : most < 0) :
    Calls Tryd.prog 18 #[.pointer (some ⟨eb, 0, none⟩), .int .i64 q, .int .i64 most] w fun e w' => e = .returned (.tuple #[.int .i64 0, .slice none 0 0, .int .i64 2]) ∧ Keeps Nob w w' := by
  obtain ⟨A, cc, cc', b0, b1, b2, b3, hrx⟩ := he.cells
  obtain ⟨i3, hi3, hs3⟩ := infoS3
  obtain ⟨i23, hi23, hs23⟩ := info23
  obtain ⟨i25, hi25, hs25⟩ := info25
  have HI := Lib.hid (And.intro (And.intro hi3 hs3) (And.intro (And.intro hi23 hs23) (And.intro hi25 hs25)))
  have hE0 := hq
  have HE0 := Lib.hid hE0
  have hmf : ∀ (fn : Fn) (first cap : Array Value) (w : World), (Instr.makeFunc fn first cap).run Tryd.prog w = .ok (.func fn first cap) w := fun _ _ _ _ => rfl
  clear hi3 hs3 hi23 hs23 hi25 hs25 hE0 hrx he b1 b3 hq
  go_enter_defers Tryd.func18, Tryd.ntmps18
  go_wp2_with (first
    | ((with_reducible refine at_dst (N := 6) rfl ?_); go_must (refine ev_alloc rfl rfl zero3 rfl ?_; intro g6 w1 hg6 hl6 hb6 hk1); have Hb6 := Lib.hid hb6; clear hb6; (try simp only [Act.put, List.setIfInBounds_toArray, List.set_cons_zero, List.set_cons_succ]))
    | ((with_reducible refine at_dst (N := 7) rfl ?_); go_must (refine ev_alloc rfl rfl zero23 rfl ?_; intro g7 w2 hg7 hl7 hb7 hk2); have Hb7 := Lib.hid hb7; clear hb7; (try simp only [Act.put, List.setIfInBounds_toArray, List.set_cons_zero, List.set_cons_succ]))
    | ((with_reducible refine at_dst (N := 8) rfl ?_); go_must (refine ev_alloc rfl rfl zero25 rfl ?_; intro g8 w3 hg8 hl8 hb8 hk3); have Hb8 := Lib.hid hb8; clear hb8
       have b0 := hk3.cell (hk2.cell (hk1.cell b0 id) id) id
       have b2 := hk3.cell (hk2.cell (hk1.cell b2 id) id) id
       (try simp only [Act.put, List.setIfInBounds_toArray, List.set_cons_zero, List.set_cons_succ]))
    | (go_at_call 38; go_must (refine (is_some eb mb q A E.rules.length cc w3 b2 b0 h200).mono ?_; rintro e w' ⟨rfl, rfl⟩; rw [HE0.out]))
    | ((with_reducible refine at_store (t := 3) rfl ?_); go_must (refine ev_store (cs' := #[.int .i64 0]) rfl rfl rfl rfl rfl rfl HI.out.1.1 HI.out.1.2 rfl (hk3.blk (hk2.blk Hb6.out id) id) (Nat.le_of_ble_eq_true rfl) rfl ?_; intro w4 hb4 hk4); (try simp only [Act.put, List.setIfInBounds_toArray, List.set_cons_zero, List.set_cons_succ]))
    | ((with_reducible refine at_store (t := 23) rfl ?_); go_must (refine ev_store (cs' := #[.slice none 0 0]) rfl rfl rfl rfl rfl rfl HI.out.2.1.1 HI.out.2.1.2 rfl (hk4.blk (hk3.blk Hb7.out id) (by show g7 ≠ g6; omega)) (Nat.le_of_ble_eq_true rfl) rfl ?_; intro w5 hb5 hk5); (try simp only [Act.put, List.setIfInBounds_toArray, List.set_cons_zero, List.set_cons_succ]))
    | ((with_reducible refine at_store (t := 25) rfl ?_); go_must (refine ev_store (cs' := #[.int .i64 2]) rfl rfl rfl rfl rfl rfl HI.out.2.2.1 HI.out.2.2.2 rfl (hk5.blk (hk4.blk Hb8.out (by show g8 ≠ g6; have := hk2.size; omega)) (by show g8 ≠ g7; omega)) (Nat.le_of_ble_eq_true rfl) rfl ?_; intro w6 hb6' hk6); (try simp only [Act.put, List.setIfInBounds_toArray, List.set_cons_zero, List.set_cons_succ])))
  have z1 := hk1.size
  have z2 := hk2.size
  have z3 := hk3.size
  have r6 : w6.cell? ⟨g6, 0, none⟩ = some (.int .i64 0) := (blk_cell (hk6.blk (hk5.blk hb4 (by show g6 ≠ g7; omega)) (by show g6 ≠ g8; omega)) 0).trans rfl
  have r7 : w6.cell? ⟨g7, 0, none⟩ = some (.slice none 0 0) := (blk_cell (hk6.blk hb5 (by show g7 ≠ g8; omega)) 0).trans rfl
  have r8 : w6.cell? ⟨g8, 0, none⟩ = some (.int .i64 2) := (blk_cell hb6' 0).trans rfl
  (try simp only [Exit.inBlock, Exit.then])
  refine ⟨_, results_cells3 (x := .int .i64 0) (y := .slice none 0 0) (z := .int .i64 2) rfl _ _ rfl rfl rfl (by go_simp) (by go_simp) (by go_simp), rfl, ?_⟩
  exact (((((hk1.trans hk2 (fun _ _ h => h)).trans hk3 (fun _ _ h => h)).own hk4 (by omega)).own hk5 (by omega)).own hk6 (by omega))
/-- The map loses a question. -/
theorem AnsX.drop {w w' : World} {X : Nat → Prop} {mb n : Nat} {ans : List (Option KeptR)} {es es' : Array MapEntry} {c c' : Nat} {q : Int} (hm : w.heap[mb]? = some (.map es c)) (h : AnsX w X mb n ans) (hb : w'.heap[mb]? = some (.map es' c')) (hkey : IntKeyed es'.toList) (hk : Keeps (· = mb) w w') (xm : ¬ X mb) (hq : 0 ≤ q)
    (hl : ∀ q', mlook es'.toList q' = if q' = q then none else mlook es.toList q') : AnsX w' X mb n (ans.set q.toNat none) := by
  obtain ⟨es0, c0, h0, _, hout, hans⟩ := h
  obtain ⟨rfl, rfl⟩ : es0 = es ∧ c0 = c := by have := h0.symm.trans hm; injection this with this; injection this with h1 h2; exact ⟨h1, h2⟩
  refine ⟨es', c', hb, hkey, fun p hp => ?_, fun p p0 p1 => ?_⟩
  · rw [hl]; split
    · rfl
    · exact hout p hp
  · rw [hl, getD_set_none]
    by_cases e : p = q
    · subst e; rw [if_pos rfl, if_pos rfl]
    · rw [if_neg e, if_neg (by omega)]
      have := hans p p0 p1
      split at this
      · obtain ⟨v, hv, hx⟩ := this
        exact ⟨v, hv, hx.keep hk (fun b _ hx e => xm (e ▸ hx)) (fun _ _ h => h)⟩
      · exact this
theorem EngAt.dropped {w w' : World} {X : Nat → Prop} {eb ib mb : Nat} {E : Env} {ans : List (Option KeptR)} {es es' : Array MapEntry} {c c' : Nat} {q : Int} (h : EngAt w X eb ib mb E ans) (hm : w.heap[mb]? = some (.map es c)) (hb : w'.heap[mb]? = some (.map es' c')) (hkey : IntKeyed es'.toList) (hk : Keeps (· = mb) w w') (hq : 0 ≤ q)
    (hl : ∀ q', mlook es'.toList q' = if q' = q then none else mlook es.toList q') : EngAt w' X eb ib mb E (ans.set q.toNat none) := by
  obtain ⟨⟨rv, cc, heb, hrx⟩, ⟨cs, hib, hci⟩, hans, xe, xi, xm⟩ := h
  have n1 : eb ≠ mb := fun e => by subst e; have := heb.symm.trans hm; injection this with this; cases this
  have n2 : ib ≠ mb := fun e => by subst e; have := hib.symm.trans hm; injection this with this; cases this
  exact ⟨⟨rv, cc, hk.blk heb n1, hrx.keep hk (fun b _ hx e => xm (e ▸ hx)) (fun _ _ h => h)⟩, ⟨cs, hk.blk hib n2, hci⟩, AnsX.drop hm hans hb hkey hk xm hq hl, xe, xi, xm⟩
set_option maxHeartbeats 2000000 in
/-- FORGET. -/
theorem Forget_any (X : Nat → Prop) (eb ib mb : Nat) (E : Env) (ans : List (Option KeptR)) (q : Int) (w : World) (h : EngAt w X eb ib mb E ans) (hl : E.rules.length ≤ 200) :
    Calls Tryd.prog 30 #[.pointer (some ⟨eb, 0, none⟩), .int .i64 q] w fun e w' => e = .returned (.int .i64 (forgetF E ans q).2) ∧ Keeps (· = mb) w w' ∧ EngAt w' X eb ib mb E (forgetF E ans q).1 := by
  have HE := Lib.hid h
  obtain ⟨R, hR⟩ : ∃ r, forgetF E ans q = r := ⟨_, rfl⟩
  rw [hR]
  unfold forgetF at hR
  obtain ⟨⟨rv, c, hb, hr⟩, ⟨cs, hib, hinp⟩, ⟨es, cl, hmb, hkey, hout, hans⟩, _, _, _⟩ := h
  have hr0 := hr
  obtain ⟨A, cc, rfl, hcc, hrx⟩ := hr0
  have e0 := (blk_cell hb 0).trans rfl
  have e2 := (blk_cell hb 2).trans rfl
  have Hr := Lib.hid hr
  have Hmb := Lib.hid hmb
  have Hkey := Lib.hid hkey
  have Hans := Lib.hid hans
  clear hr hb hrx hmb hinp hib hkey hans hout
  by_cases hq : isErr E.rules.length q ≠ 0
  · have hE : isErr E.rules.length q = 5 := by unfold isErr at hq ⊢; split at hq; rw [if_pos (by assumption)]; exact absurd rfl hq
    rw [if_pos hq] at hR
    have HR := Lib.hid hR
    have HEr := Lib.hid hE
    clear hE hq hR
    go_enter Tryd.func30, Tryd.ntmps30
    go_wp2_with (go_at_call 38; go_must (refine (is_some _ _ _ _ _ _ _ (by assumption) (by assumption) hl).mono ?_; rintro e w' ⟨rfl, rfl⟩; rw [HEr.out]))
    go_ret
    rw [← HR.out]
    exact ⟨rfl, Keeps.refl _ _, HE.out⟩
  · have hE : isErr E.rules.length q = 0 := by omega
    obtain ⟨hq0, hq1⟩ := isErr_in hq
    rw [if_neg hq] at hR
    have HEr := Lib.hid hE
    clear hE hq
    have hin : (E.rules.getD q.toNat default).kind = (E.rule q).kind := rfl
    by_cases hk : (E.rule q).kind = 1
    · rw [if_pos hk] at hR
      have HR := Lib.hid hR
      have hkb : ((E.rule q).kind == 1) = true := by rw [hk]; rfl
      have HI := Lib.hid (And.intro hin hkb)
      clear hin hkb hk hR
      go_enter Tryd.func30, Tryd.ntmps30
      go_wp2_with (first | (go_at_call 38; go_must (refine (is_some _ _ _ _ _ _ _ (by assumption) (by assumption) hl).mono ?_; rintro e w' ⟨rfl, rfl⟩; rw [HEr.out])) | (go_at_call 37; go_must (refine (input_any _ _ E.rules X _ _ (by assumption) Hr.out hq0 hq1 hl).mono ?_; rintro e w' ⟨rfl, rfl⟩; rw [HI.out.1, HI.out.2])))
      go_ret
      rw [← HR.out]
      exact ⟨rfl, Keeps.refl _ _, HE.out⟩
    · rw [if_neg hk] at hR
      have hkb : ((E.rule q).kind == 1) = false := by simpa using hk
      have HI := Lib.hid (And.intro hin hkb)
      obtain ⟨i85, hi85, hs85⟩ := info85
      obtain ⟨u, hv, ⟨uA, uc, rfl, _, _⟩, hsm⟩ := AnsX.get hq0 hq1 Hans.out
      obtain ⟨was, hwas⟩ : ∃ x, ans.getD q.toNat none = x := ⟨_, rfl⟩
      rw [hwas] at hR hv hsm
      generalize hkd : was.getD k0 = k at *
      have Hv := Lib.hid hv
      have Hs85 := Lib.hid hs85
      have Hi85 := Lib.hid hi85
      have HR := Lib.hid hR
      clear hv hs85 hi85 hR hin hkb hk hkd hwas
      cases was with
      | none =>
        have Hsm := Lib.hid (show (mlook es.toList q).isSome = false from hsm)
        have HR2 := Lib.hid (show ((ans, 8) : List (Option KeptR) × Int) = R from HR.out)
        clear hsm HR
        go_enter Tryd.func30, Tryd.ntmps30
        go_wp2_with (first
          | (go_at_call 38; go_must (refine (is_some _ _ _ _ _ _ _ (by assumption) (by assumption) hl).mono ?_; rintro e w' ⟨rfl, rfl⟩; rw [HEr.out]))
          | (go_at_call 37; go_must (refine (input_any _ _ E.rules X _ _ (by assumption) Hr.out hq0 hq1 hl).mono ?_; rintro e w' ⟨rfl, rfl⟩; rw [HI.out.1, HI.out.2]))
          | ((with_reducible refine at_dst (N := 25) rfl ?_); go_must (refine ev_lookup_ok rfl rfl Tryd.underlying61 Tryd.underlying3 zero85 rfl rfl Hmb.out Hkey.out ?_; rw [Hv.out, Hsm.out]); (try simp only [Act.put, List.setIfInBounds_toArray, List.set_cons_zero, List.set_cons_succ]))
          | ((with_reducible refine at_dst (N := 6) rfl ?_); go_must (refine ev_alloc rfl rfl zero85 rfl ?_; intro g1 w1 hg1 hl1 hb1 hk1); have Hb1 := Lib.hid hb1; clear hb1; (try simp only [Act.put, List.setIfInBounds_toArray, List.set_cons_zero, List.set_cons_succ]))
          | ((with_reducible refine at_store (t := 85) rfl ?_); go_must (refine ev_store (cs' := #[.int .i64 k.value, .slice uA k.asked.length uc, .int .i64 k.checked, .int .i64 k.changed]) rfl rfl rfl rfl rfl rfl Hi85.out Hs85.out rfl Hb1.out (Nat.le_of_ble_eq_true rfl) rfl ?_; intro w2 hb2 hk2); (try simp only [Act.put, List.setIfInBounds_toArray, List.set_cons_zero, List.set_cons_succ])))
        go_ret
        rw [← HR2.out]
        have hkk : Keeps Nob w w2 := hk1.own hk2 hg1
        exact ⟨rfl, hkk.mono (fun _ _ h => h.elim), HE.out.keep hkk id id id (fun _ _ _ => id) (fun _ _ => Iff.rfl)⟩
      | some kk =>
        have Hsm := Lib.hid (show (mlook es.toList q).isSome = true from hsm)
        have HR2 := Lib.hid (show ((ans.set q.toNat none, 0) : List (Option KeptR) × Int) = R from HR.out)
        clear hsm HR
        go_enter Tryd.func30, Tryd.ntmps30
        go_wp2_with (first
          | (go_at_call 38; go_must (refine (is_some _ _ _ _ _ _ _ (by assumption) (by assumption) hl).mono ?_; rintro e w' ⟨rfl, rfl⟩; rw [HEr.out]))
          | (go_at_call 37; go_must (refine (input_any _ _ E.rules X _ _ (by assumption) Hr.out hq0 hq1 hl).mono ?_; rintro e w' ⟨rfl, rfl⟩; rw [HI.out.1, HI.out.2]))
          | ((with_reducible refine at_dst (N := 25) rfl ?_); go_must (refine ev_lookup_ok rfl rfl Tryd.underlying61 Tryd.underlying3 zero85 rfl rfl Hmb.out Hkey.out ?_; rw [Hv.out, Hsm.out]); (try simp only [Act.put, List.setIfInBounds_toArray, List.set_cons_zero, List.set_cons_succ]))
          | ((with_reducible refine at_dst (N := 6) rfl ?_); go_must (refine ev_alloc rfl rfl zero85 rfl ?_; intro g1 w1 hg1 hl1 hb1 hk1); have Hb1 := Lib.hid hb1; clear hb1; (try simp only [Act.put, List.setIfInBounds_toArray, List.set_cons_zero, List.set_cons_succ]))
          | ((with_reducible refine at_store (t := 85) rfl ?_); go_must (refine ev_store (cs' := #[.int .i64 k.value, .slice uA k.asked.length uc, .int .i64 k.checked, .int .i64 k.changed]) rfl rfl rfl rfl rfl rfl Hi85.out Hs85.out rfl Hb1.out (Nat.le_of_ble_eq_true rfl) rfl ?_; intro w2 hb2 hk2)
             have hkk : Keeps Nob w w2 := hk1.own hk2 hg1
             have HKK := Lib.hid hkk
             have e2 := hkk.cell e2 id
             have Hmb2 := Lib.hid (hkk.blk Hmb.out id)
             clear hkk
             (try simp only [Act.put, List.setIfInBounds_toArray, List.set_cons_zero, List.set_cons_succ]))
          | (refine at_delete rfl ?_; go_must (refine ev_delete (q := q) rfl rfl rfl Tryd.underlying61 Tryd.underlying3 rfl rfl Hmb2.out Hkey.out ?_; intro es3 c3 w3 hb3 hkey3 hl3 hk3); have Hl3 := Lib.hid hl3; clear hl3; (try simp only [Act.put, List.setIfInBounds_toArray, List.set_cons_zero, List.set_cons_succ])))
        go_ret
        rw [← HR2.out]
        have hE2 := HE.out.keep HKK.out id id id (fun _ _ _ => id) (fun _ _ => Iff.rfl)
        exact ⟨rfl, (HKK.out.mono (fun _ _ h => h.elim)).trans hk3 (fun _ _ h => h), hE2.dropped Hmb2.out hb3 hkey3 hk3 hq0 Hl3.out⟩
end Go.Proofs.QW
