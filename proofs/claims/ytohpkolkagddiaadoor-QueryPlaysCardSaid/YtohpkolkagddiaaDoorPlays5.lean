/-
  A kept answer that must be there (found), what it asked (Asked) and when (When), of an engine that lives, in memory. Condition: the engine lies.
-/
import Derived.Test.YtohpkolkagddiaaDoorPlays4
import Derived.Laws.Externs
import Derived.MapKept
namespace Go.Proofs.QW
open Go.RowKit Go.Proofs.KL Go.Proofs.QM
set_option maxRecDepth 100000
set_option linter.unusedSimpArgs false
set_option linter.unusedVariables false

def foundF (E : Env) (ans : List (Option KeptR)) (q : Int) : KeptR × Int :=
  if isErr E.rules.length q ≠ 0 then (k0, 5)
  else if (E.rule q).kind = 1 then (⟨E.inp.getD q.toNat 0, [], E.rev, E.inpCh.getD q.toNat 0⟩, 0)
  else match ans.getD q.toNat none with
    | none => (k0, 8)
    | some k => (k, 0)
set_option maxHeartbeats 4000000 in
/-- FOUND. -/
theorem Found_any (X : Nat → Prop) (eb ib mb : Nat) (E : Env) (ans : List (Option KeptR)) (q : Int) (w : World) (h : EngAt w X eb ib mb E ans) (hl : E.rules.length ≤ 200) :
    Calls Tryd.prog 41 #[.pointer (some ⟨eb, 0, none⟩), .int .i64 q] w fun e w' => ∃ u, e = .returned (.tuple #[.agg #[.int .i64 (foundF E ans q).1.value, u, .int .i64 (foundF E ans q).1.checked, .int .i64 (foundF E ans q).1.changed], .int .i64 (foundF E ans q).2]) ∧ Keeps Nob w w' ∧ IntsX w' X u (foundF E ans q).1.asked := by
  obtain ⟨R, hR⟩ : ∃ r, foundF E ans q = r := ⟨_, rfl⟩
  rw [hR]
  unfold foundF at hR
  obtain ⟨⟨rv, c, hb, hr⟩, ⟨cs, hib, hinp⟩, ⟨es, cl, hmb, hkey, hout, hans⟩, _, _, _⟩ := h
  have hr0 := hr
  obtain ⟨A, cc, rfl, hcc, hrx⟩ := hr0
  have e0 := (blk_cell hb 0).trans rfl
  have e1 := (blk_cell hb 1).trans rfl
  have e2 := (blk_cell hb 2).trans rfl
  have e3 := (blk_cell hb 3).trans rfl
  have Hr := Lib.hid hr
  have Hmb := Lib.hid hmb
  have Hkey := Lib.hid hkey
  have Hans := Lib.hid hans
  have Hinp := Lib.hid hinp
  have Hib := Lib.hid hib
  obtain ⟨i85, hi85, hs85⟩ := info85
  obtain ⟨i3, hi3, hs3⟩ := infoS3
  have HJ := Lib.hid (And.intro (And.intro hi85 hs85) (And.intro hi3 hs3))
  clear hr hb hrx hmb hinp hib hkey hans hout hi85 hs85 hi3 hs3
  by_cases hq : isErr E.rules.length q ≠ 0
  · have hE : isErr E.rules.length q = 5 := by unfold isErr at hq ⊢; split at hq; rw [if_pos (by assumption)]; exact absurd rfl hq
    rw [if_pos hq] at hR
    have HR := Lib.hid hR
    have HEr := Lib.hid hE
    clear hE hq hR
    go_enter Tryd.func41, Tryd.ntmps41
    go_wp2_with (first
      | ((with_reducible refine at_dst (N := 4) rfl ?_); go_must (refine ev_alloc rfl rfl zero85 rfl ?_; intro g4 w1 hg4 hl4 hb4 hk1)
         have Hb4 := Lib.hid hb4
         have e0 := hk1.cell e0 id
         have e1 := hk1.cell e1 id
         have e2 := hk1.cell e2 id
         have e3 := hk1.cell e3 id
         have HK1 := Lib.hid hk1
         have Hrr := Lib.hid (Hr.out.keep (X' := X) hk1 (fun _ _ _ => id) (fun _ _ h => h))
         clear hb4
         (try simp only [Act.put, List.setIfInBounds_toArray, List.set_cons_zero, List.set_cons_succ]))
      | (go_at_call 38; go_must (refine (is_some _ _ _ _ _ _ _ (by assumption) (by assumption) hl).mono ?_; rintro e w' ⟨rfl, rfl⟩; rw [HEr.out]))
      | ((with_reducible refine at_store (t := 85) (p := 4) rfl ?_); go_must (refine ev_store (cs' := #[.int .i64 0, .slice none 0 0, .int .i64 0, .int .i64 0]) rfl rfl rfl rfl rfl rfl HJ.out.1.1 HJ.out.1.2 rfl Hb4.out (Nat.le_of_ble_eq_true rfl) rfl ?_; intro w2 hbz hk2); (try simp only [Act.put, List.setIfInBounds_toArray, List.set_cons_zero, List.set_cons_succ])))
    have r0 := (blk_cell hbz 0).trans rfl
    have r1 := (blk_cell hbz 1).trans rfl
    have r2 := (blk_cell hbz 2).trans rfl
    have r3 := (blk_cell hbz 3).trans rfl
    refine bodyPost_ret (v := .tuple #[.agg #[.int .i64 0, .slice none 0 0, .int .i64 0, .int .i64 0], .int .i64 5]) (by rw [results_cell_tmp rfl]; go_simp; try rfl) rfl ?_
    rw [← HR.out]
    exact ⟨.slice none 0 0, rfl, hk1.own hk2 hg4, nil_ints _ _⟩
  · have hE : isErr E.rules.length q = 0 := by omega
    obtain ⟨hq0, hq1⟩ := isErr_in hq
    rw [if_neg hq] at hR
    have HEr := Lib.hid hE
    clear hE hq
    have hin : (E.rules.getD q.toNat default).kind = (E.rule q).kind := rfl
    by_cases hk : (E.rule q).kind = 1
    · rw [if_pos hk] at hR
      have HR := Lib.hid hR
      have hkb : ((E.rule q).kind == 1) = true := by rw [hk]; rfl
      have HI := Lib.hid (And.intro hin hkb)
      obtain ⟨i, rfl⟩ := Int.eq_ofNat_of_zero_le hq0
      have hqi : i < E.rules.length := by omega
      obtain ⟨d0, d1, d2, d3⟩ := Hinp.out i hqi
      have d0 := (blk_cell Hib.out (i * 4)).trans d0
      have d1 := (blk_cell Hib.out (i * 4 + 1)).trans d1
      have d2 := (blk_cell Hib.out (i * 4 + 2)).trans d2
      have d3 := (blk_cell Hib.out (i * 4 + 3)).trans d3
      have hR2 := HR.out
      simp only [Int.toNat_natCast] at hR2
      have HR2 := Lib.hid hR2
      generalize E.inp.getD i 0 = iv at *
      generalize E.inpCh.getD i 0 = ic at *
      clear hin hkb hk hR HR hR2
      go_enter Tryd.func41, Tryd.ntmps41
      go_wp2_with (first
        | ((with_reducible refine at_dst (N := 4) rfl ?_); go_must (refine ev_alloc rfl rfl zero85 rfl ?_; intro g4 w1 hg4 hl4 hb4 hk1)
           have Hb4 := Lib.hid hb4
           have e0 := hk1.cell e0 id
           have e1 := hk1.cell e1 id
           have e2 := hk1.cell e2 id
           have e3 := hk1.cell e3 id
           have d0 := hk1.cell d0 id
           have d1 := hk1.cell d1 id
           have d2 := hk1.cell d2 id
           have d3 := hk1.cell d3 id
           have HK1 := Lib.hid hk1
           have Hrr := Lib.hid (Hr.out.keep (X' := X) hk1 (fun _ _ _ => id) (fun _ _ h => h))
           clear hb4
           (try simp only [Act.put, List.setIfInBounds_toArray, List.set_cons_zero, List.set_cons_succ]))
        | (go_at_call 38; go_must (refine (is_some _ _ _ _ _ _ _ (by assumption) (by assumption) hl).mono ?_; rintro e w' ⟨rfl, rfl⟩; rw [HEr.out]))
        | (go_at_call 37; go_must (refine (input_any _ _ E.rules X _ _ (by assumption) Hrr.out hq0 hq1 hl).mono ?_; rintro e w' ⟨rfl, rfl⟩; rw [HI.out.1, HI.out.2]))
        | ((with_reducible refine at_dst (N := 7) rfl ?_); go_must (refine ev_alloc rfl rfl zero85 rfl ?_; intro g7 w2 hg7 hl7 hb7 hk2); have Hb7 := Lib.hid hb7; clear hb7; (try simp only [Act.put, List.setIfInBounds_toArray, List.set_cons_zero, List.set_cons_succ]))
        | ((with_reducible refine at_store (t := 85) (p := 7) rfl ?_); go_must (refine ev_store (cs' := #[.int .i64 iv, .slice none 0 0, .int .i64 0, .int .i64 ic]) rfl rfl rfl rfl rfl rfl HJ.out.1.1 HJ.out.1.2 rfl Hb7.out (Nat.le_of_ble_eq_true rfl) rfl ?_; intro w3 hb3 hk3)
           have Hb3 := Lib.hid hb3
           have HK3 := Lib.hid (hk2.own hk3 hg7)
           have e3 := HK3.out.cell e3 id
           clear hb3
           (try simp only [Act.put, List.setIfInBounds_toArray, List.set_cons_zero, List.set_cons_succ]))
        | ((with_reducible refine at_store (t := 3) rfl ?_); go_must (refine ev_store (cs' := #[.int .i64 iv, .slice none 0 0, .int .i64 E.rev, .int .i64 ic]) rfl rfl rfl rfl rfl rfl HJ.out.2.1 HJ.out.2.2 rfl Hb3.out (Nat.le_of_ble_eq_true rfl) rfl ?_; intro w4 hb4' hk4)
           have f0 := (blk_cell hb4' 0).trans rfl
           have f1 := (blk_cell hb4' 1).trans rfl
           have f2 := (blk_cell hb4' 2).trans rfl
           have f3 := (blk_cell hb4' 3).trans rfl
           clear hb4'
           (try simp only [Act.put, List.setIfInBounds_toArray, List.set_cons_zero, List.set_cons_succ]))
        | ((with_reducible refine at_store (t := 85) (p := 4) rfl ?_); go_must (refine ev_store (cs' := #[.int .i64 iv, .slice none 0 0, .int .i64 E.rev, .int .i64 ic]) rfl rfl rfl rfl rfl rfl HJ.out.1.1 HJ.out.1.2 rfl (hk4.blk (HK3.out.blk Hb4.out id) (by show ¬ g4 = g7; omega)) (Nat.le_of_ble_eq_true rfl) rfl ?_; intro w5 hbz hk5); (try simp only [Act.put, List.setIfInBounds_toArray, List.set_cons_zero, List.set_cons_succ])))
      have r0 := (blk_cell hbz 0).trans rfl
      have r1 := (blk_cell hbz 1).trans rfl
      have r2 := (blk_cell hbz 2).trans rfl
      have r3 := (blk_cell hbz 3).trans rfl
      refine bodyPost_ret (v := .tuple #[.agg #[.int .i64 iv, .slice none 0 0, .int .i64 E.rev, .int .i64 ic], .int .i64 0]) (by rw [results_cell_tmp rfl]; go_simp; try rfl) rfl ?_
      rw [← HR2.out]
      exact ⟨.slice none 0 0, rfl, ((HK1.out.trans HK3.out (fun _ _ h => h)).own hk4 (by have := HK1.out.size; omega)).own hk5 hg4, nil_ints _ _⟩
    · rw [if_neg hk] at hR
      have hkb : ((E.rule q).kind == 1) = false := by simpa using hk
      have HI := Lib.hid (And.intro hin hkb)
      obtain ⟨u, hv, hui, hsm⟩ := AnsX.get hq0 hq1 Hans.out
      obtain ⟨uA, uc, rfl, _, _⟩ := id hui
      obtain ⟨was, hwas⟩ : ∃ x, ans.getD q.toNat none = x := ⟨_, rfl⟩
      rw [hwas] at hR hv hsm hui
      generalize hkd : was.getD k0 = k at *
      have Hv := Lib.hid hv
      have Hui := Lib.hid hui
      have HR := Lib.hid hR
      clear hv hR hin hkb hk hwas hui
      cases was with
      | none =>
        have Hsm := Lib.hid (show (mlook es.toList q).isSome = false from hsm)
        have HR2 := Lib.hid (show ((k0, 8) : KeptR × Int) = R from HR.out)
        clear hsm HR hkd
        go_enter Tryd.func41, Tryd.ntmps41
        go_wp2_with (first
          | ((with_reducible refine at_dst (N := 4) rfl ?_); go_must (refine ev_alloc rfl rfl zero85 rfl ?_; intro g4 w1 hg4 hl4 hb4 hk1)
             have Hb4 := Lib.hid hb4
             have e0 := hk1.cell e0 id
             have e1 := hk1.cell e1 id
             have e2 := hk1.cell e2 id
             have e3 := hk1.cell e3 id
             have HK1 := Lib.hid hk1
             have Hrr := Lib.hid (Hr.out.keep (X' := X) hk1 (fun _ _ _ => id) (fun _ _ h => h))
             clear hb4
             (try simp only [Act.put, List.setIfInBounds_toArray, List.set_cons_zero, List.set_cons_succ]))
          | (go_at_call 38; go_must (refine (is_some _ _ _ _ _ _ _ (by assumption) (by assumption) hl).mono ?_; rintro e w' ⟨rfl, rfl⟩; rw [HEr.out]))
          | (go_at_call 37; go_must (refine (input_any _ _ E.rules X _ _ (by assumption) Hrr.out hq0 hq1 hl).mono ?_; rintro e w' ⟨rfl, rfl⟩; rw [HI.out.1, HI.out.2]))
          | ((with_reducible refine at_dst (N := 39) rfl ?_); go_must (refine ev_lookup_ok rfl rfl Tryd.underlying61 Tryd.underlying3 zero85 rfl rfl (HK1.out.blk Hmb.out id) Hkey.out ?_; rw [Hv.out, Hsm.out]); (try simp only [Act.put, List.setIfInBounds_toArray, List.set_cons_zero, List.set_cons_succ]))
          | ((with_reducible refine at_dst (N := 8) rfl ?_); go_must (refine ev_alloc rfl rfl zero85 rfl ?_; intro g8 w2 hg8 hl8 hb8 hk2); have Hb8 := Lib.hid hb8; clear hb8; (try simp only [Act.put, List.setIfInBounds_toArray, List.set_cons_zero, List.set_cons_succ]))
          | ((with_reducible refine at_store (t := 85) (p := 8) rfl ?_); go_must (refine ev_store (cs' := #[.int .i64 k.value, .slice uA k.asked.length uc, .int .i64 k.checked, .int .i64 k.changed]) rfl rfl rfl rfl rfl rfl HJ.out.1.1 HJ.out.1.2 rfl Hb8.out (Nat.le_of_ble_eq_true rfl) rfl ?_; intro w3 hb3 hk3)
             have f0 := (blk_cell hb3 0).trans rfl
             have f1 := (blk_cell hb3 1).trans rfl
             have f2 := (blk_cell hb3 2).trans rfl
             have f3 := (blk_cell hb3 3).trans rfl
             clear hb3
             (try simp only [Act.put, List.setIfInBounds_toArray, List.set_cons_zero, List.set_cons_succ]))
          | ((with_reducible refine at_store (t := 85) (p := 4) rfl ?_); go_must (refine ev_store (cs' := #[.int .i64 0, .slice none 0 0, .int .i64 0, .int .i64 0]) rfl rfl rfl rfl rfl rfl HJ.out.1.1 HJ.out.1.2 rfl (hk3.blk (hk2.blk Hb4.out id) (by show ¬ g4 = g8; omega)) (Nat.le_of_ble_eq_true rfl) rfl ?_; intro w5 hbz hk5); (try simp only [Act.put, List.setIfInBounds_toArray, List.set_cons_zero, List.set_cons_succ])))
        have r0 := (blk_cell hbz 0).trans rfl
        have r1 := (blk_cell hbz 1).trans rfl
        have r2 := (blk_cell hbz 2).trans rfl
        have r3 := (blk_cell hbz 3).trans rfl
        refine bodyPost_ret (v := .tuple #[.agg #[.int .i64 0, .slice none 0 0, .int .i64 0, .int .i64 0], .int .i64 8]) (by rw [results_cell_tmp rfl]; go_simp; try rfl) rfl ?_
        rw [← HR2.out]
        exact ⟨.slice none 0 0, rfl, ((HK1.out.trans hk2 (fun _ _ h => h)).own hk3 (by have := HK1.out.size; omega)).own hk5 hg4, nil_ints _ _⟩
      | some kk =>
        have Hsm := Lib.hid (show (mlook es.toList q).isSome = true from hsm)
        obtain rfl : kk = k := hkd
        have HR2 := Lib.hid (show ((kk, 0) : KeptR × Int) = R from HR.out)
        clear hsm HR
        go_enter Tryd.func41, Tryd.ntmps41
        go_wp2_with (first
          | ((with_reducible refine at_dst (N := 4) rfl ?_); go_must (refine ev_alloc rfl rfl zero85 rfl ?_; intro g4 w1 hg4 hl4 hb4 hk1)
             have Hb4 := Lib.hid hb4
             have e0 := hk1.cell e0 id
             have e1 := hk1.cell e1 id
             have e2 := hk1.cell e2 id
             have e3 := hk1.cell e3 id
             have HK1 := Lib.hid hk1
             have Hrr := Lib.hid (Hr.out.keep (X' := X) hk1 (fun _ _ _ => id) (fun _ _ h => h))
             clear hb4
             (try simp only [Act.put, List.setIfInBounds_toArray, List.set_cons_zero, List.set_cons_succ]))
          | (go_at_call 38; go_must (refine (is_some _ _ _ _ _ _ _ (by assumption) (by assumption) hl).mono ?_; rintro e w' ⟨rfl, rfl⟩; rw [HEr.out]))
          | (go_at_call 37; go_must (refine (input_any _ _ E.rules X _ _ (by assumption) Hrr.out hq0 hq1 hl).mono ?_; rintro e w' ⟨rfl, rfl⟩; rw [HI.out.1, HI.out.2]))
          | ((with_reducible refine at_dst (N := 39) rfl ?_); go_must (refine ev_lookup_ok rfl rfl Tryd.underlying61 Tryd.underlying3 zero85 rfl rfl (HK1.out.blk Hmb.out id) Hkey.out ?_; rw [Hv.out, Hsm.out]); (try simp only [Act.put, List.setIfInBounds_toArray, List.set_cons_zero, List.set_cons_succ]))
          | ((with_reducible refine at_dst (N := 8) rfl ?_); go_must (refine ev_alloc rfl rfl zero85 rfl ?_; intro g8 w2 hg8 hl8 hb8 hk2); have Hb8 := Lib.hid hb8; clear hb8; (try simp only [Act.put, List.setIfInBounds_toArray, List.set_cons_zero, List.set_cons_succ]))
          | ((with_reducible refine at_store (t := 85) (p := 8) rfl ?_); go_must (refine ev_store (cs' := #[.int .i64 kk.value, .slice uA kk.asked.length uc, .int .i64 kk.checked, .int .i64 kk.changed]) rfl rfl rfl rfl rfl rfl HJ.out.1.1 HJ.out.1.2 rfl Hb8.out (Nat.le_of_ble_eq_true rfl) rfl ?_; intro w3 hb3 hk3)
             have f0 := (blk_cell hb3 0).trans rfl
             have f1 := (blk_cell hb3 1).trans rfl
             have f2 := (blk_cell hb3 2).trans rfl
             have f3 := (blk_cell hb3 3).trans rfl
             clear hb3
             (try simp only [Act.put, List.setIfInBounds_toArray, List.set_cons_zero, List.set_cons_succ]))
          | ((with_reducible refine at_store (t := 85) (p := 4) rfl ?_); go_must (refine ev_store (cs' := #[.int .i64 kk.value, .slice uA kk.asked.length uc, .int .i64 kk.checked, .int .i64 kk.changed]) rfl rfl rfl rfl rfl rfl HJ.out.1.1 HJ.out.1.2 rfl (hk3.blk (hk2.blk Hb4.out id) (by show ¬ g4 = g8; omega)) (Nat.le_of_ble_eq_true rfl) rfl ?_; intro w5 hbz hk5); (try simp only [Act.put, List.setIfInBounds_toArray, List.set_cons_zero, List.set_cons_succ])))
        have r0 := (blk_cell hbz 0).trans rfl
        have r1 := (blk_cell hbz 1).trans rfl
        have r2 := (blk_cell hbz 2).trans rfl
        have r3 := (blk_cell hbz 3).trans rfl
        refine bodyPost_ret (v := .tuple #[.agg #[.int .i64 kk.value, .slice uA kk.asked.length uc, .int .i64 kk.checked, .int .i64 kk.changed], .int .i64 0]) (by rw [results_cell_tmp rfl]; go_simp; try rfl) rfl ?_
        rw [← HR2.out]
        have hkz : Keeps Nob w w5 := ((HK1.out.trans hk2 (fun _ _ h => h)).own hk3 (by have := HK1.out.size; omega)).own hk5 hg4
        exact ⟨_, rfl, hkz, Hui.out.keep hkz (fun _ _ _ => id) (fun _ _ h => h)⟩
set_option maxHeartbeats 1000000 in
/-- ASKED. -/
theorem Asked_any (X : Nat → Prop) (eb ib mb : Nat) (E : Env) (ans : List (Option KeptR)) (q : Int) (w : World) (h : EngAt w X eb ib mb E ans) (hl : E.rules.length ≤ 200) (hal : (foundF E ans q).1.asked.length ≤ 1000000) :
    Calls Tryd.prog 20 #[.pointer (some ⟨eb, 0, none⟩), .int .i64 q] w fun e w' => ∃ v', e = .returned (.tuple #[v', .int .i64 (foundF E ans q).2]) ∧ Keeps Nob w w' ∧ IntsX w' (fun k => w.heap.size ≤ k ∧ k < w'.heap.size) v' (foundF E ans q).1.asked := by
  obtain ⟨i85, hi85, hs85⟩ := info85
  have HI := Lib.hid (And.intro hi85 hs85)
  have H := Lib.hid (Found_any X eb ib mb E ans q w h hl)
  generalize foundF E ans q = R at *
  obtain ⟨k, code⟩ := R
  simp only at hal ⊢
  clear h hi85 hs85
  go_enter Tryd.func20, Tryd.ntmps20
  go_wp2_with (first
    | (go_at_call 41; go_must (refine H.out.mono ?_; rintro e w1 ⟨u, rfl, hk1, hu⟩; obtain ⟨uA, uc, rfl, -, -⟩ := id hu); have Hu := Lib.hid hu; clear hu; (try simp only [Act.put, List.setIfInBounds_toArray, List.set_cons_zero, List.set_cons_succ]))
    | ((with_reducible refine at_dst (N := 6) rfl ?_); go_must (refine ev_alloc rfl rfl zero85 rfl ?_; intro g6 w2 hg6 hl6 hb6 hk2); have Hb6 := Lib.hid hb6; clear hb6; (try simp only [Act.put, List.setIfInBounds_toArray, List.set_cons_zero, List.set_cons_succ]))
    | ((with_reducible refine at_store (t := 85) rfl ?_); go_must (refine ev_store (cs' := #[.int .i64 k.value, .slice uA k.asked.length uc, .int .i64 k.checked, .int .i64 k.changed]) rfl rfl rfl rfl rfl rfl HI.out.1 HI.out.2 rfl Hb6.out (Nat.le_of_ble_eq_true rfl) rfl ?_; intro w3 hb3 hk3)
       have q1 := (blk_cell hb3 1).trans rfl
       have HK3 := Lib.hid (show Keeps Nob w1 w3 from hk2.own hk3 hg6)
       clear hb3
       (try simp only [Act.put, List.setIfInBounds_toArray, List.set_cons_zero, List.set_cons_succ]))
    | (go_at_call 42; go_must (refine (clone_any k.asked w3 X _ (Hu.out.keep HK3.out (fun _ _ _ => id) (fun _ _ h => h)) hal).mono ?_; rintro e w4 ⟨v', rfl, hk4, hv4⟩); have Hv4 := Lib.hid hv4; clear hv4; (try simp only [Act.put, List.setIfInBounds_toArray, List.set_cons_zero, List.set_cons_succ])))
  go_ret2
  have hz := hk1.size
  have hz3 := HK3.out.size
  exact ⟨v', rfl, (hk1.trans HK3.out (fun _ _ h => h)).trans hk4 (fun _ _ h => h), Hv4.out.keep (X' := fun k => w.heap.size ≤ k ∧ k < w4.heap.size) (Keeps.refl Nob w4) (fun _ _ _ => id) (fun b _ h => ⟨by have := h.1; omega, h.2⟩)⟩
set_option maxHeartbeats 1000000 in
/-- WHEN. -/
theorem When_any (X : Nat → Prop) (eb ib mb : Nat) (E : Env) (ans : List (Option KeptR)) (q : Int) (w : World) (h : EngAt w X eb ib mb E ans) (hl : E.rules.length ≤ 200) :
    Calls Tryd.prog 21 #[.pointer (some ⟨eb, 0, none⟩), .int .i64 q] w fun e w' => e = .returned (.tuple #[.int .i64 (foundF E ans q).1.checked, .int .i64 (foundF E ans q).1.changed, .int .i64 (foundF E ans q).2]) ∧ Keeps Nob w w' := by
  obtain ⟨i85, hi85, hs85⟩ := info85
  have HI := Lib.hid (And.intro hi85 hs85)
  have H := Lib.hid (Found_any X eb ib mb E ans q w h hl)
  generalize foundF E ans q = R at *
  obtain ⟨k, code⟩ := R
  simp only
  clear h hi85 hs85
  go_enter Tryd.func21, Tryd.ntmps21
  go_wp2_with (first
    | (go_at_call 41; go_must (refine H.out.mono ?_; rintro e w1 ⟨u, rfl, hk1, hu⟩; obtain ⟨uA, uc, rfl, -, -⟩ := id hu); clear hu; (try simp only [Act.put, List.setIfInBounds_toArray, List.set_cons_zero, List.set_cons_succ]))
    | ((with_reducible refine at_dst (N := 7) rfl ?_); go_must (refine ev_alloc rfl rfl zero85 rfl ?_; intro g7 w2 hg7 hl7 hb7 hk2); have Hb7 := Lib.hid hb7; clear hb7; (try simp only [Act.put, List.setIfInBounds_toArray, List.set_cons_zero, List.set_cons_succ]))
    | ((with_reducible refine at_store (t := 85) rfl ?_); go_must (refine ev_store (cs' := #[.int .i64 k.value, .slice uA k.asked.length uc, .int .i64 k.checked, .int .i64 k.changed]) rfl rfl rfl rfl rfl rfl HI.out.1 HI.out.2 rfl Hb7.out (Nat.le_of_ble_eq_true rfl) rfl ?_; intro w3 hb3 hk3); have q2 := (blk_cell hb3 2).trans rfl; have q3 := (blk_cell hb3 3).trans rfl; clear hb3; (try simp only [Act.put, List.setIfInBounds_toArray, List.set_cons_zero, List.set_cons_succ])))
  refine wp_region_perm [(0, true), (1, true), (2, true), (3, true), (4, true), (5, true), (6, true), (7, true)] (fun w' => w'.cell? ⟨g7, 2, none⟩ = some (.int .i64 k.checked) ∧ w'.cell? ⟨g7, 3, none⟩ = some (.int .i64 k.changed)) rfl (by kernel_rfl) (by kernel_rfl) (by decide) (fun c a d v w h => by cases d <;> exact h) ⟨q2, q3⟩ ?_
  refine perm_q (v := ?v1_0) (some 15) rfl rfl rfl ?q1_0 ?h1_0; (case q1_0 => (intro w' hS; obtain ⟨s1, s2⟩ := hS; first | (go_simp; done) | (go_simp; rfl))); (try simp only [Act.put, List.setIfInBounds_toArray, List.set_cons_zero, List.set_cons_succ])
  refine perm_q (v := ?v1_1) (some 16) rfl rfl rfl ?q1_1 ?h1_1; (case q1_1 => (intro w' hS; obtain ⟨s1, s2⟩ := hS; first | (go_simp; done) | (go_simp; rfl))); (try simp only [Act.put, List.setIfInBounds_toArray, List.set_cons_zero, List.set_cons_succ])
  refine perm_q (v := ?v1_2) (some 17) rfl rfl rfl ?q1_2 ?h1_2; (case q1_2 => (intro w' hS; obtain ⟨s1, s2⟩ := hS; first | (go_simp; done) | (go_simp; rfl))); (try simp only [Act.put, List.setIfInBounds_toArray, List.set_cons_zero, List.set_cons_succ])
  refine perm_q (v := ?v1_3) (some 18) rfl rfl rfl ?q1_3 ?h1_3; (case q1_3 => (intro w' hS; obtain ⟨s1, s2⟩ := hS; first | (go_simp; done) | (go_simp; rfl))); (try simp only [Act.put, List.setIfInBounds_toArray, List.set_cons_zero, List.set_cons_succ])
  refine perm_q (v := ?v1_4) (some 19) rfl rfl rfl ?q1_4 ?h1_4; (case q1_4 => (intro w' hS; obtain ⟨s1, s2⟩ := hS; first | (go_simp; done) | (go_simp; rfl))); (try simp only [Act.put, List.setIfInBounds_toArray, List.set_cons_zero, List.set_cons_succ])
  refine perm_q (v := ?v1_5) (some 4) rfl rfl rfl ?q1_5 ?h1_5; (case q1_5 => (intro w' hS; obtain ⟨s1, s2⟩ := hS; first | (go_simp; done) | (go_simp; rfl))); (try simp only [Act.put, List.setIfInBounds_toArray, List.set_cons_zero, List.set_cons_succ])
  refine perm_q (v := ?v1_6) (some 5) rfl rfl rfl ?q1_6 ?h1_6; (case q1_6 => (intro w' hS; obtain ⟨s1, s2⟩ := hS; first | (go_simp; done) | (go_simp; rfl))); (try simp only [Act.put, List.setIfInBounds_toArray, List.set_cons_zero, List.set_cons_succ])
  refine perm_q (v := ?v1_7) (some 6) rfl rfl rfl ?q1_7 ?h1_7; (case q1_7 => (intro w' hS; obtain ⟨s1, s2⟩ := hS; first | (go_simp; done) | (go_simp; rfl))); (try simp only [Act.put, List.setIfInBounds_toArray, List.set_cons_zero, List.set_cons_succ])
  refine perm_nil ?_
  go_wp2
  go_ret3
  exact ⟨rfl, ((hk1.trans hk2 (fun _ _ h => h)).own hk3 (by have := hk1.size; omega)).drew⟩
end Go.Proofs.QW

/-
  A copy of an engine (Copy), in memory: an engine of its own, in the same state. Condition: the engine lies.
-/
namespace Go.Proofs.QW
open Go.RowKit Go.Proofs.KL Go.Proofs.QM
set_option maxRecDepth 100000
set_option linter.unusedSimpArgs false
set_option linter.unusedVariables false

theorem run_clone {P : Program} {w : World} {r : Nat} {es : Array MapEntry} {clock : Nat} (t : TypeId) (hb : w.heap[r]? = some (.map es clock)) :
    (Extern.MapsClone.clone #[.iface t (.map (some r))]).run P w = .ok (.iface t (.map (some w.heap.size))) (w.alloc (.map es clock)) := by
  have e : Extern.MapsClone.clone #[.iface t (.map (some r))] = (getObj r >>= fun o => match o with
      | .map entries clock => (newObj (.map entries clock) >>= fun n => pure (.iface t (.map (some n))))
      | _ => stuck "maps.clone: a map expected") := rfl
  rw [e]
  simp [MapKept.run_getObj_map hb, Result.andThen, go_sem]
theorem run_assert_map {P : Program} {w : World} (t xT k e : TypeId) (v : Value) (h : P.underlying t = some (.map k e)) : (Instr.typeAssert (.iface t v) xT t false).run P w = .ok v w := by
  simp [Instr.typeAssert, run_underlying h, go_sem, Result.andThen]
set_option maxHeartbeats 2000000 in
theorem clone_map (mb : Nat) (es : Array MapEntry) (cl : Nat) (w : World) (hb : w.heap[mb]? = some (.map es cl)) :
    Calls Tryd.prog 53 #[.map (some mb)] w fun e w' => e = .returned (.map (some w.heap.size)) ∧ w' = w.alloc (.map es cl) := by
  have hq := fun w => run_eql_map_nil (P := Tryd.prog) w 61 3 85 (some mb) Tryd.underlying61
  go_enter Tryd.func53, Tryd.ntmps53
  go_wp2
  rw [run_callFunc_extern Tryd.func63 (by kernel_rfl) (by kernel_rfl) (by kernel_rfl) (e := Extern.MapsClone.clone) (by kernel_rfl), run_clone 61 hb]
  simp only [Result.andThen]
  rw [Oper.upon_value]
  go_wp2
  rw [run_assert_map 61 20 3 85 _ Tryd.underlying61]
  simp only [Result.andThen]
  rw [Oper.upon_value]
  go_wp2
  go_ret
  exact ⟨rfl, rfl⟩
/-- The cells of inputs. -/
def inpCells (inp ch : List Int) (n : Nat) : List Value := (List.range n).flatMap fun i => [.int .i64 (inp.getD i 0), .slice none 0 0, .int .i64 0, .int .i64 (ch.getD i 0)]
theorem inpCells_succ (inp ch : List Int) (n : Nat) : inpCells inp ch (n + 1) = inpCells inp ch n ++ [.int .i64 (inp.getD n 0), .slice none 0 0, .int .i64 0, .int .i64 (ch.getD n 0)] := by
  unfold inpCells; rw [List.range_succ, List.flatMap_append]; simp
theorem inpCells_length (inp ch : List Int) : ∀ n, (inpCells inp ch n).length = n * 4
  | 0 => rfl
  | n + 1 => by rw [inpCells_succ, List.length_append, inpCells_length inp ch n]; simp; omega
theorem inpCells_get (inp ch : List Int) : ∀ n i, i < n → (inpCells inp ch n)[i * 4]? = some (.int .i64 (inp.getD i 0)) ∧ (inpCells inp ch n)[i * 4 + 1]? = some (.slice none 0 0) ∧ (inpCells inp ch n)[i * 4 + 2]? = some (.int .i64 0) ∧ (inpCells inp ch n)[i * 4 + 3]? = some (.int .i64 (ch.getD i 0))
  | n + 1, i, hi => by
    have hl := inpCells_length inp ch n
    rw [inpCells_succ]
    by_cases e : i = n
    · subst e
      rw [List.getElem?_append_right (by omega), List.getElem?_append_right (by omega), List.getElem?_append_right (by omega), List.getElem?_append_right (by omega), hl]
      rw [show i * 4 - i * 4 = 0 by omega, show i * 4 + 1 - i * 4 = 1 by omega, show i * 4 + 2 - i * 4 = 2 by omega, show i * 4 + 3 - i * 4 = 3 by omega]
      exact ⟨rfl, rfl, rfl, rfl⟩
    · rw [List.getElem?_append_left (by omega), List.getElem?_append_left (by omega), List.getElem?_append_left (by omega), List.getElem?_append_left (by omega)]
      exact inpCells_get inp ch n i (by omega)
theorem inpCells_one (inp ch : List Int) (n : Nat) : ∀ u ∈ inpCells inp ch n, u.oneCell' = true := fun u hu => by
  obtain ⟨i, -, hi⟩ := List.mem_flatMap.1 hu
  simp only [List.mem_cons, List.not_mem_nil, or_false] at hi
  rcases hi with rfl | rfl | rfl | rfl <;> rfl
theorem kept_nil (b n c : Nat) (w : World) : (binOp .eql 60 (.slice (some ⟨b, 0, none⟩) n c) (.slice none 0 0)).run Tryd.prog w = .ok (.bool false) w := by kernel_rfl
set_option maxHeartbeats 2000000 in
theorem clone_inp (ib n c : Nat) (inp ch : List Int) (w : World) (h : InpX w ib n inp ch) (hn : n ≤ 200) :
    Calls Tryd.prog 52 #[.slice (some ⟨ib, 0, none⟩) n c] w fun e w' => ∃ g c', e = .returned (.slice (some ⟨g, 0, none⟩) n c') ∧ Keeps Nob w w' ∧ w.heap.size ≤ g ∧ InpX w' g n inp ch := by
  obtain ⟨cs, hb, hx⟩ := h
  have hkn := kept_nil
  have Hb := Lib.hid hb
  have Hx := Lib.hid hx
  have hnews : ∀ w2 : World, w2.heap[ib]? = some (.cells cs 85 (0, 0)) → ∀ j u, (inpCells inp ch n)[j]? = some u → w2.cell? ((⟨ib, 0, none⟩ : Addr).add j) = some u := fun w2 hb2 j u hj => by
    have hlt : j < n * 4 := by have := (List.getElem?_eq_some_iff.1 hj).1; rwa [inpCells_length] at this
    have hadd : (⟨ib, 0, none⟩ : Addr).add j = ⟨ib, j, none⟩ := by
      unfold Addr.add; split
      · rename_i h; subst h; rfl
      · simp
    rw [hadd, blk_cell hb2]
    obtain ⟨i, r, rfl, hr⟩ : ∃ i r, j = i * 4 + r ∧ r < 4 := ⟨j / 4, j % 4, by omega, by omega⟩
    have hi : i < n := by omega
    obtain ⟨a0, a1, a2, a3⟩ := Hx.out i hi
    obtain ⟨b0, b1, b2, b3⟩ := inpCells_get inp ch n i hi
    match r, hr with
    | 0, _ => rw [Nat.add_zero] at hj ⊢; rw [a0, ← b0]; exact hj
    | 1, _ => rw [a1, ← b1]; exact hj
    | 2, _ => rw [a2, ← b2]; exact hj
    | 3, _ => rw [a3, ← b3]; exact hj
  have Hnews := Lib.hid hnews
  clear hb hx hnews
  go_enter Tryd.func52, Tryd.ntmps52
  go_wp2_with (first
    | ((with_reducible refine at_dst (N := 5) rfl ?_); go_must (refine ev_slice (cs := #[]) (t := 85) (n := 0) (c := 0) rfl (by first | (go_simp; done) | (go_simp; rfl)) ?_; intro g1 w1 hg1 hl1 hb1 hk1); have Hb1 := Lib.hid hb1; clear hb1; (try simp only [Act.put, List.setIfInBounds_toArray, List.set_cons_zero, List.set_cons_succ]))
    | ((with_reducible refine at_dst (N := 7) rfl ?_); go_must (refine ev_append (W := w1) (xs := []) (n := 0) (m := n) (news := inpCells inp ch n) rfl rfl Tryd.underlying60 info85b rfl (by decide) (base := 0) rfl ⟨rfl, .inr ⟨g1, 0, #[], rfl, Nat.zero_le _, Hb1.out, Nat.le_refl _, Nat.zero_le _, rfl, rfl⟩⟩ rfl (inpCells_length inp ch n) (fun _ => ⟨⟨ib, 0, none⟩, rfl, fun j u hj => Hnews.out w1 (hk1.blk Hb.out id) j u hj⟩) (inpCells_one inp ch n) (by omega) (by decide) (Nat.zero_le _) ?_; intro v' w2 hown hk2 hr2 _)
       have Hown := Lib.hid hown
       have Hr2 := Lib.hid hr2
       have HK := Lib.hid (show Keeps Nob w w2 from hk1.trans hk2 (fun i hi e => by have e : some i = some g1 := e; injection e with e; omega))
       clear hown hr2
       (try simp only [Act.put, List.setIfInBounds_toArray, List.set_cons_zero, List.set_cons_succ])))
  go_ret
  have hg : ∃ g c', v' = .slice (some ⟨g, 0, none⟩) n c' ∧ w.heap.size ≤ g ∧ w2.ownsRow 0 85 4 (.slice (some ⟨g, 0, none⟩) n c') n (inpCells inp ch n) := by
    have ho := Hown.out
    rw [Nat.zero_add, List.nil_append] at ho
    rcases ho.2 with ⟨rfl, h0⟩ | ⟨g, cap, cur, rfl, h1, h2, h3, h4, h5, h6⟩
    · rcases Hr2.out with h | ⟨b, h, _⟩ <;> cases h
    · refine ⟨g, cap, rfl, ?_, ho⟩
      have z1 := hk1.size
      rcases Hr2.out with h | ⟨b, h, hb⟩
      · have h : some g = some g1 := h
        injection h with h; omega
      · have h : some g = some b := h
        injection h with h; omega
  obtain ⟨g, c', rfl, hge, hown⟩ := hg
  refine ⟨g, c', rfl, HK.out, hge, ?_⟩
  rcases hown.2 with ⟨h, _⟩ | ⟨g', cap, cur, h, _, h2, h3, _, h5, h6⟩
  · cases h
  · injection h with h _ _
    injection h with h
    injection h with h _ _
    subst h
    refine ⟨cur, h2, fun i hi => ?_⟩
    have hc : ∀ j, j < n * 4 → cur[j]? = (inpCells inp ch n)[j]? := fun j hj => by rw [← h6, List.getElem?_take, if_pos hj]; simp
    obtain ⟨b0, b1, b2, b3⟩ := inpCells_get inp ch n i hi
    exact ⟨(hc _ (by omega)).trans b0, (hc _ (by omega)).trans b1, (hc _ (by omega)).trans b2, (hc _ (by omega)).trans b3⟩
set_option maxHeartbeats 4000000 in
/-- COPY. -/
theorem Copy_any (E : Env) (ans : List (Option KeptR)) (w : World) (X : Nat → Prop) (eb ib mb : Nat) (he : EngAt w X eb ib mb E ans) (hxl : ∀ k, X k → k < w.heap.size) (h200 : E.rules.length ≤ 200) :
    Calls Tryd.prog 28 #[.pointer (some ⟨eb, 0, none⟩)] w fun e w' => ∃ eb' ib' mb', e = .returned (.pointer (some ⟨eb', 0, none⟩)) ∧ Keeps Nob w w' ∧ EngAt w' X eb' ib' mb' E ans ∧ w.heap.size ≤ eb' ∧ w.heap.size ≤ ib' ∧ w.heap.size ≤ mb' := by
  have HE := Lib.hid he
  obtain ⟨⟨rv, c, hb, hr⟩, hinp, ⟨es, cl, hmb, hkey, hout, hans⟩, xe, xi, xm⟩ := he
  obtain ⟨A, rc, rfl, hcc, hrx⟩ := id hr
  have e0 := (blk_cell hb 0).trans rfl
  have e1 := (blk_cell hb 1).trans rfl
  have e2 := (blk_cell hb 2).trans rfl
  have e3 := (blk_cell hb 3).trans rfl
  have Hr := Lib.hid hr
  have Hinp := Lib.hid hinp
  have Hmb := Lib.hid hmb
  have Hans := Lib.hid (show AnsX w X mb E.rules.length ans from ⟨es, cl, hmb, hkey, hout, hans⟩)
  have Hkey := Lib.hid hkey
  have Hxl := Lib.hid hxl
  have Hout := Lib.hid hout
  have Hansx := Lib.hid hans
  clear hr hb hrx hinp hmb hkey hout hans xe xi xm hxl
  go_enter Tryd.func28, Tryd.ntmps28
  go_wp2_with (go_at_call 51; go_must (refine (ok_some _ _ _ (by assumption)).mono ?_; rintro e w' ⟨rfl, rfl⟩))
  refine wp_region_perm [(0, true), (1, true), (2, true), (3, true), (4, true), (5, true), (6, true), (7, true), (9, true), (10, true), (11, true), (12, true), (14, true), (15, true), (16, true), (17, true), (8, false), (13, false), (18, true), (19, false), (20, true)] (fun w' => w'.cell? ⟨eb, 0, none⟩ = some (.slice A E.rules.length rc) ∧ w'.cell? ⟨eb, 1, none⟩ = some (.slice (some ⟨ib, 0, none⟩) E.rules.length c) ∧ w'.cell? ⟨eb, 2, none⟩ = some (.map (some mb)) ∧ w'.cell? ⟨eb, 3, none⟩ = some (.int .i64 E.rev)) rfl (by kernel_rfl) (by kernel_rfl) (by decide) (fun c a d v w h => by cases d <;> exact h) ⟨e0, e1, e2, e3⟩ ?_
  refine perm_q (v := ?v1_0) (some 6) rfl rfl rfl ?q1_0 ?h1_0; (case q1_0 => (intro w' hS; obtain ⟨s1, s2, s3, s4⟩ := hS; first | (go_simp; done) | (go_simp; rfl))); (try simp only [Act.put, List.setIfInBounds_toArray, List.set_cons_zero, List.set_cons_succ])
  refine perm_q (v := ?v1_1) (some 7) rfl rfl rfl ?q1_1 ?h1_1; (case q1_1 => (intro w' hS; obtain ⟨s1, s2, s3, s4⟩ := hS; first | (go_simp; done) | (go_simp; rfl))); (try simp only [Act.put, List.setIfInBounds_toArray, List.set_cons_zero, List.set_cons_succ])
  refine perm_q (v := ?v1_2) (some 8) rfl rfl rfl ?q1_2 ?h1_2; (case q1_2 => (intro w' hS; obtain ⟨s1, s2, s3, s4⟩ := hS; first | (go_simp; done) | (go_simp; rfl))); (try simp only [Act.put, List.setIfInBounds_toArray, List.set_cons_zero, List.set_cons_succ])
  refine perm_q (v := ?v1_3) (some 9) rfl rfl rfl ?q1_3 ?h1_3; (case q1_3 => (intro w' hS; obtain ⟨s1, s2, s3, s4⟩ := hS; first | (go_simp; done) | (go_simp; rfl))); (try simp only [Act.put, List.setIfInBounds_toArray, List.set_cons_zero, List.set_cons_succ])
  refine perm_q (v := ?v1_4) (some 10) rfl rfl rfl ?q1_4 ?h1_4; (case q1_4 => (intro w' hS; obtain ⟨s1, s2, s3, s4⟩ := hS; first | (go_simp; done) | (go_simp; rfl))); (try simp only [Act.put, List.setIfInBounds_toArray, List.set_cons_zero, List.set_cons_succ])
  refine perm_q (v := ?v1_5) (some 11) rfl rfl rfl ?q1_5 ?h1_5; (case q1_5 => (intro w' hS; obtain ⟨s1, s2, s3, s4⟩ := hS; first | (go_simp; done) | (go_simp; rfl))); (try simp only [Act.put, List.setIfInBounds_toArray, List.set_cons_zero, List.set_cons_succ])
  refine perm_q (v := ?v1_6) (some 12) rfl rfl rfl ?q1_6 ?h1_6; (case q1_6 => (intro w' hS; obtain ⟨s1, s2, s3, s4⟩ := hS; first | (go_simp; done) | (go_simp; rfl))); (try simp only [Act.put, List.setIfInBounds_toArray, List.set_cons_zero, List.set_cons_succ])
  refine perm_q (v := ?v1_7) (some 13) rfl rfl rfl ?q1_7 ?h1_7; (case q1_7 => (intro w' hS; obtain ⟨s1, s2, s3, s4⟩ := hS; first | (go_simp; done) | (go_simp; rfl))); (try simp only [Act.put, List.setIfInBounds_toArray, List.set_cons_zero, List.set_cons_succ])
  refine perm_q (v := ?v1_9) (some 15) rfl rfl rfl ?q1_9 ?h1_9; (case q1_9 => (intro w' hS; obtain ⟨s1, s2, s3, s4⟩ := hS; first | (go_simp; done) | (go_simp; rfl))); (try simp only [Act.put, List.setIfInBounds_toArray, List.set_cons_zero, List.set_cons_succ])
  refine perm_q (v := ?v1_10) (some 16) rfl rfl rfl ?q1_10 ?h1_10; (case q1_10 => (intro w' hS; obtain ⟨s1, s2, s3, s4⟩ := hS; first | (go_simp; done) | (go_simp; rfl))); (try simp only [Act.put, List.setIfInBounds_toArray, List.set_cons_zero, List.set_cons_succ])
  refine perm_q (v := ?v1_11) (some 17) rfl rfl rfl ?q1_11 ?h1_11; (case q1_11 => (intro w' hS; obtain ⟨s1, s2, s3, s4⟩ := hS; first | (go_simp; done) | (go_simp; rfl))); (try simp only [Act.put, List.setIfInBounds_toArray, List.set_cons_zero, List.set_cons_succ])
  refine perm_q (v := ?v1_12) (some 18) rfl rfl rfl ?q1_12 ?h1_12; (case q1_12 => (intro w' hS; obtain ⟨s1, s2, s3, s4⟩ := hS; first | (go_simp; done) | (go_simp; rfl))); (try simp only [Act.put, List.setIfInBounds_toArray, List.set_cons_zero, List.set_cons_succ])
  refine perm_q (v := ?v1_14) (some 20) rfl rfl rfl ?q1_14 ?h1_14; (case q1_14 => (intro w' hS; obtain ⟨s1, s2, s3, s4⟩ := hS; first | (go_simp; done) | (go_simp; rfl))); (try simp only [Act.put, List.setIfInBounds_toArray, List.set_cons_zero, List.set_cons_succ])
  refine perm_q (v := ?v1_15) (some 21) rfl rfl rfl ?q1_15 ?h1_15; (case q1_15 => (intro w' hS; obtain ⟨s1, s2, s3, s4⟩ := hS; first | (go_simp; done) | (go_simp; rfl))); (try simp only [Act.put, List.setIfInBounds_toArray, List.set_cons_zero, List.set_cons_succ])
  refine perm_q (v := ?v1_16) (some 22) rfl rfl rfl ?q1_16 ?h1_16; (case q1_16 => (intro w' hS; obtain ⟨s1, s2, s3, s4⟩ := hS; first | (go_simp; done) | (go_simp; rfl))); (try simp only [Act.put, List.setIfInBounds_toArray, List.set_cons_zero, List.set_cons_succ])
  refine perm_q (v := ?v1_17) (some 23) rfl rfl rfl ?q1_17 ?h1_17; (case q1_17 => (intro w' hS; obtain ⟨s1, s2, s3, s4⟩ := hS; first | (go_simp; done) | (go_simp; rfl))); (try simp only [Act.put, List.setIfInBounds_toArray, List.set_cons_zero, List.set_cons_succ])
  refine perm_e rfl ?_   -- 8: call F52(t13)
  go_wp2_with (go_at_call 52; go_must (refine (clone_inp ib E.rules.length c E.inp E.inpCh w.drew (Hinp.out.keep (Keeps.refl Nob w).drew id) h200).mono ?_; rintro e w1 ⟨g1, c1, rfl, hk1, hg1, hi1⟩))
  have hk1' : Keeps Nob w w1 := (Keeps.refl Nob w).drew.trans hk1 (fun _ _ h => h)
  have HK1 := Lib.hid hk1'
  have Hi1 := Lib.hid hi1
  have Hg1 := Lib.hid (show w.heap.size ≤ g1 from hg1)
  (try simp only [Act.put, List.setIfInBounds_toArray, List.set_cons_zero, List.set_cons_succ])
  have e0 := hk1'.cell e0 id
  have e1 := hk1'.cell e1 id
  have e2 := hk1'.cell e2 id
  have e3 := hk1'.cell e3 id
  clear hk1 hi1 hk1' hg1
  refine ⟨⟨e0, e1, e2, e3⟩, ?_⟩
  refine perm_e rfl ?_   -- 13: call F53(t18)
  go_wp2_with (go_at_call 53; go_must (refine (clone_map mb es cl w1 (HK1.out.blk Hmb.out id)).mono ?_; rintro e w2 ⟨rfl, rfl⟩))
  have hk2 : Keeps Nob w1 (w1.alloc (.map es cl)) := (Keeps.refl Nob w1).alloc _
  have HK2 := Lib.hid hk2
  (try simp only [Act.put, List.setIfInBounds_toArray, List.set_cons_zero, List.set_cons_succ])
  have e0 := hk2.cell e0 id
  have e1 := hk2.cell e1 id
  have e2 := hk2.cell e2 id
  have e3 := hk2.cell e3 id
  clear hk2
  refine ⟨⟨e0, e1, e2, e3⟩, ?_⟩
  refine perm_q (v := ?v1_18) (some 24) rfl rfl rfl ?q1_18 ?h1_18; (case q1_18 => (intro w' hS; obtain ⟨s1, s2, s3, s4⟩ := hS; first | (go_simp; done) | (go_simp; rfl))); (try simp only [Act.put, List.setIfInBounds_toArray, List.set_cons_zero, List.set_cons_succ])
  refine perm_e rfl ?_   -- 19: box 63 t24
  go_must (refine ev_box (cs := #[.slice A E.rules.length rc, .slice (some ⟨g1, 0, none⟩) E.rules.length c1, .map (some w1.heap.size), .int .i64 E.rev]) rfl rfl rfl ?_; intro g3 w3 hg3 hl3 hb3 hk3)
  have Hb3 := Lib.hid hb3
  (try simp only [Act.put, List.setIfInBounds_toArray, List.set_cons_zero, List.set_cons_succ])
  have e0 := hk3.cell e0 id
  have e1 := hk3.cell e1 id
  have e2 := hk3.cell e2 id
  have e3 := hk3.cell e3 id
  refine wpList_nil ⟨⟨e0, e1, e2, e3⟩, ?_⟩
  refine perm_q (v := ?v1_20) (some 2) rfl rfl rfl ?q1_20 ?h1_20; (case q1_20 => (intro w' hS; obtain ⟨s1, s2, s3, s4⟩ := hS; first | (go_simp; done) | (go_simp; rfl))); (try simp only [Act.put, List.setIfInBounds_toArray, List.set_cons_zero, List.set_cons_succ])
  refine perm_nil ?_
  go_wp2
  go_ret
  have hk13 : Keeps Nob w1 w3 := HK2.out.trans hk3 (fun _ _ h => h)
  have hk03 : Keeps Nob w w3 := HK1.out.trans hk13 (fun _ _ h => h)
  have z1 := HK1.out.size
  have z2 := HK2.out.size
  have hmap : w3.heap[w1.heap.size]? = some (.map es cl) := hk3.blk (blk_new w1 _) id
  refine ⟨g3, g1, w1.heap.size, rfl, hk03, ⟨⟨_, c1, Hb3.out, Hr.out.keep hk03 (fun _ _ _ => id) (fun _ _ h => h)⟩, Hi1.out.keep hk13 id, ⟨es, cl, hmap, Hkey.out, Hout.out, fun q h0 h1 => ?_⟩, fun h => ?_, fun h => ?_, fun h => ?_⟩, by omega, Hg1.out, z1⟩
  · have := Hansx.out q h0 h1
    split at this
    · obtain ⟨v, hv, hx⟩ := this
      exact ⟨v, hv, hx.keep hk03 (fun _ _ _ => id) (fun _ _ h => h)⟩
    · exact this
  · have := Hxl.out _ h; omega
  · have := Hxl.out _ h; have := Hg1.out; omega
  · have := Hxl.out _ h; omega
end Go.Proofs.QW

/-
  The specification's engine as it lies in memory; and what is true of the model's asking that it leans on. Its small looks (has, input, changed). Condition: it lies.
-/
namespace Go.Proofs.QM

/-- When a question changed last. -/
def chNow (E : Env) (s : PS) (q : Int) : Int := if (E.rule q).kind = 1 then E.inpCh.getD q.toNat 0 else match s.get q with | some k => k.changed | none => 0
/-- Errors are none of 0, and what an answer says of its change is what is kept. -/
def Told (E : Env) (on : List Int) (ask : AskFn) : Prop :=
  ∀ s q, PInv E on s → InQ E q → (∀ e, (ask s q).2 = .error e → e ≠ 0) ∧ ∀ v c, (ask s q).2 = .ok (v, c) → c = chNow E (ask s q).1 q
theorem askAll_nz {E : Env} {on : List Int} {ask : AskFn} (hg : Good E on ask) (ht : Told E on ask) (stop : Bool) : ∀ (l : List Int) (s : PS), PInv E on s → (∀ q ∈ l, InQ E q) → ∀ e, (askAll ask stop s l).2 = .error e → e ≠ 0
  | [], s, _, _, e, h => by simp [askAll] at h
  | q :: r, s, hs, hq, e, h => by
    have h1 := (hg s q hs (hq q List.mem_cons_self)).1
    have h2 := (ht s q hs (hq q List.mem_cons_self)).1
    unfold askAll at h
    rcases hr : ask s q with ⟨s1, r1⟩
    rw [hr] at h1 h2 h
    cases r1 with
    | error c => injection h with h; subst h; exact h2 _ rfl
    | ok x =>
      obtain ⟨v, c⟩ := x
      simp only at h
      split at h
      · cases h
      · have ih := askAll_nz hg ht stop r s1 h1.inv (fun p hp => hq p (List.mem_cons_of_mem _ hp))
        rcases hr2 : askAll ask stop s1 r with ⟨s2, r2⟩
        rw [hr2] at h ih
        cases r2 with
        | error c => injection h with h; subst h; exact ih _ rfl
        | ok vs => cases h
theorem evalR_nz {E : Env} {on : List Int} {ask : AskFn} (hg : Good E on ask) (ht : Told E on ask) {r : QRule} (hr : ROk E.rules.length r) {s : PS} (hs : PInv E on s) : ∀ e, (evalR ask s r).2 = .error e → e ≠ 0 := by
  intro e h
  unfold evalR at h
  split at h
  · rename_i hk
    have hq0 := (pick_mem (E := E) hr hk (v := 0) (Int.le_refl 0)).2
    obtain ⟨h1, hv⟩ := hg s _ hs hq0
    have h2 := (ht s _ hs hq0).1
    rcases he : ask s (r.asks.getD 0 0) with ⟨s1, r1⟩
    rw [he] at h1 h2 h hv
    cases r1 with
    | error c => injection h with h; subst h; exact h2 _ rfl
    | ok x =>
      obtain ⟨v, c⟩ := x
      simp only at h
      have hqp := (pick_mem (E := E) hr hk (hv v c rfl).1).1
      have h3 := (ht s1 _ h1.inv hqp).1
      rcases he2 : ask s1 (pickOf r v) with ⟨s2, r2⟩
      rw [he2] at h h3
      cases r2 with
      | error c => injection h with h; subst h; exact h3 _ rfl
      | ok y => cases h
  · have h1 := askAll_nz hg ht (r.kind == 4) r.asks s hs hr.asks
    rcases he : askAll ask (r.kind == 4) s r.asks with ⟨s1, r1⟩
    rw [he] at h h1
    cases r1 with
    | error c => injection h with h; subst h; exact h1 _ rfl
    | ok got => cases h
theorem staleF_nz {E : Env} {on : List Int} {ask : AskFn} (hg : Good E on ask) (ht : Told E on ask) (c : Int) : ∀ (l : List Int) (s : PS), PInv E on s → (∀ q ∈ l, InQ E q) → ∀ e, (staleF ask c s l).2 = .error e → e ≠ 0
  | [], s, _, _, e, h => by simp [staleF] at h
  | q :: r, s, hs, hq, e, h => by
    have h1 := (hg s q hs (hq q List.mem_cons_self)).1
    have h2 := (ht s q hs (hq q List.mem_cons_self)).1
    unfold staleF at h
    rcases hr : ask s q with ⟨s1, r1⟩
    rw [hr] at h1 h2 h
    cases r1 with
    | error c => injection h with h; subst h; exact h2 _ rfl
    | ok x =>
      obtain ⟨v, ch⟩ := x
      simp only at h
      split at h
      · cases h
      · exact staleF_nz hg ht c r s1 h1.inv (fun p hp => hq p (List.mem_cons_of_mem _ hp)) e h
theorem workF_told {E : Env} (hE : EnvOk E) {on : List Int} {ask : AskFn} {q : Int} (hg : Good E (q :: on) ask) (ht : Told E (q :: on) ask) (hq : InQ E q) (hk1 : (E.rule q).kind ≠ 1) (was : Option KeptR) {s : PS} (hs : PInv E (q :: on) s) :
    (∀ e, (workF E ask s q was).2 = .error e → e ≠ 0) ∧ ∀ v c, (workF E ask s q was).2 = .ok (v, c) → c = chNow E (workF E ask s q was).1 q := by
  have h1 := (evalR_good hE hg (hE.rok _ (rule_mem hq)) hs).1
  have h2 := evalR_nz hg ht (hE.rok _ (rule_mem hq)) hs
  unfold workF
  rcases he : evalR ask s (E.rule q) with ⟨s1, r1⟩
  rw [he] at h1 h2
  cases r1 with
  | error e => exact ⟨fun e' h => by injection h with h; subst h; exact h2 _ rfl, fun _ _ h => by cases h⟩
  | ok x =>
    obtain ⟨v, asked⟩ := x
    simp only
    by_cases hm : E.most ≤ s1.done.length
    · rw [if_pos hm]
      exact ⟨fun e' h => by injection h with h; subst h; decide, fun _ _ h => by cases h⟩
    · rw [if_neg hm]
      refine ⟨fun e' h => (by cases h), fun v' c' h => ?_⟩
      injection h with h
      injection h with _ h
      subst h
      have hlt : q.toNat < s1.ans.length := by rw [h1.inv.alen]; have := hq.1; have := hq.2; omega
      unfold chNow
      rw [if_neg hk1, get_set_self (s := { s1 with done := s1.done ++ [q] }) hlt]
theorem askF_told {E : Env} (hE : EnvOk E) : ∀ (f : Nat) (on : List Int), Told E on (askF E f on)
  | 0, on, s, q, _, _ => ⟨fun e h => by unfold askF at h; injection h with h; subst h; decide, fun v c h => by unfold askF at h; cases h⟩
  | f + 1, on, s, q, hs, hq => by
    unfold askF
    by_cases hk : (E.rule q).kind = 1
    · rw [if_pos hk]
      refine ⟨fun e h => (by cases h), fun v c h => ?_⟩
      injection h with h; injection h with _ h; subst h
      unfold chNow; rw [if_pos hk]
    rw [if_neg hk]
    by_cases hon : q ∈ on
    · rw [if_pos hon]
      exact ⟨fun e h => by injection h with h; subst h; decide, fun _ _ h => by cases h⟩
    rw [if_neg hon]
    cases hg : s.get q with
    | none =>
      have hs' : PInv E (q :: on) s := hs.open_ hq hon (fun k h => by rw [hg] at h; cases h)
      exact workF_told hE (askF_good hE f (q :: on)) (askF_told hE f (q :: on)) hq hk none hs'
    | some k =>
      simp only
      have hko := hs.kok q k hq hg
      by_cases hc : k.checked = E.rev
      · rw [if_pos hc]
        refine ⟨fun e h => (by cases h), fun v c h => ?_⟩
        injection h with h; injection h with _ h; subst h
        unfold chNow; rw [if_neg hk, hg]
      · rw [if_neg hc]
        have hs' : PInv E (q :: on) s := hs.open_ hq hon (fun k' h => by rw [hg] at h; injection h with h; exact h ▸ hc)
        have h1 := staleF_good (askF_good hE f (q :: on)) k.checked k.asked s hs' hko.asked
        have h2 := staleF_nz (askF_good hE f (q :: on)) (askF_told hE f (q :: on)) k.checked k.asked s hs' hko.asked
        rcases he : staleF (askF E f (q :: on)) k.checked s k.asked with ⟨s1, r1⟩
        rw [he] at h1 h2
        rcases r1 with e | b
        · exact ⟨fun e' h => by injection h with h; subst h; exact h2 _ rfl, fun _ _ h => by cases h⟩
        · cases b with
          | true => exact workF_told hE (askF_good hE f (q :: on)) (askF_told hE f (q :: on)) hq hk (some k) h1.inv
          | false =>
            refine ⟨fun e' h => (by cases h), fun v c h => ?_⟩
            injection h with h; injection h with _ h; subst h
            have hlt : q.toNat < s1.ans.length := by rw [h1.inv.alen]; have := hq.1; have := hq.2; omega
            unfold chNow
            rw [if_neg hk, get_set_self hlt]
end Go.Proofs.QM
namespace Go.Proofs.QW
open Go.RowKit Go.Proofs.KL Go.Proofs.QM
set_option maxRecDepth 100000
set_option linter.unusedSimpArgs false
set_option linter.unusedVariables false

/-- The cells of one kept answer. -/
def RowC (cs : Array Value) (w : World) (X : Nat → Prop) (i : Nat) (k : Option KeptR) : Prop :=
  ∃ u, cs[i * 5]? = some (.bool k.isSome) ∧ cs[i * 5 + 1]? = some (.int .i64 (k.getD k0).value) ∧ cs[i * 5 + 2]? = some u ∧ cs[i * 5 + 3]? = some (.int .i64 (k.getD k0).checked) ∧ cs[i * 5 + 4]? = some (.int .i64 (k.getD k0).changed) ∧ IntsX w X u (k.getD k0).asked
def RowX (w : World) (X : Nat → Prop) (kb n : Nat) (ans : List (Option KeptR)) : Prop :=
  ∃ cs : Array Value, w.heap[kb]? = some (.cells cs 113 (0, 0)) ∧ ∀ i, i < n → RowC cs w X i (ans.getD i none)
def SetX (w : World) (sb n : Nat) (xs : List Int) : Prop := ∃ cs : Array Value, w.heap[sb]? = some (.cells cs 3 (0, 0)) ∧ ∀ i, i < n → cs[i]? = some (.int .i64 (xs.getD i 0))
theorem RowX.keep {M X X' : Nat → Prop} {w w' : World} {kb n : Nat} {ans : List (Option KeptR)} (h : RowX w X kb n ans) (hk : Keeps M w w') (hn : ¬ M kb) (hX : ∀ b, b < w.heap.size → X b → ¬ M b) (hX' : ∀ b, b < w.heap.size → X b → X' b) : RowX w' X' kb n ans := by
  obtain ⟨cs, hb, hx⟩ := h
  refine ⟨cs, hk.blk hb hn, fun i hi => ?_⟩
  obtain ⟨u, h0, h1, h2, h3, h4, h5⟩ := hx i hi
  exact ⟨u, h0, h1, h2, h3, h4, h5.keep hk hX hX'⟩
theorem SetX.keep {M : Nat → Prop} {w w' : World} {sb n : Nat} {xs : List Int} (h : SetX w sb n xs) (hk : Keeps M w w') (hn : ¬ M sb) : SetX w' sb n xs := by
  obtain ⟨cs, hb, hx⟩ := h
  exact ⟨cs, hk.blk hb hn, hx⟩
/-- The specification's engine, as it lies. -/
structure RefC (w : World) (X : Nat → Prop) (wb sb hb kb nb : Nat) (E : Env) (on : List Int) (s : PS) (dv : Value) : Prop where
  blk : ∃ rv, w.heap[wb]? = some (.cells #[rv, .slice (some ⟨sb, 0, none⟩) E.rules.length E.rules.length, .slice (some ⟨hb, 0, none⟩) E.rules.length E.rules.length, .slice (some ⟨kb, 0, none⟩) E.rules.length E.rules.length, .int .i64 E.rev, .slice (some ⟨nb, 0, none⟩) E.rules.length E.rules.length, dv, .int .i64 E.most] 100 (0, 0)) ∧ RulesX w X rv E.rules
  set : SetX w sb E.rules.length E.inp
  whn : SetX w hb E.rules.length E.inpCh
  row : RowX w X kb E.rules.length s.ans
  open_ : OnX w nb E.rules.length on
  own : w.ownsRow 0 3 1 dv s.done.length (s.done.map (Value.int .i64))
  xw : ¬ X wb
  xs : ¬ X sb
  xh : ¬ X hb
  xk : ¬ X kb
  xn : ¬ X nb
  xd : ∀ b, dv.ownBlock = some b → ¬ X b
  sd : ¬ some sb = dv.ownBlock
  hd : ¬ some hb = dv.ownBlock
  sh : sb ≠ hb
  xl : ∀ k, X k → k < w.heap.size
/-- The blocks that it speaks of. -/
def RefB (wb sb hb kb nb : Nat) (dv : Value) (X : Nat → Prop) : Nat → Prop := fun k => k = wb ∨ k = sb ∨ k = hb ∨ k = kb ∨ k = nb ∨ some k = dv.ownBlock ∨ X k
/-- The blocks that an asking may write. -/
def MRef (wb kb nb : Nat) (dv : Value) : Nat → Prop := fun k => k = wb ∨ k = kb ∨ k = nb ∨ some k = dv.ownBlock
theorem ty_ne {w : World} {b c : Nat} {cs cs' : Array Value} {t t' : TypeId} (hb : w.heap[b]? = some (.cells cs t (0, 0))) (hc : w.heap[c]? = some (.cells cs' t' (0, 0))) (h : t ≠ t') : b ≠ c := by
  rintro rfl
  have := hb.symm.trans hc
  injection this with this
  injection this with _ this _
  exact h this
section
variable {w w' : World} {X X' : Nat → Prop} {wb sb hb kb nb : Nat} {E : Env} {on on' : List Int} {s s' : PS} {dv dv' : Value}
theorem RefC.lts (h : RefC w X wb sb hb kb nb E on s dv) : (wb < w.heap.size ∧ sb < w.heap.size ∧ hb < w.heap.size) ∧ kb < w.heap.size ∧ nb < w.heap.size := by
  obtain ⟨_, h1, _⟩ := h.blk
  obtain ⟨_, h2, _⟩ := h.set
  obtain ⟨_, h3, _⟩ := h.whn
  obtain ⟨_, h4, _⟩ := h.row
  obtain ⟨_, h5, _⟩ := h.open_
  exact ⟨⟨blk_lt h1, blk_lt h2, blk_lt h3⟩, blk_lt h4, blk_lt h5⟩
theorem RefC.apart (h : RefC w X wb sb hb kb nb E on s dv) : (wb ≠ sb ∧ wb ≠ hb ∧ wb ≠ kb ∧ wb ≠ nb) ∧ (sb ≠ kb ∧ sb ≠ nb) ∧ (hb ≠ kb ∧ hb ≠ nb) ∧ kb ≠ nb := by
  obtain ⟨_, h1, _⟩ := h.blk
  obtain ⟨_, h2, _⟩ := h.set
  obtain ⟨_, h3, _⟩ := h.whn
  obtain ⟨_, h4, _⟩ := h.row
  obtain ⟨_, h5, _⟩ := h.open_
  exact ⟨⟨ty_ne h1 h2 (by decide), ty_ne h1 h3 (by decide), ty_ne h1 h4 (by decide), ty_ne h1 h5 (by decide)⟩, ⟨ty_ne h2 h4 (by decide), ty_ne h2 h5 (by decide)⟩, ⟨ty_ne h3 h4 (by decide), ty_ne h3 h5 (by decide)⟩, ty_ne h4 h5 (by decide)⟩
theorem RefC.apartD (h : RefC w X wb sb hb kb nb E on s dv) : ¬ some wb = dv.ownBlock ∧ ¬ some sb = dv.ownBlock ∧ ¬ some hb = dv.ownBlock ∧ ¬ some kb = dv.ownBlock ∧ ¬ some nb = dv.ownBlock := by
  obtain ⟨_, h1, _⟩ := h.blk
  obtain ⟨_, h4, _⟩ := h.row
  obtain ⟨_, h5, _⟩ := h.open_
  exact ⟨own_ne h.own h1 (by decide), h.sd, h.hd, own_ne h.own h4 (by decide), own_ne h.own h5 (by decide)⟩
theorem RefC.fp_lt (h : RefC w X wb sb hb kb nb E on s dv) : ∀ k, RefB wb sb hb kb nb dv X k → k < w.heap.size := by
  obtain ⟨⟨l1, l2, l3⟩, l4, l5⟩ := h.lts
  rintro k (rfl | rfl | rfl | rfl | rfl | e | e)
  · exact l1
  · exact l2
  · exact l3
  · exact l4
  · exact l5
  · exact (own_lt h.own k e.symm).1
  · exact h.xl k e
theorem RefC.notX (h : RefC w X wb sb hb kb nb E on s dv) : ∀ k, MRef wb kb nb dv k → ¬ X k := by
  rintro k (rfl | rfl | rfl | e)
  · exact h.xw
  · exact h.xk
  · exact h.xn
  · exact h.xd k e.symm
theorem MRef.fp {wb sb hb kb nb : Nat} {dv : Value} {X : Nat → Prop} {k : Nat} (h : MRef wb kb nb dv k) : RefB wb sb hb kb nb dv X k := by
  rcases h with h | h | h | h
  · exact .inl h
  · exact .inr (.inr (.inr (.inl h)))
  · exact .inr (.inr (.inr (.inr (.inl h))))
  · exact .inr (.inr (.inr (.inr (.inr (.inl h)))))
/-- Other blocks are written. -/
theorem RefC.keep {M : Nat → Prop} (h : RefC w X wb sb hb kb nb E on s dv) (hk : Keeps M w w') (hM : ∀ k, k < w.heap.size → M k → ¬ RefB wb sb hb kb nb dv X k) : RefC w' X wb sb hb kb nb E on s dv := by
  obtain ⟨⟨l1, l2, l3⟩, l4, l5⟩ := h.lts
  obtain ⟨⟨rv, b1, b2⟩, h2, h3, h4, h5, h6, x1, x2, x3, x4, x5, x6, x7, x8, x9, x10⟩ := h
  have hX : ∀ b, b < w.heap.size → X b → ¬ M b := fun b hb hx hm => hM b hb hm (.inr (.inr (.inr (.inr (.inr (.inr hx))))))
  exact ⟨⟨rv, hk.blk b1 (fun hm => hM _ l1 hm (.inl rfl)), b2.keep hk hX (fun _ _ h => h)⟩, h2.keep hk (fun hm => hM _ l2 hm (.inr (.inl rfl))), h3.keep hk (fun hm => hM _ l3 hm (.inr (.inr (.inl rfl)))), h4.keep hk (fun hm => hM _ l4 hm (.inr (.inr (.inr (.inl rfl))))) hX (fun _ _ h => h),
    h5.keep hk (fun hm => hM _ l5 hm (.inr (.inr (.inr (.inr (.inl rfl)))))), ownsRow_keep h6 hk (fun b hb hm => hM b (own_lt h6 b hb).1 hm (.inr (.inr (.inr (.inr (.inr (.inl hb.symm))))))), x1, x2, x3, x4, x5, x6, x7, x8, x9, fun k hx => Nat.lt_of_lt_of_le (x10 k hx) hk.size⟩
theorem RefC.after (h : RefC w X wb sb hb kb nb E on s dv) (hk : Keeps Nob w w') : RefC w' X wb sb hb kb nb E on s dv := h.keep hk (fun _ _ h => h.elim)
end
/-- What an asking leaves. -/
structure RefPost (w : World) (X : Nat → Prop) (wb sb hb kb nb : Nat) (E : Env) (on : List Int) (dv : Value) (s' : PS) (w' : World) (X' : Nat → Prop) (dv' : Value) : Prop where
  xx : ∀ b, b < w.heap.size → (X' b ↔ X b)
  keep : Keeps (MRef wb kb nb dv) w w'
  row : dv'.ownBlock = dv.ownBlock ∨ ∃ b, dv'.ownBlock = some b ∧ w.heap.size ≤ b
  core : RefC w' X' wb sb hb kb nb E on s' dv'
section
variable {w w1 w2 w' : World} {X X1 X2 X' : Nat → Prop} {wb sb hb kb nb : Nat} {E : Env} {on : List Int} {s s1 s2 s' : PS} {dv dv1 dv2 dv' : Value}
theorem RefPost.refl (h : RefC w X wb sb hb kb nb E on s dv) : RefPost w X wb sb hb kb nb E on dv s w X dv := ⟨fun _ _ => Iff.rfl, Keeps.refl _ _, .inl rfl, h⟩
theorem RefPost.after (hk : Keeps Nob w w1) (h : RefPost w1 X wb sb hb kb nb E on dv s w2 X2 dv2) : RefPost w X wb sb hb kb nb E on dv s w2 X2 dv2 :=
  ⟨fun b hb => h.xx b (Nat.lt_of_lt_of_le hb hk.size), (hk.mono (fun _ _ h => h.elim)).trans h.keep (fun _ _ h => h), h.row.imp id (fun ⟨b, h1, h2⟩ => ⟨b, h1, Nat.le_trans hk.size h2⟩), h.core⟩
theorem RefPost.trans (h : RefPost w X wb sb hb kb nb E on dv s1 w1 X1 dv1) (k : RefPost w1 X1 wb sb hb kb nb E on dv1 s2 w2 X2 dv2) : RefPost w X wb sb hb kb nb E on dv s2 w2 X2 dv2 := by
  have hs := h.keep.size
  refine ⟨fun b hb => (k.xx b (Nat.lt_of_lt_of_le hb hs)).trans (h.xx b hb), h.keep.trans k.keep (fun i hi hm => ?_), ?_, k.core⟩
  · rcases hm with h1 | h1 | h1 | h1
    · exact .inl h1
    · exact .inr (.inl h1)
    · exact .inr (.inr (.inl h1))
    · rcases h.row with hr | ⟨b, hb, hlt⟩
      · exact .inr (.inr (.inr (h1.trans hr)))
      · rw [hb] at h1; injection h1 with h1; omega
  · rcases k.row with hr | ⟨b, hb, hlt⟩
    · rw [hr]; exact h.row
    · exact .inr ⟨b, hb, by omega⟩
/-- Blocks of one's own are written behind what an asking leaves. -/
theorem RefPost.then {M : Nat → Prop} (h : RefPost w X wb sb hb kb nb E on dv s1 w1 X1 dv1) (k : Keeps M w1 w2) (hM : ∀ i, i < w1.heap.size → M i → w.heap.size ≤ i ∧ ¬ RefB wb sb hb kb nb dv1 X1 i) : RefPost w X wb sb hb kb nb E on dv s1 w2 X1 dv1 :=
  ⟨h.xx, h.keep.trans k (fun i hi hm => absurd hi (by have := (hM i (Nat.lt_of_lt_of_le hi h.keep.size) hm).1; omega)), h.row, h.core.keep k (fun i hi hm => (hM i hi hm).2)⟩
theorem RefPost.blk (h : RefPost w X wb sb hb kb nb E on dv s' w' X' dv') {b : Nat} {o : Obj} (hb : w.heap[b]? = some o) (hn : ¬ MRef wb kb nb dv b) : w'.heap[b]? = some o := h.keep.blk hb hn
theorem RefPost.notM (h : RefPost w X wb sb hb kb nb E on dv s' w' X' dv') {b : Nat} (hb : b < w.heap.size) (hn : ¬ MRef wb kb nb dv b) : ¬ MRef wb kb nb dv' b := by
  intro hm
  rcases hm with h1 | h1 | h1 | h1
  · exact hn (.inl h1)
  · exact hn (.inr (.inl h1))
  · exact hn (.inr (.inr (.inl h1)))
  · rcases h.row with hr | ⟨c, hc, hlt⟩
    · exact hn (.inr (.inr (.inr (h1.trans hr))))
    · rw [hc] at h1; injection h1 with h1; omega
theorem RefPost.notF (h : RefPost w X wb sb hb kb nb E on dv s' w' X' dv') {b : Nat} (hlt : b < w.heap.size) (hn : ¬ RefB wb sb hb kb nb dv X b) : ¬ RefB wb sb hb kb nb dv' X' b := by
  rintro (hf | hf | hf | hf | hf | hf | hf)
  · exact hn (.inl hf)
  · exact hn (.inr (.inl hf))
  · exact hn (.inr (.inr (.inl hf)))
  · exact hn (.inr (.inr (.inr (.inl hf))))
  · exact hn (.inr (.inr (.inr (.inr (.inl hf)))))
  · exact h.notM hlt (fun hm => hn hm.fp) (.inr (.inr (.inr hf)))
  · exact hn (.inr (.inr (.inr (.inr (.inr (.inr ((h.xx b hlt).1 hf)))))))
theorem RefPost.ints (h : RefPost w X wb sb hb kb nb E on dv s' w' X' dv') {v : Value} {xs : List Int} (hx : IntsX w X v xs) (hn : ∀ k, MRef wb kb nb dv k → ¬ X k) : IntsX w' X' v xs :=
  hx.keep h.keep (fun b _ hb hm => hn b hm hb) (fun b hb hX => (h.xx b hb).2 hX)
end
/-- What an asking comes to. -/
def RefAns (w : World) (X : Nat → Prop) (wb sb hb kb nb : Nat) (E : Env) (on : List Int) (dv : Value) (r : PS × Except Int (Int × Int)) (e : Ending) (w' : World) : Prop :=
  ∃ X' dv', RefPost w X wb sb hb kb nb E on dv r.1 w' X' dv' ∧ e = .returned (.tuple #[.int .i64 (endOf r).1, .int .i64 (endOf r).2])
/-- THE CONTRACT OF THE SPECIFICATION'S ASK, at the model's function 'ask' while 'on' are open. -/
def RefAskOK (E : Env) (on : List Int) (ask : AskFn) : Prop :=
  ∀ (w : World) (X : Nat → Prop) (wb sb hb kb nb : Nat) (s : PS) (dv : Value) (q : Int), RefC w X wb sb hb kb nb E on s dv → PInv E on s → InQ E q →
    Calls Tryd.prog 69 #[.pointer (some ⟨wb, 0, none⟩), .int .i64 q] w (RefAns w X wb sb hb kb nb E on dv (ask s q))
theorem getD_ruleI (E : Env) (i : Nat) : E.rules.getD i default = E.rule (i : Int) := by unfold Env.rule; rw [Int.toNat_natCast]
section
variable {w : World} {X : Nat → Prop} {wb sb hb kb nb : Nat} {E : Env} {on : List Int} {s : PS} {dv : Value}
/-- input. -/
theorem refInput (h : RefC w X wb sb hb kb nb E on s dv) {q : Int} (hq : InQ E q) (h200 : E.rules.length ≤ 200) :
    Calls Tryd.prog 61 #[.pointer (some ⟨wb, 0, none⟩), .int .i64 q] w fun e w' => e = .returned (.bool ((E.rule q).kind == 1)) ∧ w = w' := by
  obtain ⟨i, rfl⟩ := Int.eq_ofNat_of_zero_le hq.1
  obtain ⟨rv, hb, A, c, rfl, hc, hx⟩ := h.blk
  have hin : i < E.rules.length := by have := hq.2; omega
  obtain ⟨b, o, u, rfl, hb', hk, _, _, _⟩ := hx i hin
  rw [getD_ruleI] at hk
  have p0 := (blk_cell hb 0).trans rfl
  clear hx hb hq h
  generalize (E.rule i).kind = k at *
  generalize E.rules.length = n at *
  go_enter Tryd.func61, Tryd.ntmps61
  go_wp2
  go_ret
  exact ⟨rfl, rfl⟩
/-- has. -/
theorem refHas (h : RefC w X wb sb hb kb nb E on s dv) (q : Int) :
    Calls Tryd.prog 60 #[.pointer (some ⟨wb, 0, none⟩), .int .i64 q] w fun e w' => e = .returned (.bool (decide (isErr E.rules.length q = 0))) ∧ w = w' := by
  obtain ⟨rv, hb, A, c, rfl, hc, hx⟩ := h.blk
  have p0 := (blk_cell hb 0).trans rfl
  clear hx hb h
  by_cases h0 : 0 ≤ q
  · by_cases h1 : q < E.rules.length
    · have hd : decide (isErr E.rules.length q = 0) = true := decide_eq_true (by unfold isErr; rw [if_neg (by omega)])
      rw [hd]
      clear hd
      generalize E.rules.length = n at *
      go_enter Tryd.func60, Tryd.ntmps60
      go_wp2
      go_ret
      exact ⟨rfl, rfl⟩
    · have hd : decide (isErr E.rules.length q = 0) = false := decide_eq_false (by unfold isErr; rw [if_pos (by omega)]; decide)
      rw [hd]
      clear hd
      generalize E.rules.length = n at *
      go_enter Tryd.func60, Tryd.ntmps60
      go_wp2
      go_ret
      exact ⟨rfl, rfl⟩
  · have hd : decide (isErr E.rules.length q = 0) = false := decide_eq_false (by unfold isErr; rw [if_pos (by omega)]; decide)
    rw [hd]
    clear hd
    generalize E.rules.length = n at *
    go_enter Tryd.func60, Tryd.ntmps60
    go_wp2
    go_ret
    exact ⟨rfl, rfl⟩
/-- changed. -/
theorem refChanged (h : RefC w X wb sb hb kb nb E on s dv) {q : Int} (hq : InQ E q) (h200 : E.rules.length ≤ 200) :
    Calls Tryd.prog 73 #[.pointer (some ⟨wb, 0, none⟩), .int .i64 q] w fun e w' => e = .returned (.int .i64 (chNow E s q)) ∧ w = w' := by
  have hin := Lib.hid (refInput h hq h200)
  obtain ⟨i, rfl⟩ := Int.eq_ofNat_of_zero_le hq.1
  have hlt : i < E.rules.length := by have := hq.2; omega
  obtain ⟨rv, hb, -⟩ := h.blk
  have p2 := (blk_cell hb 2).trans rfl
  have p3 := (blk_cell hb 3).trans rfl
  obtain ⟨ch, hch, hcx⟩ := h.whn
  obtain ⟨ck, hck, hkx⟩ := h.row
  have c0 := (blk_cell hch i).trans (hcx i hlt)
  obtain ⟨u, -, -, -, -, k4, -⟩ := hkx i hlt
  have c4 := (blk_cell hck (i * 5 + 4)).trans k4
  have hN : chNow E s (i : Int) = if (E.rule i).kind = 1 then E.inpCh.getD i 0 else ((s.ans.getD i none).getD k0).changed := by
    unfold chNow PS.get
    rw [Int.toNat_natCast]
    split
    · rfl
    · cases s.ans.getD i none <;> rfl
  rw [hN]
  generalize E.inpCh.getD i 0 = x at *
  generalize ((s.ans.getD i none).getD k0).changed = y at *
  clear hb hch hcx hck hkx k4 h hq hN
  by_cases hk : (E.rule (i : Int)).kind = 1
  · rw [if_pos hk]
    have hkb : ((E.rule (i : Int)).kind == 1) = true := by rw [hk]; rfl
    rw [hkb] at hin
    clear hk hkb
    go_enter Tryd.func73, Tryd.ntmps73
    go_wp2_with (go_at_call 61; refine hin.out.mono ?_; rintro e w' ⟨rfl, rfl⟩)
    go_ret
    exact ⟨rfl, rfl⟩
  · rw [if_neg hk]
    have hkb : ((E.rule (i : Int)).kind == 1) = false := by simpa using hk
    rw [hkb] at hin
    clear hk hkb
    go_enter Tryd.func73, Tryd.ntmps73
    go_wp2_with (go_at_call 61; refine hin.out.mono ?_; rintro e w' ⟨rfl, rfl⟩)
    go_ret
    exact ⟨rfl, rfl⟩
end
end Go.Proofs.QW

/-
  Whether a kept answer of the specification stands (stands), in memory: it comes to the model's 'staleF'. Condition: nested askings come to the model's.
-/
namespace Go.Proofs.QW
open Go.RowKit Go.Proofs.KL Go.Proofs.QM
set_option maxRecDepth 100000
set_option linter.unusedSimpArgs false
set_option linter.unusedVariables false

def standsOf : Except Int Bool → Bool × Int
  | .ok b => (!b, 0)
  | .error c => (false, c)
theorem endOf_ok (s : PS) (v c : Int) : endOf (s, .ok (v, c)) = (v, 0) := rfl
theorem endOf_err (s : PS) (c : Int) : endOf (s, .error c) = (0, c) := rfl
set_option maxHeartbeats 2000000 in
/-- STANDS. -/
theorem refStands {E : Env} {on : List Int} {ask : AskFn} (h200 : E.rules.length ≤ 200) (IH : RefAskOK E on ask) (hG : QM.Good E on ask) (hT : QM.Told E on ask) (w : World) (X : Nat → Prop) (wb sb hb kb nb : Nat) (s : PS) (dv : Value) (b0 : Bool) (v ck ch : Int) (u : Value) (xs : List Int)
    (hc : RefC w X wb sb hb kb nb E on s dv) (hi : PInv E on s) (hq : ∀ q ∈ xs, InQ E q) (hx : IntsX w X u xs) (hl : xs.length ≤ 12) :
    Calls Tryd.prog 71 #[.pointer (some ⟨wb, 0, none⟩), .agg #[.bool b0, .int .i64 v, u, .int .i64 ck, .int .i64 ch]] w fun e w' =>
      ∃ X' dv', RefPost w X wb sb hb kb nb E on dv (staleF ask ck s xs).1 w' X' dv' ∧ e = .returned (.tuple #[.bool (standsOf (staleF ask ck s xs).2).1, .int .i64 (standsOf (staleF ask ck s xs).2).2]) := by
  obtain ⟨RR, hRR⟩ : ∃ x, staleF ask ck s xs = x := ⟨_, rfl⟩
  rw [hRR]
  have HRR := Lib.hid hRR
  obtain ⟨A, c, rfl, hcc, hcell⟩ := id hx
  have Hx := Lib.hid hx
  have Hcell := Lib.hid hcell
  have Hc := Lib.hid hc
  have Hi := Lib.hid hi
  have Hq := Lib.hid hq
  have HIH := Lib.hid IH
  have HG := Lib.hid hG
  have HT := Lib.hid hT
  clear hx hcell hc hi hq hRR IH hG hT
  go_enter Tryd.func71, Tryd.ntmps71
  go_wp2_with (first
    | ((with_reducible refine at_dst (N := 3) rfl ?_); go_must (refine ev_box (cs := #[.bool b0, .int .i64 v, .slice A xs.length c, .int .i64 ck, .int .i64 ch]) rfl rfl rfl ?_; intro g3 w1 hg3 hl3 hb3 hk1); have Hb3 := Lib.hid hb3; have f2 := (blk_cell hb3 2).trans rfl; clear hb3; (try simp only [Act.put, List.setIfInBounds_toArray, List.set_cons_zero, List.set_cons_succ])))
  have HK1 := Lib.hid hk1
  have H0 := Lib.hid (RefPost.refl (Hc.out.after hk1))
  have Hg3 := Lib.hid (show w.heap.size ≤ g3 ∧ g3 < w1.heap.size ∧ ¬ MRef wb kb nb dv g3 from ⟨hg3, hl3, fun hm => by have := Hc.out.fp_lt _ hm.fp; omega⟩)
  clear hk1 hg3 hl3
  go_loopw [13] (fun v wr => ∃ (k : Nat) (sk : PS) (Xk : Nat → Prop) (dvk : Value), v = .int .i64 k ∧ k ≤ xs.length ∧ Hid (RefPost w1 X wb sb hb kb nb E on dv sk wr Xk dvk) ∧ Hid (PInv E on sk) ∧ Hid (staleF ask ck sk (xs.drop k) = RR))
    (fun v _ => xs.length - (intOf v).toNat)
  case atStart => exact ⟨0, s, X, dv, rfl, Nat.zero_le _, H0, Hi, HRR⟩
  case round =>
    obtain ⟨k, sk, Xk, dvk, rfl, hk, hp, hik, hst⟩ := hrel
    by_cases hlt : k < xs.length
    · have hd := Lib.hid (drop_cons hlt)
      obtain ⟨b, o, rfl, _, hcw⟩ := Hcell.out k hlt
      have hrun := HIH.out wr Xk wb sb hb kb nb sk dvk (xs.getD k 0) hp.out.core hik.out (Hq.out _ (getD_mem hlt))
      have hcw' := (hp.out.ints (Hx.out.keep (X' := X) HK1.out (fun _ _ _ => id) (fun _ _ h => h)) Hc.out.notX).cellAt hlt
      have hgood := HG.out sk (xs.getD k 0) hik.out (Hq.out _ (getD_mem hlt))
      have htold := HT.out sk (xs.getD k 0) hik.out (Hq.out _ (getD_mem hlt))
      have hqk := Hq.out _ (getD_mem hlt)
      have hstep : staleF ask ck sk (xs.drop k) = match ask sk (xs.getD k 0) with | (s1, .error e) => (s1, .error e) | (s1, .ok (_, ch)) => if ck < ch then (s1, .ok true) else staleF ask ck s1 (xs.drop (k + 1)) := by
        rw [hd.out]; rfl
      rcases hr : ask sk (xs.getD k 0) with ⟨s1, r1⟩
      rw [hr] at hrun hgood hstep htold
      have Hqk := Lib.hid hqk
      have Hrun := Lib.hid hrun
      have Hgood := Lib.hid hgood
      have Htold := Lib.hid htold
      have Hstep := Lib.hid hstep
      have Hb3r := Lib.hid (hp.out.blk Hb3.out Hg3.out.2.2)
      have hn3 := hp.out.notM Hg3.out.2.1 Hg3.out.2.2
      have Hn3 := Lib.hid hn3
      clear hrun hgood hstep hr hcw htold hn3 f2 hqk
      generalize xs.getD k 0 = q at *
      cases r1 with
      | error x =>
        have hxz : (x != 0) = true := by simpa using (Htold.out.1 x rfl)
        go_wp2_with (go_at_call 69; go_must (refine Hrun.out.mono ?_; rintro e w2 ⟨X', dv', hp', rfl⟩; rw [endOf_err]))
        go_ret2
        have hfin : RR = (s1, .error x) := by rw [← hst.out, Hstep.out]
        rw [hfin]
        exact ⟨X', dv', RefPost.after HK1.out (hp.out.trans hp'), rfl⟩
      | ok y =>
        obtain ⟨v1, c1⟩ := y
        have Hcn := Lib.hid (Htold.out.2 v1 c1 rfl)
        dsimp only at Hstep Hrun Hcn
        by_cases hch : ck < c1
        · have Hs2 : Hid (RR = (s1, .ok true)) := Lib.hid (by rw [← hst.out, Hstep.out, if_pos hch])
          clear Hstep
          go_wp2_with (go_at_call 69; go_must (refine Hrun.out.mono ?_; rintro e w2 ⟨X', dv', hp', rfl⟩; rw [endOf_ok]); have Hp2 := Lib.hid hp'; clear hp'; have g33 := (blk_cell (Hp2.out.blk Hb3r.out Hn3.out) 3).trans rfl)
          refine wp_region_perm [(0, true), (1, true), (3, true), (4, true), (2, false), (5, true)] (fun w' => w'.cell? ⟨g3, 3, none⟩ = some (.int .i64 ck)) rfl (by kernel_rfl) (by kernel_rfl) (by decide) (fun c a d v w h => by cases d <;> exact h) g33 ?_
          refine perm_q (v := ?v1_0) (some 26) rfl rfl rfl ?q1_0 ?h1_0; (case q1_0 => (intro w' hS; skip; first | (go_simp; done) | (go_simp; rfl))); (try simp only [Act.put, List.setIfInBounds_toArray, List.set_cons_zero, List.set_cons_succ])
          refine perm_q (v := ?v1_1) (some 27) rfl rfl rfl ?q1_1 ?h1_1; (case q1_1 => (intro w' hS; skip; first | (go_simp; done) | (go_simp; rfl))); (try simp only [Act.put, List.setIfInBounds_toArray, List.set_cons_zero, List.set_cons_succ])
          refine perm_q (v := ?v1_3) (some 29) rfl rfl rfl ?q1_3 ?h1_3; (case q1_3 => (intro w' hS; skip; first | (go_simp; done) | (go_simp; rfl))); (try simp only [Act.put, List.setIfInBounds_toArray, List.set_cons_zero, List.set_cons_succ])
          refine perm_q (v := ?v1_4) (some 30) rfl rfl rfl ?q1_4 ?h1_4; (case q1_4 => (intro w' hS; skip; first | (go_simp; done) | (go_simp; rfl))); (try simp only [Act.put, List.setIfInBounds_toArray, List.set_cons_zero, List.set_cons_succ])
          refine perm_e rfl ?_   -- 2: call F73(t26, t27)
          go_wp2_with (go_at_call 73; go_must (refine (refChanged (Hp2.out.core.after (Keeps.refl Nob w2).drew) Hqk.out h200).mono ?_; rintro e w5 ⟨rfl, rfl⟩; rw [← Hcn.out]))
          refine ⟨g33, ?_⟩
          refine perm_q (v := ?v1_5) (some 31) rfl rfl rfl ?q1_5 ?h1_5; (case q1_5 => (intro w' hS; skip; first | (go_simp; done) | (go_simp; rfl))); (try simp only [Act.put, List.setIfInBounds_toArray, List.set_cons_zero, List.set_cons_succ])
          refine perm_nil ?_
          go_wp2
          go_ret2
          rw [Hs2.out]
          exact ⟨X', dv', RefPost.after HK1.out (hp.out.trans (Hp2.out.then (Keeps.refl Nob w2).drew (fun _ _ h => h.elim))), rfl⟩
        · have Hs2 : Hid (staleF ask ck s1 (xs.drop (k + 1)) = RR) := Lib.hid (by rw [← hst.out, Hstep.out, if_neg hch])
          clear Hstep
          go_wp2_with (go_at_call 69; go_must (refine Hrun.out.mono ?_; rintro e w2 ⟨X', dv', hp', rfl⟩; rw [endOf_ok]); have Hp2 := Lib.hid hp'; clear hp'; have g33 := (blk_cell (Hp2.out.blk Hb3r.out Hn3.out) 3).trans rfl)
          refine wp_region_perm [(0, true), (1, true), (3, true), (4, true), (2, false), (5, true)] (fun w' => w'.cell? ⟨g3, 3, none⟩ = some (.int .i64 ck)) rfl (by kernel_rfl) (by kernel_rfl) (by decide) (fun c a d v w h => by cases d <;> exact h) g33 ?_
          refine perm_q (v := ?v2_0) (some 26) rfl rfl rfl ?q2_0 ?h2_0; (case q2_0 => (intro w' hS; skip; first | (go_simp; done) | (go_simp; rfl))); (try simp only [Act.put, List.setIfInBounds_toArray, List.set_cons_zero, List.set_cons_succ])
          refine perm_q (v := ?v2_1) (some 27) rfl rfl rfl ?q2_1 ?h2_1; (case q2_1 => (intro w' hS; skip; first | (go_simp; done) | (go_simp; rfl))); (try simp only [Act.put, List.setIfInBounds_toArray, List.set_cons_zero, List.set_cons_succ])
          refine perm_q (v := ?v2_3) (some 29) rfl rfl rfl ?q2_3 ?h2_3; (case q2_3 => (intro w' hS; skip; first | (go_simp; done) | (go_simp; rfl))); (try simp only [Act.put, List.setIfInBounds_toArray, List.set_cons_zero, List.set_cons_succ])
          refine perm_q (v := ?v2_4) (some 30) rfl rfl rfl ?q2_4 ?h2_4; (case q2_4 => (intro w' hS; skip; first | (go_simp; done) | (go_simp; rfl))); (try simp only [Act.put, List.setIfInBounds_toArray, List.set_cons_zero, List.set_cons_succ])
          refine perm_e rfl ?_   -- 2: call F73(t26, t27)
          go_wp2_with (go_at_call 73; go_must (refine (refChanged (Hp2.out.core.after (Keeps.refl Nob w2).drew) Hqk.out h200).mono ?_; rintro e w5 ⟨rfl, rfl⟩; rw [← Hcn.out]))
          refine ⟨g33, ?_⟩
          refine perm_q (v := ?v2_5) (some 31) rfl rfl rfl ?q2_5 ?h2_5; (case q2_5 => (intro w' hS; skip; first | (go_simp; done) | (go_simp; rfl))); (try simp only [Act.put, List.setIfInBounds_toArray, List.set_cons_zero, List.set_cons_succ])
          refine perm_nil ?_
          go_wp2
          go_roundw
          case rel => exact ⟨k + 1, s1, X', dv', by go_num, by omega, Lib.hid (hp.out.trans (Hp2.out.then (Keeps.refl Nob w2).drew (fun _ _ h => h.elim))), Lib.hid Hgood.out.1.inv, Hs2⟩
          case measure => simp [intOf]; omega
    · have hk' : k = xs.length := by omega
      subst hk'
      have Hs2 : Hid (RR = (sk, .ok false)) := Lib.hid (by rw [← hst.out, List.drop_length]; rfl)
      go_wp2
      go_ret2
      rw [Hs2.out]
      exact ⟨Xk, dvk, RefPost.after HK1.out hp.out, rfl⟩
end Go.Proofs.QW

/-
  A rule worked out by the specification's engine (rule), in memory: all kinds but RuPick come to the model's 'evalR'. Condition: nested askings come to the model's.
-/
namespace Go.Proofs.QW
open Go.RowKit Go.Proofs.KL Go.Proofs.QM
set_option maxRecDepth 100000
set_option linter.unusedSimpArgs false
set_option linter.unusedVariables false

/-- What a rule's working out comes to. -/
def RuleAns (w : World) (X : Nat → Prop) (wb sb hb kb nb : Nat) (E : Env) (on : List Int) (dv : Value) (r : PS × Except Int (Int × List Int)) (e : Ending) (w' : World) : Prop :=
  ∃ X' dv', RefPost w X wb sb hb kb nb E on dv r.1 w' X' dv' ∧ match r.2 with
    | .ok (v, asked) => ∃ av, e = .returned (.tuple #[.int .i64 v, av, .int .i64 0]) ∧ w'.ownsRow 0 3 1 av asked.length (asked.map (Value.int .i64)) ∧ ∀ b, av.ownBlock = some b → w.heap.size ≤ b ∧ ¬ RefB wb sb hb kb nb dv' X' b
    | .error c => ∃ n av, e = .returned (.tuple #[n, av, .int .i64 c])
def aprep (got : List Int) (r : PS × Except Int (List Int)) : PS × Except Int (List Int) :=
  match r with
  | (s, .error e) => (s, .error e)
  | (s, .ok vs) => (s, .ok (got ++ vs))
/-- The state of the loop over what a rule asks, but for what the loop comes to. -/
structure FB (w1 : World) (X : Nat → Prop) (wb sb hb kb nb : Nat) (E : Env) (on : List Int) (dv : Value) (L : List Int) (k : Nat) (got : List Int) (sk : PS) (Xk : Nat → Prop) (dvk gv av : Value) (wr : World) : Prop where
  len : got.length = k
  rng : ∀ v ∈ got, 0 ≤ v ∧ v ≤ 1048576
  post : RefPost w1 X wb sb hb kb nb E on dv sk wr Xk dvk
  inv : PInv E on sk
  gown : wr.ownsRow w1.heap.size 3 1 gv k (got.map (Value.int .i64))
  aown : wr.ownsRow w1.heap.size 3 1 av k ((L.take k).map (Value.int .i64))
  gx : ∀ b, gv.ownBlock = some b → ¬ RefB wb sb hb kb nb dvk Xk b
  ax : ∀ b, av.ownBlock = some b → ¬ RefB wb sb hb kb nb dvk Xk b ∧ ¬ gv.ownBlock = some b
theorem far_of {w : World} {base e size n : Nat} {v : Value} {xs : List Value} (h : w.ownsRow base e size v n xs) : ∀ b, v.ownBlock = some b → base ≤ b ∧ b < w.heap.size := fun b hb => by
  refine ⟨?_, (own_lt h b hb).1⟩
  rcases h.2 with ⟨rfl, _⟩ | ⟨g, cap, cur, rfl, hg, _⟩
  · cases hb
  · simp [Value.ownBlock] at hb; omega
theorem FB.start {w1 : World} {X : Nat → Prop} {wb sb hb kb nb : Nat} {E : Env} {on : List Int} {dv : Value} {s : PS} {L : List Int} (hc : RefC w1 X wb sb hb kb nb E on s dv) (hi : PInv E on s) :
    FB w1 X wb sb hb kb nb E on dv L 0 [] s X dv (.slice none 0 0) (.slice none 0 0) w1 :=
  ⟨rfl, fun _ h => (by cases h), RefPost.refl hc, hi, ⟨rfl, .inl ⟨rfl, rfl⟩⟩, ⟨rfl, .inl ⟨rfl, rfl⟩⟩, fun b h => (by cases h), fun b h => (by cases h)⟩
section
variable {ask : AskFn} {stop : Bool} {s sk s1 : PS} {L : List Int} {k : Nat} {got : List Int} {v c : Int}
theorem fstart (ask : AskFn) (stop : Bool) (s : PS) (L : List Int) : askAll ask stop s L = aprep [] (askAll ask stop s (L.drop 0)) := by
  rcases h : askAll ask stop s L with ⟨s2, r2⟩
  cases r2 <;> simp [aprep, h]
theorem ferr (h : askAll ask stop s L = aprep got (askAll ask stop sk (L.drop k))) (hlt : k < L.length) {e : Int} (hr : ask sk (L.getD k 0) = (s1, .error e)) : askAll ask stop s L = (s1, .error e) := by
  rw [h, drop_cons hlt, askAll, hr]; rfl
theorem fstop (h : askAll ask true s L = aprep got (askAll ask true sk (L.drop k))) (hlt : k < L.length) (hr : ask sk (L.getD k 0) = (s1, .ok (v, c))) (hn : v ≠ 0) : askAll ask true s L = (s1, .ok (got ++ [v])) := by
  rw [h, drop_cons hlt, askAll, hr]
  simp [hn, aprep]
theorem fend (h : askAll ask stop s L = aprep got (askAll ask stop sk (L.drop L.length))) : askAll ask stop s L = (sk, .ok got) := by
  rw [h, List.drop_length]; simp [askAll, aprep]
theorem fstep (h : askAll ask stop s L = aprep got (askAll ask stop sk (L.drop k))) (hlt : k < L.length) (hr : ask sk (L.getD k 0) = (s1, .ok (v, c))) (hs : ¬ (stop = true ∧ v ≠ 0)) : askAll ask stop s L = aprep (got ++ [v]) (askAll ask stop s1 (L.drop (k + 1))) := by
  rw [h, drop_cons hlt, askAll, hr]
  simp only [if_neg hs]
  rcases askAll ask stop s1 (L.drop (k + 1)) with ⟨s2, r2⟩
  cases r2 <;> simp [aprep]
end
section
variable {w w1 wr w2 w3 w4 w5 w6 w8 : World} {X Xk X2 : Nat → Prop} {wb sb hb kb nb : Nat} {E : Env} {on : List Int} {dv dvk dv2 gv av gv' av' : Value} {sk s1 : PS} {L : List Int} {k : Nat} {got : List Int} {v : Int}
/-- What is handed out in the end. -/
theorem FB.fin (h : FB w1 X wb sb hb kb nb E on dv L k got sk Xk dvk gv av wr) (h8 : Keeps Nob wr w8) (h0 : w.heap.size ≤ w1.heap.size) (hk : k ≤ L.length) :
    w8.ownsRow 0 3 1 av (L.take got.length).length ((L.take got.length).map (Value.int .i64)) ∧ ∀ b, av.ownBlock = some b → w.heap.size ≤ b ∧ ¬ RefB wb sb hb kb nb dvk Xk b := by
  refine ⟨?_, fun b hb => ⟨Nat.le_trans h0 (far_of h.aown b hb).1, (h.ax b hb).1⟩⟩
  rw [h.len, List.length_take, Nat.min_eq_left hk]
  exact own_base (ownsRow_keep h.aown h8 (fun _ _ => id))
/-- The row of answers, behind an asking and a new block. -/
theorem FB.carryG (h : FB w1 X wb sb hb kb nb E on dv L k got sk Xk dvk gv av wr) (hp : RefPost wr Xk wb sb hb kb nb E on dvk s1 w2 X2 dv2) (h3 : Keeps Nob w2 w3) : w3.ownsRow w1.heap.size 3 1 gv k (got.map (Value.int .i64)) :=
  ownsRow_keep (ownsRow_keep h.gown hp.keep (fun b hb hm => h.gx b hb hm.fp)) h3 (fun _ _ => id)
theorem FB.carryA (h : FB w1 X wb sb hb kb nb E on dv L k got sk Xk dvk gv av wr) (hp : RefPost wr Xk wb sb hb kb nb E on dvk s1 w2 X2 dv2) (h3 : Keeps Nob w2 w3) (h4 : Keeps (fun k => some k = gv.ownBlock) w3 w4) (h5 : Keeps Nob w4 w5) : w5.ownsRow w1.heap.size 3 1 av k ((L.take k).map (Value.int .i64)) :=
  ownsRow_keep (ownsRow_keep (ownsRow_keep (ownsRow_keep h.aown hp.keep (fun b hb hm => (h.ax b hb).1 hm.fp)) h3 (fun _ _ => id)) h4 (fun b hb hm => (h.ax b hb).2 hm.symm)) h5 (fun _ _ => id)
/-- What the two appends leave, k grown by one. -/
theorem FB.wrote (h : FB w1 X wb sb hb kb nb E on dv L k got sk Xk dvk gv av wr) (hlt : k < L.length) (hp : RefPost wr Xk wb sb hb kb nb E on dvk s1 w2 X2 dv2) (hi : PInv E on s1) (h3 : Keeps Nob w2 w3) (h4 : Keeps (fun k => some k = gv.ownBlock) w3 w4) (h5 : Keeps Nob w4 w5) (h6 : Keeps (fun k => some k = av.ownBlock) w5 w6)
    (hg : w4.ownsRow w1.heap.size 3 1 gv' (k + 1) (got.map (Value.int .i64) ++ [.int .i64 v])) (ha : w6.ownsRow w1.heap.size 3 1 av' (k + 1) ((L.take k).map (Value.int .i64) ++ [.int .i64 (L.getD k 0)])) (hgr : gv'.ownBlock = gv.ownBlock ∨ ∃ b, gv'.ownBlock = some b ∧ w3.heap.size ≤ b) (har : av'.ownBlock = av.ownBlock ∨ ∃ b, av'.ownBlock = some b ∧ w5.heap.size ≤ b)
    (hv : 0 ≤ v ∧ v ≤ 1048576) : FB w1 X wb sb hb kb nb E on dv L (k + 1) (got ++ [v]) s1 X2 dv2 gv' av' w6 := by
  have z1 := h.post.keep.size
  have z2 := hp.keep.size
  have z3 := h3.size
  have z4 := h4.size
  have z5 := h5.size
  have fg := far_of h.gown
  have fa := far_of h.aown
  have fg' := far_of hg
  have hgf : ∀ b, gv.ownBlock = some b → ¬ RefB wb sb hb kb nb dv2 X2 b := fun b hb => hp.notF (fg b hb).2 (h.gx b hb)
  have haf : ∀ b, av.ownBlock = some b → ¬ RefB wb sb hb kb nb dv2 X2 b := fun b hb => hp.notF (fa b hb).2 (h.ax b hb).1
  have hk26 : Keeps (fun i => some i = gv.ownBlock ∨ some i = av.ownBlock) w2 w6 := (((h3.mono (M' := fun i => some i = gv.ownBlock ∨ some i = av.ownBlock) (fun _ _ h => h.elim)).trans h4 (fun _ _ h => .inl h)).trans h5 (fun _ _ h => h.elim)).trans h6 (fun _ _ h => .inr h)
  have hga : ∀ b, gv'.ownBlock = some b → ¬ some b = av.ownBlock := fun b hb e => by
    rcases hgr with hr | ⟨b', hb', hl⟩
    · rw [hr] at hb; exact (h.ax b e.symm).2 hb
    · rw [hb'] at hb; injection hb with hb; have := (fa b e.symm).2; omega
  refine ⟨by simp [h.len], fun u hu => ?_, (h.post.trans hp).then hk26 (fun i hi hm => ?_), hi, ?_, ?_, fun b hb => ?_, fun b hb => ⟨?_, fun e => ?_⟩⟩
  · rcases List.mem_append.1 hu with hu | hu
    · exact h.rng u hu
    · rw [List.mem_singleton.1 hu]; exact hv
  · rcases hm with hm | hm
    · exact ⟨(fg i hm.symm).1, hgf i hm.symm⟩
    · exact ⟨(fa i hm.symm).1, haf i hm.symm⟩
  · simpa using ownsRow_keep (ownsRow_keep hg h5 (fun _ _ => id)) h6 (fun b hb e => hga b hb e)
  · rw [List.take_succ_eq_append_getElem hlt, List.map_append]
    have : L.getD k 0 = L[k] := by simp [List.getD_eq_getElem?_getD, hlt]
    rw [this] at ha
    exact ha
  · rcases hgr with hr | ⟨b', hb', hl⟩
    · exact hgf b (hr ▸ hb)
    · rw [hb'] at hb; injection hb with hb; intro hf; have := hp.core.fp_lt _ hf; omega
  · rcases har with hr | ⟨b', hb', hl⟩
    · exact haf b (hr ▸ hb)
    · rw [hb'] at hb; injection hb with hb; intro hf; have := hp.core.fp_lt _ hf; omega
  · rcases har with hr | ⟨b', hb', hl⟩
    · exact hga b e (by rw [← hr]; exact hb.symm)
    · rw [hb'] at hb; injection hb with hb; have := (fg' b e).2; omega
end
set_option maxHeartbeats 4000000 in
/-- All kinds but RuPick. -/
theorem refRule_loop {E : Env} {on : List Int} {ask : AskFn} (IH : RefAskOK E on ask) (hG : QM.Good E on ask) (hT : QM.Told E on ask) (w : World) (X : Nat → Prop) (wb sb hb kb nb : Nat) (s : PS) (dv asv : Value) (r : QRule) (hr : ROk E.rules.length r) (h1 : r.kind ≠ 1) (h3 : r.kind ≠ 3)
    (hc : RefC w X wb sb hb kb nb E on s dv) (hi : PInv E on s) (hx : IntsX w X asv r.asks) :
    Calls Tryd.prog 74 #[.pointer (some ⟨wb, 0, none⟩), .agg #[.int .i64 r.kind, .int .i64 r.n, asv]] w (RuleAns w X wb sb hb kb nb E on dv (evalR ask s r)) := by
  obtain ⟨RR, hRR⟩ : ∃ x, evalR ask s r = x := ⟨_, rfl⟩
  rw [hRR]
  unfold evalR at hRR
  rw [if_neg h3] at hRR
  have HRR := Lib.hid hRR
  have Hans := Lib.hid (fun (av sv : Value) (got : List Int) (w : World) (X X' : Nat → Prop) => Answer_any hr h1 h3 (av := av) (sv := sv) (got := got) (w := w) (X := X) (X' := X'))
  have hl12 := hr.l12
  have Hq := Lib.hid hr.asks
  obtain ⟨K, N, asks⟩ := r
  simp only at hl12 h1 h3
  obtain ⟨A, ac, rfl, -, -⟩ := id hx
  have hk3 : (K == 3) = false := by simpa using h3
  have Hx := Lib.hid hx
  have Hc := Lib.hid hc
  have Hi := Lib.hid hi
  have HIH := Lib.hid IH
  have HG := Lib.hid hG
  have HT := Lib.hid hT
  clear hRR hr hc hx hi IH hG hT h1 h3
  go_enter Tryd.func74, Tryd.ntmps74
  go_wp2_with (first
    | ((with_reducible refine at_dst (N := 3) rfl ?_); go_must (refine ev_box (cs := #[.int .i64 K, .int .i64 N, .slice A asks.length ac]) rfl rfl rfl ?_; intro g3 w1 hg3 hl3 hb3 hk1); have Hb3 := Lib.hid hb3; have f2 := (blk_cell hb3 2).trans rfl; clear hb3; (try simp only [Act.put, List.setIfInBounds_toArray, List.set_cons_zero, List.set_cons_succ]))
  )
  have HK1 := Lib.hid hk1
  have H0 := Lib.hid (FB.start (L := asks) (Hc.out.after hk1) Hi.out)
  have Hg3 := Lib.hid (show w.heap.size ≤ g3 ∧ g3 < w1.heap.size ∧ ¬ MRef wb kb nb dv g3 from ⟨hg3, hl3, fun hm => by have := Hc.out.fp_lt _ hm.fp; omega⟩)
  clear hk1 hg3 hl3
  go_loopw [7, 8, 19] (fun gv av v wr => ∃ (k : Nat) (got : List Int) (sk : PS) (Xk : Nat → Prop) (dvk : Value), v = .int .i64 k ∧ k ≤ asks.length ∧ Hid (FB w1 X wb sb hb kb nb E on dv asks k got sk Xk dvk gv av wr) ∧ Hid (askAll ask (K == 4) s asks = aprep got (askAll ask (K == 4) sk (asks.drop k))))
    (fun _ _ v _ => asks.length - (intOf v).toNat)
  case atStart => exact ⟨0, [], s, X, dv, rfl, Nat.zero_le _, H0, Lib.hid (fstart ask (K == 4) s asks)⟩
  case round =>
    obtain ⟨k, got, sk, Xk, dvk, rfl, hk, hst, heq⟩ := hrel
    have Hb3r := Lib.hid (hst.out.post.blk Hb3.out Hg3.out.2.2)
    have f0 := (blk_cell Hb3r.out 0).trans rfl
    have f1 := (blk_cell Hb3r.out 1).trans rfl
    have f2 := (blk_cell Hb3r.out 2).trans rfl
    by_cases hlt : k < asks.length
    · have hx1 := hst.out.post.ints (Hx.out.keep (X' := X) HK1.out (fun _ _ _ => id) (fun _ _ h => h)) Hc.out.notX
      obtain ⟨b, o, rfl, _, _⟩ := (by obtain ⟨A', c', h1, _, h3⟩ := Hx.out; injection h1 with h1 _ _; subst h1; exact h3 k hlt : ∃ b o, A = some ⟨b, o, none⟩ ∧ X b ∧ w.cell? ⟨b, o + k, none⟩ = some (.int .i64 (asks.getD k 0)))
      have hcw := hx1.cellAt hlt
      obtain ⟨q, Hqd⟩ : ∃ q, Hid (asks.getD k 0 = q) := ⟨_, rfl⟩
      rw [Hqd.out] at hcw
      have hqq := Hq.out _ (getD_mem hlt)
      have hgood := HG.out sk (asks.getD k 0) hst.out.inv hqq
      have htold := HT.out sk (asks.getD k 0) hst.out.inv hqq
      have hrun := HIH.out wr Xk wb sb hb kb nb sk dvk (asks.getD k 0) hst.out.post.core hst.out.inv hqq
      rcases hr : ask sk (asks.getD k 0) with ⟨s1, r1⟩
      rw [hr] at hgood htold hrun
      have Hr := Lib.hid hr
      rw [Hqd.out] at hrun
      have Hrun := Lib.hid hrun
      have Hgood := Lib.hid hgood
      have Htold := Lib.hid htold
      clear hr hgood htold hrun hx1 hqq
      cases r1 with
      | error x =>
        have hxz : (x != 0) = true := by simpa using (Htold.out.1 x rfl)
        go_wp2_with (first
          | (go_at_call 69; go_must (refine Hrun.out.mono ?_; rintro e w2 ⟨X2, dv2, hp2, rfl⟩; rw [endOf_err]); have Hp2 := Lib.hid hp2; clear hp2; (try simp only [Act.put, List.setIfInBounds_toArray, List.set_cons_zero, List.set_cons_succ]))
        )
        go_ret3
        have hRR := HRR.out
        rw [ferr heq.out hlt Hr.out] at hRR
        rw [← hRR]
        exact ⟨X2, dv2, RefPost.after HK1.out (hst.out.post.trans Hp2.out), _, _, rfl⟩
      | ok y =>
        obtain ⟨vn, cn⟩ := y
        obtain ⟨n0, n1⟩ := Hgood.out.2 vn cn rfl
        have Hn01 := Lib.hid (And.intro n0 n1)
        by_cases hst4 : K = 4 ∧ vn ≠ 0
        · obtain ⟨hK4, han⟩ := hst4
          have hanb : (vn != 0) = true := by simpa using han
          have hb4t : (K == 4) = true := by simpa using hK4
          have Han := Lib.hid han
          have HK4 := Lib.hid hK4
          clear han hK4
          go_wp2_with (first
            | (go_at_call 69; go_must (refine Hrun.out.mono ?_; rintro e w2 ⟨X2, dv2, hp2, rfl⟩; rw [endOf_ok]); have Hp2 := Lib.hid hp2; have HZ2 := Lib.hid (show w1.heap.size ≤ w2.heap.size from Nat.le_trans hst.out.post.keep.size hp2.keep.size); clear hp2; (try simp only [Act.put, List.setIfInBounds_toArray, List.set_cons_zero, List.set_cons_succ]))
            | ((with_reducible refine at_dst (N := 42) rfl ?_); go_must (refine ev_slice (cs := #[.int .i64 vn]) (t := 3) (n := 1) (c := 1) rfl (by first | (go_simp; done) | (go_simp; rfl)) ?_; intro g4 w3 hg4 hl4 hb4 hk3); have Hb4 := Lib.hid hb4; have Hk3 := Lib.hid hk3; clear hb4; (try simp only [Act.put, List.setIfInBounds_toArray, List.set_cons_zero, List.set_cons_succ]))
            | ((with_reducible refine at_dst (N := 43) rfl ?_); go_must (refine ev_append (W := w3) rfl rfl Tryd.underlying23 info3 rfl (by decide) (base := w1.heap.size) rfl (hst.out.carryG Hp2.out Hk3.out) (news := [.int .i64 vn]) rfl rfl (fun _ => ⟨_, rfl, World.news_of_block Hb4.out⟩) (by simp [Value.oneCell']) (by omega) (by decide) (by have h1 := HZ2.out; have h2 := Hk3.out.size; omega) ?_; intro gv' w4 hown4 hk4 hr4 hf4)
               have Hg4 := Lib.hid (And.intro hown4 hr4)
               have Hk4 := Lib.hid hk4
               have HZ4 := Lib.hid (show w1.heap.size ≤ w4.heap.size by have h1 := HZ2.out; have h2 := Hk3.out.size; have h3 := hk4.size; omega)
               clear hown4 hk4 hr4 hf4 hk3
               (try simp only [Act.put, List.setIfInBounds_toArray, List.set_cons_zero, List.set_cons_succ]))
            | ((with_reducible refine at_dst (N := 46) rfl ?_); go_must (refine ev_slice (cs := #[.int .i64 q]) (t := 3) (n := 1) (c := 1) rfl (by first | (go_simp; done) | (go_simp; rfl)) ?_; intro g5 w5 hg5 hl5 hb5 hk5); have Hb5 := Lib.hid hb5; have Hk5 := Lib.hid hk5; clear hb5; (try simp only [Act.put, List.setIfInBounds_toArray, List.set_cons_zero, List.set_cons_succ]))
            | ((with_reducible refine at_dst (N := 47) rfl ?_); go_must (refine ev_append (W := w5) rfl rfl Tryd.underlying23 info3 rfl (by decide) (base := w1.heap.size) rfl (hst.out.carryA Hp2.out Hk3.out Hk4.out Hk5.out) (news := [.int .i64 q]) rfl rfl (fun _ => ⟨_, rfl, World.news_of_block Hb5.out⟩) (by simp [Value.oneCell']) (by omega) (by decide) (by have h1 := HZ4.out; have h2 := Hk5.out.size; omega) ?_; intro av' w6 hown6 hk6 hr6 hf6)
               have Ha6 := Lib.hid (And.intro hown6 hr6)
               have Hk6 := Lib.hid hk6
               clear hown6 hk6 hr6 hf6 hk5
               go_must (have HFL := Lib.hid (hst.out.wrote hlt Hp2.out Hgood.out.1.inv Hk3.out Hk4.out Hk5.out Hk6.out Hg4.out.1 (by rw [Hqd.out]; exact Ha6.out.1) Hg4.out.2 Ha6.out.2 Hn01.out))
               have Hb36 := Lib.hid (HFL.out.post.blk Hb3.out Hg3.out.2.2)
               have f0 := (blk_cell Hb36.out 0).trans rfl
               have f1 := (blk_cell Hb36.out 1).trans rfl
               have f2 := (blk_cell Hb36.out 2).trans rfl
               (try simp only [Act.put, List.setIfInBounds_toArray, List.set_cons_zero, List.set_cons_succ]))
            | (go_at_call 64
               have hanz := Hans.out _ _ (got ++ [vn]) w6 (fun _ => True) X2 ((HFL.out).post.ints (Hx.out.keep (X' := X) HK1.out (fun _ _ _ => id) (fun _ _ h => h)) Hc.out.notX) (IntsX.own (xs := (got ++ [vn])) (by have h := own_base (HFL.out).gown; rw [← (HFL.out).len] at h; exact h) _ (fun _ _ => trivial)) (by have h := (HFL.out).len; show ((got ++ [vn])).length ≤ asks.length; omega) (HFL.out).rng (fun h => absurd HK4.out h)
               obtain ⟨an_, Han_⟩ : ∃ x, Hid (answerOf ⟨K, N, asks⟩ (got ++ [vn]) = x) := ⟨_, Lib.hid rfl⟩
               rw [Han_.out] at hanz
               go_must (refine hanz.mono ?_; rintro e w8 ⟨rfl, hk8⟩)
               (try simp only [Act.put, List.setIfInBounds_toArray, List.set_cons_zero, List.set_cons_succ]))
          )
          go_ret3
          have heq' := heq.out
          rw [hb4t] at heq'
          have hRR := HRR.out
          rw [hb4t, fstop heq' hlt Hr.out Han.out] at hRR
          simp only [Han_.out] at hRR
          rw [← hRR]
          obtain ⟨o1, o2⟩ := HFL.out.fin (w := w) hk8 HK1.out.size (by omega)
          exact ⟨X2, dv2, RefPost.after HK1.out (HFL.out.post.then hk8 (fun _ _ h => h.elim)), _, rfl, o1, o2⟩
        · have Hst4 := Lib.hid hst4
          have hns : ¬ ((K == 4) = true ∧ vn ≠ 0) := fun h => hst4 ⟨by simpa using h.1, h.2⟩
          have Hns := Lib.hid hns
          clear hst4 hns
          by_cases hK4 : K = 4
          · have hb4t : (K == 4) = true := by simpa using hK4
            have hanb : (vn != 0) = false := by
              by_cases h : vn = 0
              · simp [h]
              · exact absurd ⟨hK4, h⟩ Hst4.out
            clear hK4
            go_wp2_with (first
              | (go_at_call 69; go_must (refine Hrun.out.mono ?_; rintro e w2 ⟨X2, dv2, hp2, rfl⟩; rw [endOf_ok]); have Hp2 := Lib.hid hp2; have HZ2 := Lib.hid (show w1.heap.size ≤ w2.heap.size from Nat.le_trans hst.out.post.keep.size hp2.keep.size); clear hp2; (try simp only [Act.put, List.setIfInBounds_toArray, List.set_cons_zero, List.set_cons_succ]))
              | ((with_reducible refine at_dst (N := 42) rfl ?_); go_must (refine ev_slice (cs := #[.int .i64 vn]) (t := 3) (n := 1) (c := 1) rfl (by first | (go_simp; done) | (go_simp; rfl)) ?_; intro g4 w3 hg4 hl4 hb4 hk3); have Hb4 := Lib.hid hb4; have Hk3 := Lib.hid hk3; clear hb4; (try simp only [Act.put, List.setIfInBounds_toArray, List.set_cons_zero, List.set_cons_succ]))
              | ((with_reducible refine at_dst (N := 43) rfl ?_); go_must (refine ev_append (W := w3) rfl rfl Tryd.underlying23 info3 rfl (by decide) (base := w1.heap.size) rfl (hst.out.carryG Hp2.out Hk3.out) (news := [.int .i64 vn]) rfl rfl (fun _ => ⟨_, rfl, World.news_of_block Hb4.out⟩) (by simp [Value.oneCell']) (by omega) (by decide) (by have h1 := HZ2.out; have h2 := Hk3.out.size; omega) ?_; intro gv' w4 hown4 hk4 hr4 hf4)
                 have Hg4 := Lib.hid (And.intro hown4 hr4)
                 have Hk4 := Lib.hid hk4
                 have HZ4 := Lib.hid (show w1.heap.size ≤ w4.heap.size by have h1 := HZ2.out; have h2 := Hk3.out.size; have h3 := hk4.size; omega)
                 clear hown4 hk4 hr4 hf4 hk3
                 (try simp only [Act.put, List.setIfInBounds_toArray, List.set_cons_zero, List.set_cons_succ]))
              | ((with_reducible refine at_dst (N := 46) rfl ?_); go_must (refine ev_slice (cs := #[.int .i64 q]) (t := 3) (n := 1) (c := 1) rfl (by first | (go_simp; done) | (go_simp; rfl)) ?_; intro g5 w5 hg5 hl5 hb5 hk5); have Hb5 := Lib.hid hb5; have Hk5 := Lib.hid hk5; clear hb5; (try simp only [Act.put, List.setIfInBounds_toArray, List.set_cons_zero, List.set_cons_succ]))
              | ((with_reducible refine at_dst (N := 47) rfl ?_); go_must (refine ev_append (W := w5) rfl rfl Tryd.underlying23 info3 rfl (by decide) (base := w1.heap.size) rfl (hst.out.carryA Hp2.out Hk3.out Hk4.out Hk5.out) (news := [.int .i64 q]) rfl rfl (fun _ => ⟨_, rfl, World.news_of_block Hb5.out⟩) (by simp [Value.oneCell']) (by omega) (by decide) (by have h1 := HZ4.out; have h2 := Hk5.out.size; omega) ?_; intro av' w6 hown6 hk6 hr6 hf6)
                 have Ha6 := Lib.hid (And.intro hown6 hr6)
                 have Hk6 := Lib.hid hk6
                 clear hown6 hk6 hr6 hf6 hk5
                 go_must (have HFL := Lib.hid (hst.out.wrote hlt Hp2.out Hgood.out.1.inv Hk3.out Hk4.out Hk5.out Hk6.out Hg4.out.1 (by rw [Hqd.out]; exact Ha6.out.1) Hg4.out.2 Ha6.out.2 Hn01.out))
                 have Hb36 := Lib.hid (HFL.out.post.blk Hb3.out Hg3.out.2.2)
                 have f0 := (blk_cell Hb36.out 0).trans rfl
                 have f1 := (blk_cell Hb36.out 1).trans rfl
                 have f2 := (blk_cell Hb36.out 2).trans rfl
                 (try simp only [Act.put, List.setIfInBounds_toArray, List.set_cons_zero, List.set_cons_succ]))
            )
            go_roundw
            case rel => exact ⟨k + 1, got ++ [vn], s1, X2, dv2, by go_num, by omega, HFL, Lib.hid (fstep heq.out hlt Hr.out Hns.out)⟩
            case measure => simp [intOf]; omega
          · have hb4t : (K == 4) = false := by simpa using hK4
            clear hK4
            go_wp2_with (first
              | (go_at_call 69; go_must (refine Hrun.out.mono ?_; rintro e w2 ⟨X2, dv2, hp2, rfl⟩; rw [endOf_ok]); have Hp2 := Lib.hid hp2; have HZ2 := Lib.hid (show w1.heap.size ≤ w2.heap.size from Nat.le_trans hst.out.post.keep.size hp2.keep.size); clear hp2; (try simp only [Act.put, List.setIfInBounds_toArray, List.set_cons_zero, List.set_cons_succ]))
              | ((with_reducible refine at_dst (N := 42) rfl ?_); go_must (refine ev_slice (cs := #[.int .i64 vn]) (t := 3) (n := 1) (c := 1) rfl (by first | (go_simp; done) | (go_simp; rfl)) ?_; intro g4 w3 hg4 hl4 hb4 hk3); have Hb4 := Lib.hid hb4; have Hk3 := Lib.hid hk3; clear hb4; (try simp only [Act.put, List.setIfInBounds_toArray, List.set_cons_zero, List.set_cons_succ]))
              | ((with_reducible refine at_dst (N := 43) rfl ?_); go_must (refine ev_append (W := w3) rfl rfl Tryd.underlying23 info3 rfl (by decide) (base := w1.heap.size) rfl (hst.out.carryG Hp2.out Hk3.out) (news := [.int .i64 vn]) rfl rfl (fun _ => ⟨_, rfl, World.news_of_block Hb4.out⟩) (by simp [Value.oneCell']) (by omega) (by decide) (by have h1 := HZ2.out; have h2 := Hk3.out.size; omega) ?_; intro gv' w4 hown4 hk4 hr4 hf4)
                 have Hg4 := Lib.hid (And.intro hown4 hr4)
                 have Hk4 := Lib.hid hk4
                 have HZ4 := Lib.hid (show w1.heap.size ≤ w4.heap.size by have h1 := HZ2.out; have h2 := Hk3.out.size; have h3 := hk4.size; omega)
                 clear hown4 hk4 hr4 hf4 hk3
                 (try simp only [Act.put, List.setIfInBounds_toArray, List.set_cons_zero, List.set_cons_succ]))
              | ((with_reducible refine at_dst (N := 46) rfl ?_); go_must (refine ev_slice (cs := #[.int .i64 q]) (t := 3) (n := 1) (c := 1) rfl (by first | (go_simp; done) | (go_simp; rfl)) ?_; intro g5 w5 hg5 hl5 hb5 hk5); have Hb5 := Lib.hid hb5; have Hk5 := Lib.hid hk5; clear hb5; (try simp only [Act.put, List.setIfInBounds_toArray, List.set_cons_zero, List.set_cons_succ]))
              | ((with_reducible refine at_dst (N := 47) rfl ?_); go_must (refine ev_append (W := w5) rfl rfl Tryd.underlying23 info3 rfl (by decide) (base := w1.heap.size) rfl (hst.out.carryA Hp2.out Hk3.out Hk4.out Hk5.out) (news := [.int .i64 q]) rfl rfl (fun _ => ⟨_, rfl, World.news_of_block Hb5.out⟩) (by simp [Value.oneCell']) (by omega) (by decide) (by have h1 := HZ4.out; have h2 := Hk5.out.size; omega) ?_; intro av' w6 hown6 hk6 hr6 hf6)
                 have Ha6 := Lib.hid (And.intro hown6 hr6)
                 have Hk6 := Lib.hid hk6
                 clear hown6 hk6 hr6 hf6 hk5
                 go_must (have HFL := Lib.hid (hst.out.wrote hlt Hp2.out Hgood.out.1.inv Hk3.out Hk4.out Hk5.out Hk6.out Hg4.out.1 (by rw [Hqd.out]; exact Ha6.out.1) Hg4.out.2 Ha6.out.2 Hn01.out))
                 have Hb36 := Lib.hid (HFL.out.post.blk Hb3.out Hg3.out.2.2)
                 have f0 := (blk_cell Hb36.out 0).trans rfl
                 have f1 := (blk_cell Hb36.out 1).trans rfl
                 have f2 := (blk_cell Hb36.out 2).trans rfl
                 (try simp only [Act.put, List.setIfInBounds_toArray, List.set_cons_zero, List.set_cons_succ]))
            )
            go_roundw
            case rel => exact ⟨k + 1, got ++ [vn], s1, X2, dv2, by go_num, by omega, HFL, Lib.hid (fstep heq.out hlt Hr.out Hns.out)⟩
            case measure => simp [intOf]; omega
    · have hk' : k = asks.length := by omega
      subst hk'
      go_wp2_with (first
        | (go_at_call 64
           have hanz := Hans.out _ _ got wr (fun _ => True) Xk ((hst.out).post.ints (Hx.out.keep (X' := X) HK1.out (fun _ _ _ => id) (fun _ _ h => h)) Hc.out.notX) (IntsX.own (xs := got) (by have h := own_base (hst.out).gown; rw [← (hst.out).len] at h; exact h) _ (fun _ _ => trivial)) (by have h := (hst.out).len; show (got).length ≤ asks.length; omega) (hst.out).rng (fun _ => hst.out.len)
           obtain ⟨an_, Han_⟩ : ∃ x, Hid (answerOf ⟨K, N, asks⟩ got = x) := ⟨_, Lib.hid rfl⟩
           rw [Han_.out] at hanz
           go_must (refine hanz.mono ?_; rintro e w8 ⟨rfl, hk8⟩)
           (try simp only [Act.put, List.setIfInBounds_toArray, List.set_cons_zero, List.set_cons_succ]))
      )
      go_ret3
      have hRR := HRR.out
      rw [fend heq.out] at hRR
      simp only [Han_.out] at hRR
      rw [← hRR]
      obtain ⟨o1, o2⟩ := hst.out.fin (w := w) hk8 HK1.out.size (Nat.le_refl _)
      exact ⟨Xk, dvk, RefPost.after HK1.out (hst.out.post.then hk8 (fun _ _ h => h.elim)), _, rfl, o1, o2⟩
end Go.Proofs.QW

/-
  A rule worked out by the specification's engine (rule), in memory: RuPick, and with it every kind. Condition: nested askings come to the model's.
-/
namespace Go.Proofs.QW
open Go.RowKit Go.Proofs.KL Go.Proofs.QM
set_option maxRecDepth 100000
set_option linter.unusedSimpArgs false
set_option linter.unusedVariables false

set_option maxHeartbeats 4000000 in
/-- RuPick. -/
theorem refRule_pick {E : Env} {on : List Int} {ask : AskFn} (IH : RefAskOK E on ask) (hG : QM.Good E on ask) (hT : QM.Told E on ask) (w : World) (X : Nat → Prop) (wb sb hb kb nb : Nat) (s : PS) (dv asv : Value) (r : QRule) (hr : ROk E.rules.length r) (h3 : r.kind = 3)
    (hc : RefC w X wb sb hb kb nb E on s dv) (hi : PInv E on s) (hx : IntsX w X asv r.asks) :
    Calls Tryd.prog 74 #[.pointer (some ⟨wb, 0, none⟩), .agg #[.int .i64 r.kind, .int .i64 r.n, asv]] w (RuleAns w X wb sb hb kb nb E on dv (evalR ask s r)) := by
  obtain ⟨RR, hRR⟩ : ∃ x, evalR ask s r = x := ⟨_, rfl⟩
  rw [hRR]
  unfold evalR at hRR
  rw [if_pos h3] at hRR
  have HRR := Lib.hid hRR
  have hl12 := hr.l12
  have hl1 := hr.l1
  rw [h3] at hl1
  have hl2 : (2 : Int) ≤ r.asks.length := hl1
  have Hr0 := Lib.hid hr
  have Hq := Lib.hid hr.asks
  clear hl1
  obtain ⟨K, N, asks⟩ := r
  simp only at hl12 hl2 h3
  subst h3
  obtain ⟨A, ac, rfl, -, -⟩ := id hx
  have hlen : 0 < asks.length := by omega
  obtain ⟨b, o, rfl, hXb, _⟩ := (by obtain ⟨A', c', h1, _, h3⟩ := hx; injection h1 with h1 _ _; subst h1; exact h3 0 hlen : ∃ b o, A = some ⟨b, o, none⟩ ∧ X b ∧ w.cell? ⟨b, o + 0, none⟩ = some (.int .i64 (asks.getD 0 0)))
  obtain ⟨q0, Hq0⟩ : ∃ q, Hid (asks.getD 0 0 = q) := ⟨_, rfl⟩
  have Hx := Lib.hid hx
  have Hc := Lib.hid hc
  have Hi := Lib.hid hi
  have HIH := Lib.hid IH
  have HG := Lib.hid hG
  have HT := Lib.hid hT
  obtain ⟨K, hK⟩ : ∃ K : Int, K = 3 := ⟨3, rfl⟩
  have hk3 : (K == 3) = true := by rw [hK]; rfl
  have hk4 : (K == 4) = false := by rw [hK]; rfl
  rw [show (Value.int .i64 3) = .int .i64 K by rw [hK]]
  have HKe := Lib.hid hK
  have HXb := Lib.hid hXb
  clear hXb hRR hr hc hx hi IH hG hT hK
  go_enter Tryd.func74, Tryd.ntmps74
  go_wp2_with (first
    | ((with_reducible refine at_dst (N := 3) rfl ?_); go_must (refine ev_box (cs := #[.int .i64 K, .int .i64 N, .slice (some ⟨b, o, none⟩) asks.length ac]) rfl rfl rfl ?_; intro g3 w1 hg3 hl3 hb3 hk1); have Hb3 := Lib.hid hb3; have f2 := (blk_cell hb3 2).trans rfl; clear hb3; (try simp only [Act.put, List.setIfInBounds_toArray, List.set_cons_zero, List.set_cons_succ]))
  )
  have HK1 := Lib.hid hk1
  have H0 := Lib.hid (FB.start (L := asks) (Hc.out.after hk1) Hi.out)
  have Hg3 := Lib.hid (show w.heap.size ≤ g3 ∧ g3 < w1.heap.size ∧ ¬ MRef wb kb nb dv g3 from ⟨hg3, hl3, fun hm => by have := Hc.out.fp_lt _ hm.fp; omega⟩)
  clear hk1 hg3 hl3
  go_loopw [7, 8, 19] (fun gv av v wr => ∃ (k : Nat) (got : List Int) (sk : PS) (Xk : Nat → Prop) (dvk : Value), v = .int .i64 k ∧ k ≤ 1 ∧ Hid (FB w1 X wb sb hb kb nb E on dv asks k got sk Xk dvk gv av wr) ∧ Hid (k = 0 → sk = s ∧ got = []) ∧ Hid (k = 1 → ∃ vn cn, ask s q0 = (sk, .ok (vn, cn)) ∧ got = [vn] ∧ 0 ≤ vn ∧ vn ≤ 1048576))
    (fun _ _ v _ => 1 - (intOf v).toNat)
  case atStart => exact ⟨0, [], s, X, dv, rfl, Nat.zero_le _, H0, Lib.hid (fun _ => ⟨rfl, rfl⟩), Lib.hid (fun h => absurd h (by decide))⟩
  case round =>
    obtain ⟨k, got, sk, Xk, dvk, rfl, hk, hst, hex0, hex1⟩ := hrel
    have Hb3r := Lib.hid (hst.out.post.blk Hb3.out Hg3.out.2.2)
    have f0 := (blk_cell Hb3r.out 0).trans rfl
    have f1 := (blk_cell Hb3r.out 1).trans rfl
    have f2 := (blk_cell Hb3r.out 2).trans rfl
    have hx1 := hst.out.post.ints (Hx.out.keep (X' := X) HK1.out (fun _ _ _ => id) (fun _ _ h => h)) Hc.out.notX
    by_cases hk0 : k = 0
    · obtain ⟨hsk, hgot⟩ := hex0.out hk0
      have Hgot := Lib.hid hgot
      have Hsk := Lib.hid hsk
      have Hk0 := Lib.hid hk0
      have hlt : k < asks.length := by omega
      have hkz : ¬ (0 : Int) < k := by omega
      have hcw := hx1.cellAt hlt
      obtain ⟨q, Hqd⟩ : ∃ q, Hid (asks.getD k 0 = q) := ⟨_, rfl⟩
      have Hqq0 := Lib.hid (show q0 = q by rw [← Hq0.out, ← Hqd.out, Hk0.out])
      rw [Hqd.out] at hcw
      have hqq := Hq.out _ (getD_mem hlt)
      have hgood := HG.out sk (asks.getD k 0) hst.out.inv hqq
      have htold := HT.out sk (asks.getD k 0) hst.out.inv hqq
      have hrun := HIH.out wr Xk wb sb hb kb nb sk dvk (asks.getD k 0) hst.out.post.core hst.out.inv hqq
      rcases hr : ask sk (asks.getD k 0) with ⟨s1, r1⟩
      rw [hr] at hgood htold hrun
      have Hr := Lib.hid (show ask s q0 = (s1, r1) by rw [Hqq0.out, ← Hqd.out, ← Hsk.out]; exact hr)
      rw [Hqd.out] at hrun
      have Hrun := Lib.hid hrun
      have Hgood := Lib.hid hgood
      have Htold := Lib.hid htold
      clear hr hgood htold hrun hx1 hqq hsk hgot hk0
      cases r1 with
      | error x =>
        have hxz : (x != 0) = true := by simpa using (Htold.out.1 x rfl)
        go_wp2_with (first
          | (go_at_call 69; go_must (refine Hrun.out.mono ?_; rintro e w2 ⟨X2, dv2, hp2, rfl⟩; rw [endOf_err]); have Hp2 := Lib.hid hp2; clear hp2; (try simp only [Act.put, List.setIfInBounds_toArray, List.set_cons_zero, List.set_cons_succ]))
        )
        go_ret3
        have hRR := HRR.out
        (try dsimp only at hRR)
        rw [Hq0.out, Hr.out] at hRR
        rw [← hRR]
        exact ⟨X2, dv2, RefPost.after HK1.out (hst.out.post.trans Hp2.out), _, _, rfl⟩
      | ok y =>
        obtain ⟨vn, cn⟩ := y
        obtain ⟨n0, n1⟩ := Hgood.out.2 vn cn rfl
        have Hn01 := Lib.hid (And.intro n0 n1)
        go_wp2_with (first
          | (go_at_call 69; go_must (refine Hrun.out.mono ?_; rintro e w2 ⟨X2, dv2, hp2, rfl⟩; rw [endOf_ok]); have Hp2 := Lib.hid hp2; have HZ2 := Lib.hid (show w1.heap.size ≤ w2.heap.size from Nat.le_trans hst.out.post.keep.size hp2.keep.size); clear hp2; (try simp only [Act.put, List.setIfInBounds_toArray, List.set_cons_zero, List.set_cons_succ]))
          | ((with_reducible refine at_dst (N := 42) rfl ?_); go_must (refine ev_slice (cs := #[.int .i64 vn]) (t := 3) (n := 1) (c := 1) rfl (by first | (go_simp; done) | (go_simp; rfl)) ?_; intro g4 w3 hg4 hl4 hb4 hk3); have Hb4 := Lib.hid hb4; have Hk3 := Lib.hid hk3; clear hb4; (try simp only [Act.put, List.setIfInBounds_toArray, List.set_cons_zero, List.set_cons_succ]))
          | ((with_reducible refine at_dst (N := 43) rfl ?_); go_must (refine ev_append (W := w3) rfl rfl Tryd.underlying23 info3 rfl (by decide) (base := w1.heap.size) rfl (hst.out.carryG Hp2.out Hk3.out) (news := [.int .i64 vn]) rfl rfl (fun _ => ⟨_, rfl, World.news_of_block Hb4.out⟩) (by simp [Value.oneCell']) (by omega) (by decide) (by have h1 := HZ2.out; have h2 := Hk3.out.size; omega) ?_; intro gv' w4 hown4 hk4 hr4 hf4)
             have Hg4 := Lib.hid (And.intro hown4 hr4)
             have Hk4 := Lib.hid hk4
             have HZ4 := Lib.hid (show w1.heap.size ≤ w4.heap.size by have h1 := HZ2.out; have h2 := Hk3.out.size; have h3 := hk4.size; omega)
             clear hown4 hk4 hr4 hf4 hk3
             (try simp only [Act.put, List.setIfInBounds_toArray, List.set_cons_zero, List.set_cons_succ]))
          | ((with_reducible refine at_dst (N := 46) rfl ?_); go_must (refine ev_slice (cs := #[.int .i64 q]) (t := 3) (n := 1) (c := 1) rfl (by first | (go_simp; done) | (go_simp; rfl)) ?_; intro g5 w5 hg5 hl5 hb5 hk5); have Hb5 := Lib.hid hb5; have Hk5 := Lib.hid hk5; clear hb5; (try simp only [Act.put, List.setIfInBounds_toArray, List.set_cons_zero, List.set_cons_succ]))
          | ((with_reducible refine at_dst (N := 47) rfl ?_); go_must (refine ev_append (W := w5) rfl rfl Tryd.underlying23 info3 rfl (by decide) (base := w1.heap.size) rfl (hst.out.carryA Hp2.out Hk3.out Hk4.out Hk5.out) (news := [.int .i64 q]) rfl rfl (fun _ => ⟨_, rfl, World.news_of_block Hb5.out⟩) (by simp [Value.oneCell']) (by omega) (by decide) (by have h1 := HZ4.out; have h2 := Hk5.out.size; omega) ?_; intro av' w6 hown6 hk6 hr6 hf6)
             have Ha6 := Lib.hid (And.intro hown6 hr6)
             have Hk6 := Lib.hid hk6
             clear hown6 hk6 hr6 hf6 hk5
             go_must (have HFL := Lib.hid (hst.out.wrote hlt Hp2.out Hgood.out.1.inv Hk3.out Hk4.out Hk5.out Hk6.out Hg4.out.1 (by rw [Hqd.out]; exact Ha6.out.1) Hg4.out.2 Ha6.out.2 Hn01.out))
             have Hb36 := Lib.hid (HFL.out.post.blk Hb3.out Hg3.out.2.2)
             have f0 := (blk_cell Hb36.out 0).trans rfl
             have f1 := (blk_cell Hb36.out 1).trans rfl
             have f2 := (blk_cell Hb36.out 2).trans rfl
             (try simp only [Act.put, List.setIfInBounds_toArray, List.set_cons_zero, List.set_cons_succ]))
        )
        go_roundw
        case rel => exact ⟨k + 1, got ++ [vn], s1, X2, dv2, by go_num, by have := Hk0.out; omega, HFL, Lib.hid (fun h => absurd h (by omega)), Lib.hid (fun _ => ⟨vn, cn, Hr.out, by rw [Hgot.out]; rfl, n0, n1⟩)⟩
        case measure => simp [intOf]; have := Hk0.out; omega
    · obtain ⟨an, cn, ha, hgot, hn0, hn1⟩ := hex1.out (by omega)
      have hka : k < asks.length := by omega
      have hkz : (0 : Int) < k := by omega
      have hk1 : k = 1 := by omega
      obtain ⟨g6, cap6, rfl, hc6⟩ : ∃ g cap, u7 = .slice (some ⟨g, 0, none⟩) 1 cap ∧ wr.cell? ⟨g, 0, none⟩ = some (.int .i64 an) := by
        have ho := hst.out.gown
        rw [hk1, hgot] at ho
        rcases ho.2 with ⟨_, h0⟩ | ⟨g, cap, cur, hv, hg, hh, hnc, _, hcs, ht⟩
        · exact absurd h0 (by decide)
        · refine ⟨g, cap, hv, ?_⟩
          rw [blk_cell hh, ← Array.getElem?_toList]
          have := congrArg (·[0]?) ht
          simpa using this
      have Ha := Lib.hid ha
      have Hk1 := Lib.hid hk1
      have hpk := (pick_mem (E := E) (v := an) Hr0.out rfl hn0).1
      have hpos : 0 < (asks.length : Int) - 1 := by omega
      have a1 := Int.emod_nonneg an (show (asks.length : Int) - 1 ≠ 0 by omega)
      have a2 := Int.emod_lt_of_pos an hpos
      obtain ⟨j, hj⟩ := Int.eq_ofNat_of_zero_le a1
      have hjl : j + 1 < asks.length := by omega
      have hpe : pickOf ⟨3, N, asks⟩ an = asks.getD (1 + j) 0 := by
        show asks.getD (1 + an % ((asks.length : Int) - 1)).toNat 0 = _
        rw [hj, show (1 + (j : Int)).toNat = 1 + j by omega]
      obtain ⟨q1, Hq1⟩ : ∃ q, Hid (asks.getD (1 + j) 0 = q) := ⟨_, rfl⟩
      rw [hpe, Hq1.out] at hpk
      have Hpe := Lib.hid (hpe.trans Hq1.out)
      have Hj := Lib.hid hj
      have Hpk := Lib.hid hpk
      have fqk := hx1.cellAt (k := k) hka
      obtain ⟨qk, Hqk⟩ : ∃ q, Hid (asks.getD k 0 = q) := ⟨_, rfl⟩
      rw [Hqk.out] at fqk
      have fq1 := hx1.cellAt (k := 1 + j) (by omega)
      rw [Hq1.out] at fq1
      have hA : IntKind.i64.wrap ((asks.length : Int) - 1) = (asks.length : Int) - 1 := IntWalk.i64_in _ (by omega)
      have hB : an.tmod ((asks.length : Int) - 1) = (j : Int) := by rw [Int.tmod_eq_emod_of_nonneg hn0]; exact Hj.out
      have hC : IntKind.i64.wrap (1 + (j : Int)) = 1 + (j : Int) := IntWalk.i64_in _ (by omega)
      have hD : IntKind.i64.wrap (j : Int) = (j : Int) := IntWalk.i64_in _ (by omega)
      have hE : (1 + (j : Int)).toNat = 1 + j := by omega
      have hF : ¬ (asks.length : Int) - 1 = 0 := by omega
      have hG1 : 1 + (j : Int) < (asks.length : Int) := by omega
      have hG2 : (0 : Int) ≤ 1 + (j : Int) := by omega
      have hcore : RefPost w1 X wb sb hb kb nb E on dv sk wr.drew Xk dvk := hst.out.post.then (Keeps.refl Nob wr).drew (fun _ _ h => h.elim)
      have hrun := HIH.out wr.drew Xk wb sb hb kb nb sk dvk q1 hcore.core hst.out.inv Hpk.out
      have hgood := HG.out sk q1 hst.out.inv Hpk.out
      rcases hr2 : ask sk q1 with ⟨s2, r2⟩
      rw [hr2] at hrun hgood
      obtain ⟨bn, hbn⟩ : ∃ x, (endOf (s2, r2)).1 = x := ⟨_, rfl⟩
      obtain ⟨be, hbe⟩ : ∃ x, (endOf (s2, r2)).2 = x := ⟨_, rfl⟩
      unfold RefAns at hrun
      rw [hbn, hbe] at hrun
      have Hbn := Lib.hid hbn
      have Hbe := Lib.hid hbe
      have Hr2 := Lib.hid hr2
      have Hrun := Lib.hid hrun
      have Hgood := Lib.hid hgood
      have Hcore := Lib.hid hcore
      clear ha hk1 hpk hpos a1 a2 hj hpe hx1 hr2 hrun hgood hgot hbn hbe hcore hk0
      go_wp2_with fail
      refine wp_region_perm [(0, true), (1, true), (2, true), (3, true), (4, true), (5, true), (6, true), (7, true), (8, true), (9, true), (10, true), (11, true), (12, true), (13, true)] (fun w' => w'.cell? ⟨g3, 2, none⟩ = some (.slice (some ⟨b, o, none⟩) asks.length ac) ∧ w'.cell? ⟨g6, 0, none⟩ = some (.int .i64 an) ∧ w'.cell? ⟨b, o + (1 + j), none⟩ = some (.int .i64 q1)) rfl (by kernel_rfl) (by kernel_rfl) (by decide) (fun c a d v w h => by cases d <;> exact h) ⟨f2, hc6, fq1⟩ ?_
      refine perm_q (v := ?v1_0) (some 59) rfl rfl rfl ?q1_0 ?h1_0; (case q1_0 => (intro w' hS; obtain ⟨s1, s2, s3⟩ := hS; first | (go_simp; done) | (go_simp; rfl))); (try simp only [Act.put, List.setIfInBounds_toArray, List.set_cons_zero, List.set_cons_succ])
      refine perm_q (v := ?v1_1) (some 60) rfl rfl rfl ?q1_1 ?h1_1; (case q1_1 => (intro w' hS; obtain ⟨s1, s2, s3⟩ := hS; first | (go_simp; done) | (go_simp; rfl))); (try simp only [Act.put, List.setIfInBounds_toArray, List.set_cons_zero, List.set_cons_succ])
      refine perm_q (v := ?v1_2) (some 61) rfl rfl rfl ?q1_2 ?h1_2; (case q1_2 => (intro w' hS; obtain ⟨s1, s2, s3⟩ := hS; first | (go_simp; done) | (go_simp; rfl))); (try simp only [Act.put, List.setIfInBounds_toArray, List.set_cons_zero, List.set_cons_succ])
      refine perm_q (v := ?v1_3) (some 62) rfl rfl rfl ?q1_3 ?h1_3; (case q1_3 => (intro w' hS; obtain ⟨s1, s2, s3⟩ := hS; first | (go_simp; done) | (go_simp; rfl))); (try simp only [Act.put, List.setIfInBounds_toArray, List.set_cons_zero, List.set_cons_succ])
      refine perm_q (v := ?v1_4) (some 63) rfl rfl rfl ?q1_4 ?h1_4; (case q1_4 => (intro w' hS; obtain ⟨s1, s2, s3⟩ := hS; first | (go_simp; done) | (go_simp; rfl))); (try simp only [Act.put, List.setIfInBounds_toArray, List.set_cons_zero, List.set_cons_succ])
      refine perm_q (v := ?v1_5) (some 64) rfl rfl rfl ?q1_5 ?h1_5; (case q1_5 => (intro w' hS; obtain ⟨s1, s2, s3⟩ := hS; first | (go_simp; done) | (go_simp; rfl))); (try simp only [Act.put, List.setIfInBounds_toArray, List.set_cons_zero, List.set_cons_succ])
      refine perm_q (v := ?v1_6) (some 65) rfl rfl rfl ?q1_6 ?h1_6; (case q1_6 => (intro w' hS; obtain ⟨s1, s2, s3⟩ := hS; first | (go_simp; done) | (go_simp; rfl))); (try simp only [Act.put, List.setIfInBounds_toArray, List.set_cons_zero, List.set_cons_succ])
      refine perm_q (v := ?v1_7) (some 66) rfl rfl rfl ?q1_7 ?h1_7; (case q1_7 => (intro w' hS; obtain ⟨s1, s2, s3⟩ := hS; first | (go_simp; done) | (go_simp; rfl))); (try simp only [Act.put, List.setIfInBounds_toArray, List.set_cons_zero, List.set_cons_succ])
      refine perm_q (v := ?v1_8) (some 67) rfl rfl rfl ?q1_8 ?h1_8; (case q1_8 => (intro w' hS; obtain ⟨s1, s2, s3⟩ := hS; first | (go_simp; done) | (go_simp; rfl))); (try simp only [Act.put, List.setIfInBounds_toArray, List.set_cons_zero, List.set_cons_succ])
      refine perm_q (v := ?v1_9) (some 68) rfl rfl rfl ?q1_9 ?h1_9; (case q1_9 => (intro w' hS; obtain ⟨s1, s2, s3⟩ := hS; first | (go_simp; done) | (go_simp; rfl))); (try simp only [Act.put, List.setIfInBounds_toArray, List.set_cons_zero, List.set_cons_succ])
      refine perm_q (v := ?v1_10) (some 69) rfl rfl rfl ?q1_10 ?h1_10; (case q1_10 => (intro w' hS; obtain ⟨s1, s2, s3⟩ := hS; first | (go_simp; done) | (go_simp; rfl))); (try simp only [Act.put, List.setIfInBounds_toArray, List.set_cons_zero, List.set_cons_succ])
      refine perm_q (v := ?v1_11) (some 70) rfl rfl rfl ?q1_11 ?h1_11; (case q1_11 => (intro w' hS; obtain ⟨s1, s2, s3⟩ := hS; first | (go_simp; done) | (go_simp; rfl))); (try simp only [Act.put, List.setIfInBounds_toArray, List.set_cons_zero, List.set_cons_succ])
      refine perm_q (v := ?v1_12) (some 71) rfl rfl rfl ?q1_12 ?h1_12; (case q1_12 => (intro w' hS; obtain ⟨s1, s2, s3⟩ := hS; first | (go_simp; done) | (go_simp; rfl))); (try simp only [Act.put, List.setIfInBounds_toArray, List.set_cons_zero, List.set_cons_succ])
      refine perm_q (v := ?v1_13) (some 13) rfl rfl rfl ?q1_13 ?h1_13; (case q1_13 => (intro w' hS; obtain ⟨s1, s2, s3⟩ := hS; first | (go_simp; done) | (go_simp; rfl))); (try simp only [Act.put, List.setIfInBounds_toArray, List.set_cons_zero, List.set_cons_succ])
      refine perm_nil ?_
      go_wp2_with (first
        | (go_at_call 69; go_must (refine Hrun.out.mono ?_; rintro e w2 ⟨X2, dv2, hp2, rfl⟩); have Hp2 := Lib.hid hp2; clear hp2; have HZ2 := Lib.hid (show w1.heap.size ≤ w2.heap.size from Nat.le_trans Hcore.out.keep.size Hp2.out.keep.size); (try simp only [Act.put, List.setIfInBounds_toArray, List.set_cons_zero, List.set_cons_succ]))
        | ((with_reducible refine at_dst (N := 81) rfl ?_); go_must (refine ev_slice (cs := #[.int .i64 q1]) (t := 3) (n := 1) (c := 1) rfl (by first | (go_simp; done) | (go_simp; rfl)) ?_; intro g4 w3 hg4 hl4 hb4 hk3); have Hb4 := Lib.hid hb4; have Hk3 := Lib.hid hk3; clear hb4; (try simp only [Act.put, List.setIfInBounds_toArray, List.set_cons_zero, List.set_cons_succ]))
        | ((with_reducible refine at_dst (N := 82) rfl ?_); go_must (refine ev_append (W := w3) rfl rfl Tryd.underlying23 info3 rfl (by decide) (base := w1.heap.size) rfl (ownsRow_keep (ownsRow_keep (ownsRow_keep hst.out.aown (Keeps.refl Nob wr).drew (fun _ _ => id)) Hp2.out.keep (fun b hb hm => (hst.out.ax b hb).1 hm.fp)) Hk3.out (fun _ _ => id)) (news := [.int .i64 q1]) rfl rfl (fun _ => ⟨_, rfl, World.news_of_block Hb4.out⟩) (by simp [Value.oneCell']) (by omega) (by decide) (by have h1 := HZ2.out; have h2 := Hk3.out.size; omega) ?_; intro av' w4 hown4 hk4 hr4 hf4)
           have Ha4 := Lib.hid (And.intro hown4 hr4)
           have Hk4 := Lib.hid hk4
           clear hown4 hk4 hr4 hf4 hk3
           (try simp only [Act.put, List.setIfInBounds_toArray, List.set_cons_zero, List.set_cons_succ]))
      )
      go_ret3
      have hRR := HRR.out
      (try dsimp only at hRR)
      rw [Hq0.out, Ha.out] at hRR
      simp only [Hpe.out, Hr2.out] at hRR
      have fa := far_of hst.out.aown
      have haf : ∀ b, Value.ownBlock u8 = some b → ¬ RefB wb sb hb kb nb dv2 X2 b := fun b hb => Hp2.out.notF (fa b hb).2 (hst.out.ax b hb).1
      have hk24 : Keeps (fun i => some i = Value.ownBlock u8) w2 w4 := (Hk3.out.mono (M' := fun i => some i = Value.ownBlock u8) (fun _ _ h => h.elim)).trans Hk4.out (fun _ _ h => h)
      have hpost := RefPost.after HK1.out ((Hcore.out.trans Hp2.out).then hk24 (fun i hi hm => ⟨(fa i hm.symm).1, haf i hm.symm⟩))
      cases r2 with
      | error c =>
        simp only at hRR
        rw [← hRR]
        have he : be = c := Hbe.out.symm
        rw [he]
        exact ⟨X2, dv2, hpost, _, _, rfl⟩
      | ok y =>
        obtain ⟨vn2, cn2⟩ := y
        simp only at hRR
        rw [← hRR]
        have he : be = 0 := Hbe.out.symm
        have hv : bn = vn2 := Hbn.out.symm
        rw [he, hv]
        refine ⟨X2, dv2, hpost, av', rfl, ?_, fun b hb => ?_⟩
        · have h := own_base Ha4.out.1
          have h1 : (asks.take k).map (Value.int .i64) ++ [.int .i64 q1] = [asks.getD 0 0, q1].map (Value.int .i64) := by
            rw [Hk1.out, List.take_succ_eq_append_getElem hlen]
            simp [List.getD_eq_getElem?_getD, hlen]
          rw [h1, Hk1.out, Hq0.out] at h
          exact h
        · rcases Ha4.out.2 with hr | ⟨b', hb', hl⟩
          · rw [hr] at hb
            exact ⟨Nat.le_trans HK1.out.size (fa b hb).1, haf b hb⟩
          · rw [hb'] at hb; injection hb with hb
            have h1 := Hk3.out.size
            have h2 := HK1.out.size
            have h3 := HZ2.out
            exact ⟨by omega, fun hf => by have := Hp2.out.core.fp_lt _ hf; omega⟩
/-- A RULE, of any kind but an input's. -/
theorem refRule_any {E : Env} {on : List Int} {ask : AskFn} (IH : RefAskOK E on ask) (hG : QM.Good E on ask) (hT : QM.Told E on ask) (w : World) (X : Nat → Prop) (wb sb hb kb nb : Nat) (s : PS) (dv asv : Value) (r : QRule) (hr : ROk E.rules.length r) (h1 : r.kind ≠ 1)
    (hc : RefC w X wb sb hb kb nb E on s dv) (hi : PInv E on s) (hx : IntsX w X asv r.asks) :
    Calls Tryd.prog 74 #[.pointer (some ⟨wb, 0, none⟩), .agg #[.int .i64 r.kind, .int .i64 r.n, asv]] w (RuleAns w X wb sb hb kb nb E on dv (evalR ask s r)) := by
  by_cases h3 : r.kind = 3
  · exact refRule_pick IH hG hT w X wb sb hb kb nb s dv asv r hr h3 hc hi hx
  · exact refRule_loop IH hG hT w X wb sb hb kb nb s dv asv r hr h1 h3 hc hi hx
end Go.Proofs.QW

/-
  The specification works a question out (work), in memory: it comes to the model's 'workF'. Condition: nested askings come to the model's.
-/
namespace Go.Proofs.QW
open Go.RowKit Go.Proofs.KL Go.Proofs.QM
set_option maxRecDepth 100000
set_option linter.unusedSimpArgs false
set_option linter.unusedVariables false

theorem info113 : ∃ i, Tryd.prog.info? 113 = some i ∧ i.size = 5 := by
  have h : (Tryd.prog.info? 113).map (·.size) = some 5 := by kernel_rfl
  obtain ⟨i, hi, hs⟩ := Option.map_eq_some_iff.1 h
  exact ⟨i, hi, hs⟩
theorem zero113 : (Tryd.prog.info? 113).map (·.zero) = some (some (.agg #[.bool false, .int .i64 0, .slice none 0 0, .int .i64 0, .int .i64 0])) := by kernel_rfl
section
variable {w w2 w' : World} {X X2 X' : Nat → Prop} {wb sb hb kb nb : Nat} {E : Env} {on : List Int} {s s1 s' : PS} {dv dv2 dv' : Value}
/-- More behind what an asking leaves. -/
theorem RefPost.more {M : Nat → Prop} (h : RefPost w X wb sb hb kb nb E on dv s1 w2 X2 dv2) (hk : Keeps M w2 w') (hM : ∀ i, i < w2.heap.size → M i → MRef wb kb nb dv2 i) (hr : dv'.ownBlock = dv2.ownBlock ∨ ∃ b, dv'.ownBlock = some b ∧ w2.heap.size ≤ b) (hx : ∀ b, b < w.heap.size → (X' b ↔ X2 b)) {on' : List Int} (hc : RefC w' X' wb sb hb kb nb E on' s' dv') : RefPost w X wb sb hb kb nb E on' dv s' w' X' dv' := by
  have hs := h.keep.size
  refine ⟨fun b hb => (hx b hb).trans (h.xx b hb), h.keep.trans hk (fun i hi hm => ?_), ?_, hc⟩
  · rcases hM i (Nat.lt_of_lt_of_le hi hs) hm with h1 | h1 | h1 | h1
    · exact .inl h1
    · exact .inr (.inl h1)
    · exact .inr (.inr (.inl h1))
    · rcases h.row with hr | ⟨b, hb, hlt⟩
      · exact .inr (.inr (.inr (h1.trans hr)))
      · rw [hb] at h1; injection h1 with h1; omega
  · rcases hr with hr | ⟨b, hb, hlt⟩
    · rw [hr]; exact h.row
    · exact .inr ⟨b, hb, by omega⟩
/-- The engine's own block is written: what was done grows. -/
theorem RefC.grow {rv : Value} (h : RefC w X wb sb hb kb nb E on s dv) (hk : Keeps (fun k => k = wb ∨ some k = dv.ownBlock) w w') (hw : w.heap[wb]? = some (.cells #[rv, .slice (some ⟨sb, 0, none⟩) E.rules.length E.rules.length, .slice (some ⟨hb, 0, none⟩) E.rules.length E.rules.length, .slice (some ⟨kb, 0, none⟩) E.rules.length E.rules.length, .int .i64 E.rev, .slice (some ⟨nb, 0, none⟩) E.rules.length E.rules.length, dv, .int .i64 E.most] 100 (0, 0)))
    (hb' : w'.heap[wb]? = some (.cells #[rv, .slice (some ⟨sb, 0, none⟩) E.rules.length E.rules.length, .slice (some ⟨hb, 0, none⟩) E.rules.length E.rules.length, .slice (some ⟨kb, 0, none⟩) E.rules.length E.rules.length, .int .i64 E.rev, .slice (some ⟨nb, 0, none⟩) E.rules.length E.rules.length, dv', .int .i64 E.most] 100 (0, 0)))
    (ho : w'.ownsRow 0 3 1 dv' (s'.done.length) (s'.done.map (Value.int .i64))) (ha : s'.ans = s.ans) (hr : dv'.ownBlock = dv.ownBlock ∨ ∃ b, dv'.ownBlock = some b ∧ w.heap.size ≤ b) : RefC w' X wb sb hb kb nb E on s' dv' := by
  obtain ⟨⟨a1, a2, a3, a4⟩, ⟨a5, a6⟩, ⟨a7, a8⟩, a9⟩ := h.apart
  obtain ⟨d1, d2, d3, d4, d5⟩ := h.apartD
  obtain ⟨⟨l1, l2, l3⟩, l4, l5⟩ := h.lts
  obtain ⟨⟨rv', b1, b2⟩, h2, h3, h4, h5, h6, x1, x2, x3, x4, x5, x6, x7, x8, x9, x10⟩ := h
  have hrv : rv' = rv := by
    have := b1.symm.trans hw
    injection this with this
    injection this with this _ _
    exact Option.some.inj (show some rv' = some rv from congrArg (fun x : Array Value => x[0]?) this)
  have hX : ∀ b, b < w.heap.size → X b → ¬ (b = wb ∨ some b = dv.ownBlock) := fun b _ hx hm => hm.elim (fun e => x1 (e ▸ hx)) (fun e => x6 b e.symm hx)
  refine ⟨⟨rv, hb', (hrv ▸ b2).keep hk hX (fun _ _ h => h)⟩, h2.keep hk (fun hm => hm.elim (fun e => a1 e.symm) d2), h3.keep hk (fun hm => hm.elim (fun e => a2 e.symm) d3), by rw [ha]; exact h4.keep hk (fun hm => hm.elim (fun e => a3 e.symm) d4) hX (fun _ _ h => h), h5.keep hk (fun hm => hm.elim (fun e => a4 e.symm) d5), ho, x1, x2, x3, x4, x5, fun b hb => ?_, fun e => ?_, fun e => ?_, x9, fun k hx => Nat.lt_of_lt_of_le (x10 k hx) hk.size⟩
  · rcases hr with hr | ⟨b', hb', hl⟩
    · exact x6 b (hr ▸ hb)
    · rw [hb'] at hb; injection hb with hb; intro hx; have := x10 b hx; omega
  · rcases hr with hr | ⟨b', hb', hl⟩
    · exact x7 (hr ▸ e)
    · rw [hb'] at e; injection e with e; omega
  · rcases hr with hr | ⟨b', hb', hl⟩
    · exact x8 (hr ▸ e)
    · rw [hb'] at e; injection e with e; omega
/-- A kept answer is written. -/
theorem RowX.put {kb n q : Nat} {ans : List (Option KeptR)} {cs : Array Value} {k : Option KeptR} {u : Value} {vs : List Value} (hl : ans.length = n) (h : ∀ i, i < n → RowC cs w' X' i (ans.getD i none)) (hq : q < n)
    (hvs : vs = [.bool k.isSome, .int .i64 (k.getD k0).value, u, .int .i64 (k.getD k0).checked, .int .i64 (k.getD k0).changed]) (hu : IntsX w' X' u (k.getD k0).asked)
    (hb : w'.heap[kb]? = some (.cells ((cs.toList.take (q * 5) ++ vs ++ cs.toList.drop (q * 5 + vs.length)).toArray) 113 (0, 0))) : RowX w' X' kb n (ans.set q k) := by
  refine ⟨_, hb, fun i hi => ?_⟩
  have hs := (h q hq)
  obtain ⟨_, _, _, _, _, hs, _⟩ := hs
  have hs := pget_size hs
  have hv : vs.length = 5 := by rw [hvs]; rfl
  have hsp := fun j => psplice_get (cs := cs) (vs := vs) (off := q * 5) (by omega) j
  unfold RowC
  rw [hsp, hsp, hsp, hsp, hsp, hv]
  by_cases e : i = q
  · subst e
    rw [if_pos (by omega), if_pos (by omega), if_pos (by omega), if_pos (by omega), if_pos (by omega), hvs]
    rw [show i * 5 - i * 5 = 0 by omega, show i * 5 + 1 - i * 5 = 1 by omega, show i * 5 + 2 - i * 5 = 2 by omega, show i * 5 + 3 - i * 5 = 3 by omega, show i * 5 + 4 - i * 5 = 4 by omega]
    rw [List.getD_eq_getElem?_getD, List.getElem?_set, if_pos rfl, if_pos (by omega)]
    exact ⟨u, rfl, rfl, rfl, rfl, rfl, hu⟩
  · rw [if_neg (by omega), if_neg (by omega), if_neg (by omega), if_neg (by omega), if_neg (by omega)]
    rw [List.getD_eq_getElem?_getD, List.getElem?_set, if_neg (fun h => e h.symm), ← List.getD_eq_getElem?_getD]
    exact h i hi
theorem RowC.keep {M : Nat → Prop} {cs : Array Value} {i : Nat} {k : Option KeptR} (h : RowC cs w X i k) (hk : Keeps M w w') (hX : ∀ b, b < w.heap.size → X b → ¬ M b) (hX' : ∀ b, b < w.heap.size → X b → X' b) : RowC cs w' X' i k := by
  obtain ⟨u, h0, h1, h2, h3, h4, h5⟩ := h
  exact ⟨u, h0, h1, h2, h3, h4, h5.keep hk hX hX'⟩
theorem RefC.put {cs : Array Value} {q : Nat} {k : Option KeptR} {u : Value} {vs : List Value} (h : RefC w X wb sb hb kb nb E on s dv) (hkb : w.heap[kb]? = some (.cells cs 113 (0, 0))) (hl : s.ans.length = E.rules.length) (hq : q < E.rules.length) (hk : Keeps (· = kb) w w')
    (hvs : vs = [.bool k.isSome, .int .i64 (k.getD k0).value, u, .int .i64 (k.getD k0).checked, .int .i64 (k.getD k0).changed]) (hXX : ∀ b, X b → X' b) (hu : IntsX w' X' u (k.getD k0).asked) (hX' : ∀ b, X' b → ¬ X b → b < w.heap.size ∧ ¬ RefB wb sb hb kb nb dv X b)
    (hb' : w'.heap[kb]? = some (.cells ((cs.toList.take (q * 5) ++ vs ++ cs.toList.drop (q * 5 + vs.length)).toArray) 113 (0, 0))) : RefC w' X' wb sb hb kb nb E on { s with ans := s.ans.set q k } dv := by
  obtain ⟨⟨a1, a2, a3, a4⟩, ⟨a5, a6⟩, ⟨a7, a8⟩, a9⟩ := h.apart
  obtain ⟨d1, d2, d3, d4, d5⟩ := h.apartD
  have hf := h.fp_lt
  obtain ⟨⟨rv, b1, b2⟩, h2, h3, ⟨cs', h4, h4'⟩, h5, h6, x1, x2, x3, x4, x5, x6, x7, x8, x9, x10⟩ := h
  obtain rfl : cs' = cs := by have := h4.symm.trans hkb; injection this with this; injection this with this _ _
  have hX : ∀ b, b < w.heap.size → X b → ¬ b = kb := fun b _ hx e => x4 (e ▸ hx)
  have hn : ∀ b, RefB wb sb hb kb nb dv X b → ¬ X b → ¬ X' b := fun b hr hx hx' => (hX' b hx' hx).2 hr
  refine ⟨⟨rv, hk.blk b1 a3, b2.keep hk hX (fun b _ h => hXX b h)⟩, h2.keep hk a5, h3.keep hk a7, RowX.put hl (fun i hi => (h4' i hi).keep hk hX (fun b _ h => hXX b h)) hq hvs hu hb', h5.keep hk (fun e => a9 e.symm), ownsRow_keep h6 hk (fun b hb e => d4 (e ▸ hb.symm)), hn _ (.inl rfl) x1, hn _ (.inr (.inl rfl)) x2, hn _ (.inr (.inr (.inl rfl))) x3, hn _ (.inr (.inr (.inr (.inl rfl)))) x4, hn _ (.inr (.inr (.inr (.inr (.inl rfl))))) x5,
    fun b hb => hn b (.inr (.inr (.inr (.inr (.inr (.inl hb.symm)))))) (x6 b hb), x7, x8, x9, fun b hx => Nat.lt_of_lt_of_le ?_ hk.size⟩
  by_cases e : X b
  · exact x10 b e
  · exact (hX' b hx e).1
end
set_option maxHeartbeats 8000000 in
/-- WORK. -/
theorem refWork {E : Env} (hE : EnvOk E) {on : List Int} {ask : AskFn} {q : Int} (IH : RefAskOK E (q :: on) ask) (hG : QM.Good E (q :: on) ask) (hT : QM.Told E (q :: on) ask) (hq : InQ E q) (hk1 : (E.rule q).kind ≠ 1) (w : World) (X : Nat → Prop) (wb sb hb kb nb : Nat) (s : PS) (dv : Value)
    (hc : RefC w X wb sb hb kb nb E (q :: on) s dv) (hi : PInv E (q :: on) s) :
    Calls Tryd.prog 72 #[.pointer (some ⟨wb, 0, none⟩), .int .i64 q] w (RefAns w X wb sb hb kb nb E (q :: on) dv (workF E ask s q (s.get q))) := by
  obtain ⟨RR, hRR⟩ : ∃ x, workF E ask s q (s.get q) = x := ⟨_, rfl⟩
  rw [hRR]
  unfold workF at hRR
  have hr := hE.rok _ (rule_mem hq)
  have hgood := (evalR_good hE hG hr hi).1
  have hnz := evalR_nz hG hT hr hi
  obtain ⟨i, rfl⟩ := Int.eq_ofNat_of_zero_le hq.1
  have hin : i < E.rules.length := by have := hq.2; omega
  have hm0 := hE.most0
  have h200 := hE.len
  obtain ⟨rv, hb0, hrx⟩ := hc.blk
  obtain ⟨rA, rc, rfl, hrc, hrcell⟩ := id hrx
  obtain ⟨b, o, u, rfl, hXb, e0, e1, e2, hu⟩ := hrcell i hin
  rw [getD_ruleI] at e0 e1 hu
  obtain ⟨uA, uc, rfl, -, -⟩ := id hu
  have hrun0 := refRule_any IH hG hT w X wb sb hb kb nb s dv _ (E.rule i) hr hk1 hc hi hu
  have p0 := (blk_cell hb0 0).trans rfl
  generalize E.rule (i : Int) = r at *
  rcases hev : evalR ask s r with ⟨s1, r1⟩
  rw [hev] at hRR hgood hnz hrun0
  obtain ⟨i23, hi23, hs23⟩ := info23
  obtain ⟨i113, hi113, hs113⟩ := info113
  obtain ⟨i3, hi3, hs3⟩ := infoS3
  have HI := Lib.hid (And.intro (And.intro hi23 hs23) (And.intro hi113 hs113))
  have HI3 := Lib.hid (And.intro hi3 hs3)
  clear hi3 hs3
  have hfix := hgood.fix (i : Int) List.mem_cons_self
  have Hlen := Lib.hid (show s1.ans.length = E.rules.length from hgood.inv.alen)
  have hdl := hgood.inv.dlen
  cases r1 with
  | error c =>
    have hrun : Calls Tryd.prog 74 #[.pointer (some ⟨wb, 0, none⟩), .agg #[.int .i64 r.kind, .int .i64 r.n, .slice uA r.asks.length uc]] w (fun e w' => ∃ X' dv', RefPost w X wb sb hb kb nb E (↑i :: on) dv s1 w' X' dv' ∧ ∃ n av, e = .returned (.tuple #[n, av, .int .i64 c])) := hrun0
    have Hrun := Lib.hid hrun
    have HRR := Lib.hid hRR
    have hcz : (c != 0) = true := by simpa using hnz c rfl
    clear hrun0 hrun hRR hnz hgood hfix hev hrx hrcell hb0 hi hc IH hG hT hu hq hXb hr hk1 hi23 hs23 hi113 hs113 hE
    go_enter Tryd.func72, Tryd.ntmps72
    go_wp2_with (go_at_call 74; go_must (refine Hrun.out.mono ?_; rintro e w2 ⟨X2, dv2, hp2, n_, av, rfl⟩); have Hp2 := Lib.hid hp2; clear hp2; (try simp only [Act.put, List.setIfInBounds_toArray, List.set_cons_zero, List.set_cons_succ]))
    go_ret2
    rw [← HRR.out]
    exact ⟨X2, dv2, Hp2.out, rfl⟩
  | ok y =>
    obtain ⟨vn, asked⟩ := y
    have hrun : Calls Tryd.prog 74 #[.pointer (some ⟨wb, 0, none⟩), .agg #[.int .i64 r.kind, .int .i64 r.n, .slice uA r.asks.length uc]] w (fun e w' => ∃ X' dv', RefPost w X wb sb hb kb nb E (↑i :: on) dv s1 w' X' dv' ∧ ∃ av, e = .returned (.tuple #[.int .i64 vn, av, .int .i64 0]) ∧ w'.ownsRow 0 3 1 av asked.length (asked.map (Value.int .i64)) ∧ ∀ b, av.ownBlock = some b → w.heap.size ≤ b ∧ ¬ RefB wb sb hb kb nb dv' X' b) := hrun0
    have Hrun := Lib.hid hrun
    simp only at hRR
    have HRR := Lib.hid hRR
    obtain ⟨was, hwas⟩ : ∃ x, s.get (i : Int) = x := ⟨_, rfl⟩
    have hg1 : s1.ans.getD i none = was := by have h := hfix; unfold PS.get at h hwas; rw [Int.toNat_natCast] at h hwas; rw [h]; exact hwas
    rw [hwas] at HRR
    clear hrun0 hrun hRR hnz hgood hfix hev hrx hrcell hb0 hi hc IH hG hT hu hq hXb hr hk1 hi23 hs23 hi113 hs113 hE hwas
    obtain ⟨wis, hwis⟩ : ∃ x, was.isSome = x := ⟨_, rfl⟩
    obtain ⟨wval, hwval⟩ : ∃ x, (was.getD k0).value = x := ⟨_, rfl⟩
    obtain ⟨wask, hwask⟩ : ∃ x, (was.getD k0).asked = x := ⟨_, rfl⟩
    obtain ⟨wck, hwck⟩ : ∃ x, (was.getD k0).checked = x := ⟨_, rfl⟩
    obtain ⟨wch, hwch⟩ : ∃ x, (was.getD k0).changed = x := ⟨_, rfl⟩
    have Hsz := Lib.hid (show ∀ (ck : Array Value) (w2 : World) (X2 : Nat → Prop), RowC ck w2 X2 i (s1.ans.getD i none) → i * 5 + 4 < ck.size from fun ck w2 X2 ⟨_, _, _, _, _, h, _⟩ => pget_size h)
    have Hck1 := Lib.hid (show ∀ (ck : Array Value) (w2 : World) (X2 : Nat → Prop), RowC ck w2 X2 i (s1.ans.getD i none) → ∃ u, ck[i * 5]? = some (.bool wis) ∧ ck[i * 5 + 1]? = some (.int .i64 wval) ∧ ck[i * 5 + 2]? = some u ∧ ck[i * 5 + 3]? = some (.int .i64 wck) ∧ ck[i * 5 + 4]? = some (.int .i64 wch) ∧ IntsX w2 X2 u wask from fun ck w2 X2 h => by
      rw [hg1] at h
      unfold RowC at h
      rw [hwis, hwval, hwask, hwck, hwch] at h
      exact h)
    have Hwas := Lib.hid (And.intro (And.intro hwis hwval) hwch)
    clear hg1 hwis hwval hwask hwck hwch
    by_cases hm : E.most ≤ (s1.done.length : Int)
    · have hR := HRR.out
      rw [if_pos hm] at hR
      have HR := Lib.hid hR
      clear hR HRR
      go_enter Tryd.func72, Tryd.ntmps72
      go_wp2_with (first
        | (go_at_call 74; go_must (refine Hrun.out.mono ?_; rintro e w2 ⟨X2, dv2, hp2, av, rfl, hav, hab⟩; obtain ⟨dA, dc, rfl⟩ := own_slice hp2.core.own; obtain ⟨aA, ac2, rfl⟩ := own_slice hav)
           have hbk : ∃ rv2, w2.heap[wb]? = some (.cells #[rv2, .slice (some ⟨sb, 0, none⟩) E.rules.length E.rules.length, .slice (some ⟨hb, 0, none⟩) E.rules.length E.rules.length, .slice (some ⟨kb, 0, none⟩) E.rules.length E.rules.length, .int .i64 E.rev, .slice (some ⟨nb, 0, none⟩) E.rules.length E.rules.length, .slice dA s1.done.length dc, .int .i64 E.most] 100 (0, 0)) ∧ True := by obtain ⟨rv2, h, _⟩ := hp2.core.blk; exact ⟨rv2, h, trivial⟩
           obtain ⟨rv2, hb2, -⟩ := hbk
           have hrw : ∃ ck : Array Value, w2.heap[kb]? = some (.cells ck 113 (0, 0)) ∧ Hid (∀ j, j < E.rules.length → RowC ck w2 X2 j (s1.ans.getD j none)) := hp2.core.row
           obtain ⟨ck, hck, Hckx⟩ := hrw
           have p3 := (blk_cell hb2 3).trans rfl
           have p4 := (blk_cell hb2 4).trans rfl
           have p6 := (blk_cell hb2 6).trans rfl
           have p7 := (blk_cell hb2 7).trans rfl
           have Hp2 := Lib.hid hp2
           have Hav := Lib.hid hav
           have Hab := Lib.hid hab
           have Hb2 := Lib.hid hb2
           have Hck := Lib.hid hck
           clear hp2 hav hab hb2 hck p0 e0 e1 e2
           (try simp only [Act.put, List.setIfInBounds_toArray, List.set_cons_zero, List.set_cons_succ]))
      )
      refine wp_region_perm [(0, true), (1, true), (2, true), (3, true), (4, true), (5, true), (6, true), (7, true), (8, true), (9, true), (10, true), (11, true), (12, true), (13, true), (14, true), (15, true), (16, true)] (fun w' => w'.cell? ⟨wb, 6, none⟩ = some (.slice dA s1.done.length dc) ∧ w'.cell? ⟨wb, 7, none⟩ = some (.int .i64 E.most)) rfl (by kernel_rfl) (by kernel_rfl) (by decide) (fun c a d v w h => by cases d <;> exact h) ⟨p6, p7⟩ ?_
      refine perm_q (v := ?v1_0) (some 27) rfl rfl rfl ?q1_0 ?h1_0; (case q1_0 => (intro w' hS; obtain ⟨z1, z2⟩ := hS; first | (go_simp; done) | (go_simp; rfl))); (try simp only [Act.put, List.setIfInBounds_toArray, List.set_cons_zero, List.set_cons_succ])
      refine perm_q (v := ?v1_1) (some 28) rfl rfl rfl ?q1_1 ?h1_1; (case q1_1 => (intro w' hS; obtain ⟨z1, z2⟩ := hS; first | (go_simp; done) | (go_simp; rfl))); (try simp only [Act.put, List.setIfInBounds_toArray, List.set_cons_zero, List.set_cons_succ])
      refine perm_q (v := ?v1_2) (some 29) rfl rfl rfl ?q1_2 ?h1_2; (case q1_2 => (intro w' hS; obtain ⟨z1, z2⟩ := hS; first | (go_simp; done) | (go_simp; rfl))); (try simp only [Act.put, List.setIfInBounds_toArray, List.set_cons_zero, List.set_cons_succ])
      refine perm_q (v := ?v1_3) (some 30) rfl rfl rfl ?q1_3 ?h1_3; (case q1_3 => (intro w' hS; obtain ⟨z1, z2⟩ := hS; first | (go_simp; done) | (go_simp; rfl))); (try simp only [Act.put, List.setIfInBounds_toArray, List.set_cons_zero, List.set_cons_succ])
      refine perm_q (v := ?v1_4) (some 31) rfl rfl rfl ?q1_4 ?h1_4; (case q1_4 => (intro w' hS; obtain ⟨z1, z2⟩ := hS; first | (go_simp; done) | (go_simp; rfl))); (try simp only [Act.put, List.setIfInBounds_toArray, List.set_cons_zero, List.set_cons_succ])
      refine perm_q (v := ?v1_5) (some 32) rfl rfl rfl ?q1_5 ?h1_5; (case q1_5 => (intro w' hS; obtain ⟨z1, z2⟩ := hS; first | (go_simp; done) | (go_simp; rfl))); (try simp only [Act.put, List.setIfInBounds_toArray, List.set_cons_zero, List.set_cons_succ])
      refine perm_q (v := ?v1_6) (some 33) rfl rfl rfl ?q1_6 ?h1_6; (case q1_6 => (intro w' hS; obtain ⟨z1, z2⟩ := hS; first | (go_simp; done) | (go_simp; rfl))); (try simp only [Act.put, List.setIfInBounds_toArray, List.set_cons_zero, List.set_cons_succ])
      refine perm_q (v := ?v1_7) (some 34) rfl rfl rfl ?q1_7 ?h1_7; (case q1_7 => (intro w' hS; obtain ⟨z1, z2⟩ := hS; first | (go_simp; done) | (go_simp; rfl))); (try simp only [Act.put, List.setIfInBounds_toArray, List.set_cons_zero, List.set_cons_succ])
      refine perm_q (v := ?v1_8) (some 35) rfl rfl rfl ?q1_8 ?h1_8; (case q1_8 => (intro w' hS; obtain ⟨z1, z2⟩ := hS; first | (go_simp; done) | (go_simp; rfl))); (try simp only [Act.put, List.setIfInBounds_toArray, List.set_cons_zero, List.set_cons_succ])
      refine perm_q (v := ?v1_9) (some 36) rfl rfl rfl ?q1_9 ?h1_9; (case q1_9 => (intro w' hS; obtain ⟨z1, z2⟩ := hS; first | (go_simp; done) | (go_simp; rfl))); (try simp only [Act.put, List.setIfInBounds_toArray, List.set_cons_zero, List.set_cons_succ])
      refine perm_q (v := ?v1_10) (some 37) rfl rfl rfl ?q1_10 ?h1_10; (case q1_10 => (intro w' hS; obtain ⟨z1, z2⟩ := hS; first | (go_simp; done) | (go_simp; rfl))); (try simp only [Act.put, List.setIfInBounds_toArray, List.set_cons_zero, List.set_cons_succ])
      refine perm_q (v := ?v1_11) (some 38) rfl rfl rfl ?q1_11 ?h1_11; (case q1_11 => (intro w' hS; obtain ⟨z1, z2⟩ := hS; first | (go_simp; done) | (go_simp; rfl))); (try simp only [Act.put, List.setIfInBounds_toArray, List.set_cons_zero, List.set_cons_succ])
      refine perm_q (v := ?v1_12) (some 39) rfl rfl rfl ?q1_12 ?h1_12; (case q1_12 => (intro w' hS; obtain ⟨z1, z2⟩ := hS; first | (go_simp; done) | (go_simp; rfl))); (try simp only [Act.put, List.setIfInBounds_toArray, List.set_cons_zero, List.set_cons_succ])
      refine perm_q (v := ?v1_13) (some 40) rfl rfl rfl ?q1_13 ?h1_13; (case q1_13 => (intro w' hS; obtain ⟨z1, z2⟩ := hS; first | (go_simp; done) | (go_simp; rfl))); (try simp only [Act.put, List.setIfInBounds_toArray, List.set_cons_zero, List.set_cons_succ])
      refine perm_q (v := ?v1_14) (some 41) rfl rfl rfl ?q1_14 ?h1_14; (case q1_14 => (intro w' hS; obtain ⟨z1, z2⟩ := hS; first | (go_simp; done) | (go_simp; rfl))); (try simp only [Act.put, List.setIfInBounds_toArray, List.set_cons_zero, List.set_cons_succ])
      refine perm_q (v := ?v1_15) (some 42) rfl rfl rfl ?q1_15 ?h1_15; (case q1_15 => (intro w' hS; obtain ⟨z1, z2⟩ := hS; first | (go_simp; done) | (go_simp; rfl))); (try simp only [Act.put, List.setIfInBounds_toArray, List.set_cons_zero, List.set_cons_succ])
      refine perm_q (v := ?v1_16) (some 43) rfl rfl rfl ?q1_16 ?h1_16; (case q1_16 => (intro w' hS; obtain ⟨z1, z2⟩ := hS; first | (go_simp; done) | (go_simp; rfl))); (try simp only [Act.put, List.setIfInBounds_toArray, List.set_cons_zero, List.set_cons_succ])
      refine perm_nil ?_
      go_wp2
      go_ret2
      rw [← HR.out]
      exact ⟨X2, _, Hp2.out.then (Keeps.refl Nob w2).drew (fun _ _ h => h.elim), rfl⟩
    · have hR := HRR.out
      rw [if_neg hm] at hR
      have HRR := Lib.hid hR
      have hm' : (s1.done.length : Int) < E.most := by omega
      clear hR hm
      go_enter Tryd.func72, Tryd.ntmps72
      go_wp2_with (first
        | (go_at_call 74; go_must (refine Hrun.out.mono ?_; rintro e w2 ⟨X2, dv2, hp2, av, rfl, hav, hab⟩; obtain ⟨dA, dc, rfl⟩ := own_slice hp2.core.own; obtain ⟨aA, ac2, rfl⟩ := own_slice hav)
           have hbk : ∃ rv2, w2.heap[wb]? = some (.cells #[rv2, .slice (some ⟨sb, 0, none⟩) E.rules.length E.rules.length, .slice (some ⟨hb, 0, none⟩) E.rules.length E.rules.length, .slice (some ⟨kb, 0, none⟩) E.rules.length E.rules.length, .int .i64 E.rev, .slice (some ⟨nb, 0, none⟩) E.rules.length E.rules.length, .slice dA s1.done.length dc, .int .i64 E.most] 100 (0, 0)) ∧ True := by obtain ⟨rv2, h, _⟩ := hp2.core.blk; exact ⟨rv2, h, trivial⟩
           obtain ⟨rv2, hb2, -⟩ := hbk
           have hrw : ∃ ck : Array Value, w2.heap[kb]? = some (.cells ck 113 (0, 0)) ∧ Hid (∀ j, j < E.rules.length → RowC ck w2 X2 j (s1.ans.getD j none)) := hp2.core.row
           obtain ⟨ck, hck, Hckx⟩ := hrw
           have p3 := (blk_cell hb2 3).trans rfl
           have p4 := (blk_cell hb2 4).trans rfl
           have p6 := (blk_cell hb2 6).trans rfl
           have p7 := (blk_cell hb2 7).trans rfl
           have Hp2 := Lib.hid hp2
           have Hav := Lib.hid hav
           have Hab := Lib.hid hab
           have Hb2 := Lib.hid hb2
           have Hck := Lib.hid hck
           clear hp2 hav hab hb2 hck p0 e0 e1 e2
           (try simp only [Act.put, List.setIfInBounds_toArray, List.set_cons_zero, List.set_cons_succ]))
      )
      refine wp_region_perm [(0, true), (1, true), (2, true), (3, true), (4, true), (5, true), (6, true), (7, true), (8, true), (9, true), (10, true), (11, true), (12, true), (13, true), (14, true), (15, true), (16, true)] (fun w' => w'.cell? ⟨wb, 6, none⟩ = some (.slice dA s1.done.length dc) ∧ w'.cell? ⟨wb, 7, none⟩ = some (.int .i64 E.most)) rfl (by kernel_rfl) (by kernel_rfl) (by decide) (fun c a d v w h => by cases d <;> exact h) ⟨p6, p7⟩ ?_
      refine perm_q (v := ?v2_0) (some 27) rfl rfl rfl ?q2_0 ?h2_0; (case q2_0 => (intro w' hS; obtain ⟨z1, z2⟩ := hS; first | (go_simp; done) | (go_simp; rfl))); (try simp only [Act.put, List.setIfInBounds_toArray, List.set_cons_zero, List.set_cons_succ])
      refine perm_q (v := ?v2_1) (some 28) rfl rfl rfl ?q2_1 ?h2_1; (case q2_1 => (intro w' hS; obtain ⟨z1, z2⟩ := hS; first | (go_simp; done) | (go_simp; rfl))); (try simp only [Act.put, List.setIfInBounds_toArray, List.set_cons_zero, List.set_cons_succ])
      refine perm_q (v := ?v2_2) (some 29) rfl rfl rfl ?q2_2 ?h2_2; (case q2_2 => (intro w' hS; obtain ⟨z1, z2⟩ := hS; first | (go_simp; done) | (go_simp; rfl))); (try simp only [Act.put, List.setIfInBounds_toArray, List.set_cons_zero, List.set_cons_succ])
      refine perm_q (v := ?v2_3) (some 30) rfl rfl rfl ?q2_3 ?h2_3; (case q2_3 => (intro w' hS; obtain ⟨z1, z2⟩ := hS; first | (go_simp; done) | (go_simp; rfl))); (try simp only [Act.put, List.setIfInBounds_toArray, List.set_cons_zero, List.set_cons_succ])
      refine perm_q (v := ?v2_4) (some 31) rfl rfl rfl ?q2_4 ?h2_4; (case q2_4 => (intro w' hS; obtain ⟨z1, z2⟩ := hS; first | (go_simp; done) | (go_simp; rfl))); (try simp only [Act.put, List.setIfInBounds_toArray, List.set_cons_zero, List.set_cons_succ])
      refine perm_q (v := ?v2_5) (some 32) rfl rfl rfl ?q2_5 ?h2_5; (case q2_5 => (intro w' hS; obtain ⟨z1, z2⟩ := hS; first | (go_simp; done) | (go_simp; rfl))); (try simp only [Act.put, List.setIfInBounds_toArray, List.set_cons_zero, List.set_cons_succ])
      refine perm_q (v := ?v2_6) (some 33) rfl rfl rfl ?q2_6 ?h2_6; (case q2_6 => (intro w' hS; obtain ⟨z1, z2⟩ := hS; first | (go_simp; done) | (go_simp; rfl))); (try simp only [Act.put, List.setIfInBounds_toArray, List.set_cons_zero, List.set_cons_succ])
      refine perm_q (v := ?v2_7) (some 34) rfl rfl rfl ?q2_7 ?h2_7; (case q2_7 => (intro w' hS; obtain ⟨z1, z2⟩ := hS; first | (go_simp; done) | (go_simp; rfl))); (try simp only [Act.put, List.setIfInBounds_toArray, List.set_cons_zero, List.set_cons_succ])
      refine perm_q (v := ?v2_8) (some 35) rfl rfl rfl ?q2_8 ?h2_8; (case q2_8 => (intro w' hS; obtain ⟨z1, z2⟩ := hS; first | (go_simp; done) | (go_simp; rfl))); (try simp only [Act.put, List.setIfInBounds_toArray, List.set_cons_zero, List.set_cons_succ])
      refine perm_q (v := ?v2_9) (some 36) rfl rfl rfl ?q2_9 ?h2_9; (case q2_9 => (intro w' hS; obtain ⟨z1, z2⟩ := hS; first | (go_simp; done) | (go_simp; rfl))); (try simp only [Act.put, List.setIfInBounds_toArray, List.set_cons_zero, List.set_cons_succ])
      refine perm_q (v := ?v2_10) (some 37) rfl rfl rfl ?q2_10 ?h2_10; (case q2_10 => (intro w' hS; obtain ⟨z1, z2⟩ := hS; first | (go_simp; done) | (go_simp; rfl))); (try simp only [Act.put, List.setIfInBounds_toArray, List.set_cons_zero, List.set_cons_succ])
      refine perm_q (v := ?v2_11) (some 38) rfl rfl rfl ?q2_11 ?h2_11; (case q2_11 => (intro w' hS; obtain ⟨z1, z2⟩ := hS; first | (go_simp; done) | (go_simp; rfl))); (try simp only [Act.put, List.setIfInBounds_toArray, List.set_cons_zero, List.set_cons_succ])
      refine perm_q (v := ?v2_12) (some 39) rfl rfl rfl ?q2_12 ?h2_12; (case q2_12 => (intro w' hS; obtain ⟨z1, z2⟩ := hS; first | (go_simp; done) | (go_simp; rfl))); (try simp only [Act.put, List.setIfInBounds_toArray, List.set_cons_zero, List.set_cons_succ])
      refine perm_q (v := ?v2_13) (some 40) rfl rfl rfl ?q2_13 ?h2_13; (case q2_13 => (intro w' hS; obtain ⟨z1, z2⟩ := hS; first | (go_simp; done) | (go_simp; rfl))); (try simp only [Act.put, List.setIfInBounds_toArray, List.set_cons_zero, List.set_cons_succ])
      refine perm_q (v := ?v2_14) (some 41) rfl rfl rfl ?q2_14 ?h2_14; (case q2_14 => (intro w' hS; obtain ⟨z1, z2⟩ := hS; first | (go_simp; done) | (go_simp; rfl))); (try simp only [Act.put, List.setIfInBounds_toArray, List.set_cons_zero, List.set_cons_succ])
      refine perm_q (v := ?v2_15) (some 42) rfl rfl rfl ?q2_15 ?h2_15; (case q2_15 => (intro w' hS; obtain ⟨z1, z2⟩ := hS; first | (go_simp; done) | (go_simp; rfl))); (try simp only [Act.put, List.setIfInBounds_toArray, List.set_cons_zero, List.set_cons_succ])
      refine perm_q (v := ?v2_16) (some 43) rfl rfl rfl ?q2_16 ?h2_16; (case q2_16 => (intro w' hS; obtain ⟨z1, z2⟩ := hS; first | (go_simp; done) | (go_simp; rfl))); (try simp only [Act.put, List.setIfInBounds_toArray, List.set_cons_zero, List.set_cons_succ])
      refine perm_nil ?_
      go_wp2_with (first
        | ((with_reducible refine at_dst (N := 50) rfl ?_); go_must (refine ev_slice (cs := #[.int .i64 (i : Int)]) (t := 3) (n := 1) (c := 1) rfl (by first | (go_simp; done) | (go_simp; rfl)) ?_; intro g4 w3 hg4 hl4 hb4 hk3); have Hb4 := Lib.hid hb4; have Hk23 := Lib.hid (show Keeps Nob w2 w3 from (Keeps.refl Nob w2).drew.trans hk3 (fun _ _ h => h)); clear hb4 hk3; (try simp only [Act.put, List.setIfInBounds_toArray, List.set_cons_zero, List.set_cons_succ]))
        | ((with_reducible refine at_dst (N := 51) rfl ?_); go_must (refine ev_append (W := w3) rfl rfl Tryd.underlying23 info3 rfl (by decide) (base := 0) rfl (ownsRow_keep Hp2.out.core.own Hk23.out (fun _ _ => id)) (news := [.int .i64 (i : Int)]) rfl rfl (fun _ => ⟨_, rfl, World.news_of_block Hb4.out⟩) (by simp [Value.oneCell']) (by omega) (by decide) (Nat.zero_le _) ?_; intro dv3 w4 hown4 hk4 hr4 hf4; obtain ⟨dg, dcap, rfl⟩ := hf4 (by decide))
           have Hd4 := Lib.hid (And.intro hown4 hr4)
           have Hk4 := Lib.hid hk4
           clear hown4 hk4 hr4 hf4
           (try simp only [Act.put, List.setIfInBounds_toArray, List.set_cons_zero, List.set_cons_succ]))
        | ((with_reducible refine at_store (t := 23) (p := 53) rfl ?_); go_must (refine ev_store (cs' := #[rv2, .slice (some ⟨sb, 0, none⟩) E.rules.length E.rules.length, .slice (some ⟨hb, 0, none⟩) E.rules.length E.rules.length, .slice (some ⟨kb, 0, none⟩) E.rules.length E.rules.length, .int .i64 E.rev, .slice (some ⟨nb, 0, none⟩) E.rules.length E.rules.length, .slice (some ⟨dg, 0, none⟩) (s1.done.length + 1) dcap, .int .i64 E.most]) rfl rfl rfl rfl rfl rfl HI.out.1.1 HI.out.1.2 rfl (Hk4.out.blk (Hk23.out.blk Hb2.out id) Hp2.out.core.apartD.1) (Nat.le_of_ble_eq_true rfl) rfl ?_; intro w5 hb5 hk5)
           have p3 := (blk_cell hb5 3).trans rfl
           have p4 := (blk_cell hb5 4).trans rfl
           go_must (have hk25 : Keeps (fun k => k = wb ∨ some k = Value.ownBlock (.slice dA s1.done.length dc)) w2 w5 := ((Hk23.out.mono (M' := fun k => k = wb ∨ some k = Value.ownBlock (.slice dA s1.done.length dc)) (fun _ _ h => h.elim)).trans Hk4.out (fun _ _ h => .inr h)).trans hk5 (fun _ _ h => .inl h))
           go_must (have hrow5 := ownsRow_keep Hd4.out.1 hk5 (fun b hb e => by subst e; exact own_ne Hd4.out.1 (Hk4.out.blk (Hk23.out.blk Hb2.out id) Hp2.out.core.apartD.1) (by decide) hb.symm))
           go_must (have hrr5 : Value.ownBlock (.slice (some ⟨dg, 0, none⟩) (s1.done.length + 1) dcap) = Value.ownBlock (.slice dA s1.done.length dc) ∨ ∃ b, Value.ownBlock (.slice (some ⟨dg, 0, none⟩) (s1.done.length + 1) dcap) = some b ∧ w2.heap.size ≤ b := Hd4.out.2.imp id (fun ⟨b, h1, h2⟩ => ⟨b, h1, Nat.le_trans Hk23.out.size h2⟩))
           go_must (have Hc5 := Lib.hid (RefC.grow (s' := { s1 with done := s1.done ++ [(i : Int)] }) Hp2.out.core hk25 Hb2.out hb5 (by have h := hrow5; show World.ownsRow w5 0 3 1 _ (s1.done ++ [(i : Int)]).length ((s1.done ++ [(i : Int)]).map (Value.int .i64)); rw [List.length_append, List.map_append]; exact h) rfl hrr5))
           go_must (have hck5 := hk25.blk Hck.out (fun hm => hm.elim (fun e => Hp2.out.core.apart.1.2.2.1 e.symm) Hp2.out.core.apartD.2.2.2.1))
           have Hck5 := Lib.hid hck5
           obtain ⟨ku, k0', k1', k2', k3', k4', Hku⟩ := Hck1.out ck w2 X2 (Hckx.out i hin)
           have c0 := (blk_cell hck5 (i * 5)).trans k0'
           have c1 := (blk_cell hck5 (i * 5 + 1)).trans k1'
           have c2 := (blk_cell hck5 (i * 5 + 2)).trans k2'
           have c3 := (blk_cell hck5 (i * 5 + 3)).trans k3'
           have c4 := (blk_cell hck5 (i * 5 + 4)).trans k4'
           obtain ⟨kuA, kuc, rfl, -, -⟩ := id Hku
           have Hk25 := Lib.hid hk25
           have Hrr5 := Lib.hid hrr5
           clear hb5 hk5 hk25 hrow5 hrr5 hck5 k0' k1' k2' k3' k4' Hku
           (try simp only [Act.put, List.setIfInBounds_toArray, List.set_cons_zero, List.set_cons_succ]))
        | ((with_reducible refine at_dst (N := 9) rfl ?_); go_must (refine ev_alloc rfl rfl zero113 rfl ?_; intro g9 w6 hg9 hl9 hb9 hk6)
           have Hb9 := Lib.hid hb9
           have p3 := hk6.cell p3 id
           have p4 := hk6.cell p4 id
           have c0 := hk6.cell c0 id
           have c1 := hk6.cell c1 id
           have c2 := hk6.cell c2 id
           have c3 := hk6.cell c3 id
           have c4 := hk6.cell c4 id
           clear hb9
           (try simp only [Act.put, List.setIfInBounds_toArray, List.set_cons_zero, List.set_cons_succ]))
        | ((with_reducible refine at_store (t := 113) (p := 9) rfl ?_); go_must (refine ev_store (cs' := #[.bool wis, .int .i64 wval, .slice kuA wask.length kuc, .int .i64 wck, .int .i64 wch]) rfl rfl rfl rfl rfl rfl HI.out.2.1 HI.out.2.2 rfl Hb9.out (Nat.le_of_ble_eq_true rfl) rfl ?_; intro w7 hb97 hk7)
           go_must (have Hk57 := Lib.hid (show Keeps Nob w5 w7 from hk6.own hk7 hg9))
           have hwb9 : ¬ wb = g9 := by have h1 := Hc5.out.lts; omega
           have p3 := hk7.cell p3 hwb9
           have p4 := hk7.cell p4 hwb9
           have u0 := (blk_cell hb97 0).trans rfl
           have u1 := (blk_cell hb97 1).trans rfl
           have u4 := (blk_cell hb97 4).trans rfl
           have Hb97 := Lib.hid hb97
           have Hg9 := Lib.hid (show w5.heap.size ≤ g9 ∧ g9 < w7.heap.size from ⟨hg9, by have h := blk_lt hb97; exact h⟩)
           clear hb97 hk6 hk7 hg9 hl9 c0 c1 c2 c3 c4 hwb9
           (try simp only [Act.put, List.setIfInBounds_toArray, List.set_cons_zero, List.set_cons_succ]))
      )
      refine wp_region_perm [(0, true), (1, true), (2, true), (3, true), (4, true), (5, true), (6, true), (7, true), (8, true), (9, true), (10, true), (11, false), (12, false)] (fun w' => w'.cell? ⟨wb, 3, none⟩ = some (.slice (some ⟨kb, 0, none⟩) E.rules.length E.rules.length) ∧ w'.cell? ⟨wb, 4, none⟩ = some (.int .i64 E.rev) ∧ w'.cell? ⟨g9, 0, none⟩ = some (.bool wis) ∧ w'.cell? ⟨g9, 1, none⟩ = some (.int .i64 wval) ∧ w'.cell? ⟨g9, 4, none⟩ = some (.int .i64 wch)) rfl (by kernel_rfl) (by kernel_rfl) (by decide) (fun c a d v w h => by cases d <;> exact h) ⟨p3, p4, u0, u1, u4⟩ ?_
      refine perm_q (v := ?v3_0) (some 61) rfl rfl rfl ?q3_0 ?h3_0; (case q3_0 => (intro w' hS; obtain ⟨z1, z2, z3, z4, z5⟩ := hS; first | (go_simp; done) | (go_simp; rfl))); (try simp only [Act.put, List.setIfInBounds_toArray, List.set_cons_zero, List.set_cons_succ])
      refine perm_q (v := ?v3_1) (some 62) rfl rfl rfl ?q3_1 ?h3_1; (case q3_1 => (intro w' hS; obtain ⟨z1, z2, z3, z4, z5⟩ := hS; first | (go_simp; done) | (go_simp; rfl))); (try simp only [Act.put, List.setIfInBounds_toArray, List.set_cons_zero, List.set_cons_succ])
      refine perm_q (v := ?v3_2) (some 63) rfl rfl rfl ?q3_2 ?h3_2; (case q3_2 => (intro w' hS; obtain ⟨z1, z2, z3, z4, z5⟩ := hS; first | (go_simp; done) | (go_simp; rfl))); (try simp only [Act.put, List.setIfInBounds_toArray, List.set_cons_zero, List.set_cons_succ])
      refine perm_q (v := ?v3_3) (some 64) rfl rfl rfl ?q3_3 ?h3_3; (case q3_3 => (intro w' hS; obtain ⟨z1, z2, z3, z4, z5⟩ := hS; first | (go_simp; done) | (go_simp; rfl))); (try simp only [Act.put, List.setIfInBounds_toArray, List.set_cons_zero, List.set_cons_succ])
      refine perm_q (v := ?v3_4) (some 65) rfl rfl rfl ?q3_4 ?h3_4; (case q3_4 => (intro w' hS; obtain ⟨z1, z2, z3, z4, z5⟩ := hS; first | (go_simp; done) | (go_simp; rfl))); (try simp only [Act.put, List.setIfInBounds_toArray, List.set_cons_zero, List.set_cons_succ])
      refine perm_q (v := ?v3_5) (some 66) rfl rfl rfl ?q3_5 ?h3_5; (case q3_5 => (intro w' hS; obtain ⟨z1, z2, z3, z4, z5⟩ := hS; first | (go_simp; done) | (go_simp; rfl))); (try simp only [Act.put, List.setIfInBounds_toArray, List.set_cons_zero, List.set_cons_succ])
      refine perm_q (v := ?v3_6) (some 67) rfl rfl rfl ?q3_6 ?h3_6; (case q3_6 => (intro w' hS; obtain ⟨z1, z2, z3, z4, z5⟩ := hS; first | (go_simp; done) | (go_simp; rfl))); (try simp only [Act.put, List.setIfInBounds_toArray, List.set_cons_zero, List.set_cons_succ])
      refine perm_q (v := ?v3_7) (some 68) rfl rfl rfl ?q3_7 ?h3_7; (case q3_7 => (intro w' hS; obtain ⟨z1, z2, z3, z4, z5⟩ := hS; first | (go_simp; done) | (go_simp; rfl))); (try simp only [Act.put, List.setIfInBounds_toArray, List.set_cons_zero, List.set_cons_succ])
      refine perm_q (v := ?v3_8) (some 69) rfl rfl rfl ?q3_8 ?h3_8; (case q3_8 => (intro w' hS; obtain ⟨z1, z2, z3, z4, z5⟩ := hS; first | (go_simp; done) | (go_simp; rfl))); (try simp only [Act.put, List.setIfInBounds_toArray, List.set_cons_zero, List.set_cons_succ])
      refine perm_q (v := ?v3_9) (some 70) rfl rfl rfl ?q3_9 ?h3_9; (case q3_9 => (intro w' hS; obtain ⟨z1, z2, z3, z4, z5⟩ := hS; first | (go_simp; done) | (go_simp; rfl))); (try simp only [Act.put, List.setIfInBounds_toArray, List.set_cons_zero, List.set_cons_succ])
      refine perm_q (v := ?v3_10) (some 71) rfl rfl rfl ?q3_10 ?h3_10; (case q3_10 => (intro w' hS; obtain ⟨z1, z2, z3, z4, z5⟩ := hS; first | (go_simp; done) | (go_simp; rfl))); (try simp only [Act.put, List.setIfInBounds_toArray, List.set_cons_zero, List.set_cons_succ])
      refine perm_e rfl ?_   -- 11: alloc 113
      go_must (refine ev_alloc rfl rfl zero113 rfl ?_; intro g10 w8 hg10 hl10 hb10 hk8)
      have Hb10 := Lib.hid hb10
      have hk8' : Keeps Nob w7 w8 := (Keeps.refl Nob w7).drew.trans hk8 (fun _ _ h => h)
      have Hg10 := Lib.hid (show w7.heap.size ≤ g10 from hg10)
      have Hk8 := Lib.hid hk8'
      (try simp only [Act.put, List.setIfInBounds_toArray, List.set_cons_zero, List.set_cons_succ])
      have p3 := hk8'.cell p3 id
      have p4 := hk8'.cell p4 id
      have u0 := hk8'.cell u0 id
      have u1 := hk8'.cell u1 id
      have u4 := hk8'.cell u4 id
      clear hb10 hk8 hk8' hg10
      refine wpList_nil ⟨⟨p3, p4, u0, u1, u4⟩, ?_⟩
      refine perm_e rfl ?_   -- 12: store 113 t10 t71
      go_must (refine ev_store (cs' := #[.bool true, .int .i64 vn, .slice aA asked.length ac2, .int .i64 E.rev, .int .i64 E.rev]) rfl rfl rfl rfl rfl rfl HI.out.2.1 HI.out.2.2 rfl Hb10.out (Nat.le_of_ble_eq_true rfl) rfl ?_; intro w9 hb109 hk9)
      have Hb109 := Lib.hid hb109
      have Hk79 := Lib.hid (show Keeps Nob w7 w9 from Hk8.out.own hk9 Hg10.out)
      (try simp only [Act.put, List.setIfInBounds_toArray, List.set_cons_zero, List.set_cons_succ])
      have p3 := hk9.cell p3 (by have h1 := Hc5.out.lts; have h2 := Hk57.out.size; have h3 := Hg10.out; show ¬ wb = g10; omega)
      have p4 := hk9.cell p4 (by have h1 := Hc5.out.lts; have h2 := Hk57.out.size; have h3 := Hg10.out; show ¬ wb = g10; omega)
      have u0 := hk9.cell u0 (by have h2 := Hg9.out; have h3 := Hg10.out; show ¬ g9 = g10; omega)
      have u1 := hk9.cell u1 (by have h2 := Hg9.out; have h3 := Hg10.out; show ¬ g9 = g10; omega)
      have u4 := hk9.cell u4 (by have h2 := Hg9.out; have h3 := Hg10.out; show ¬ g9 = g10; omega)
      clear hk9
      refine wpList_nil ⟨⟨p3, p4, u0, u1, u4⟩, ?_⟩
      refine perm_nil ?_
      have t0 := (blk_cell Hb109.out 0).trans rfl
      have t1 := (blk_cell Hb109.out 1).trans rfl
      have t2 := (blk_cell Hb109.out 2).trans rfl
      have t3 := (blk_cell Hb109.out 3).trans rfl
      have t4 := (blk_cell Hb109.out 4).trans rfl
      by_cases hsame : wis = true ∧ wval = vn
      · obtain ⟨rfl, hv⟩ := hsame
        have hvb : (wval == vn) = true := by simpa using hv
        have hch : chOf E.rev was vn = wch := by
          obtain ⟨⟨h1, h2⟩, h3⟩ := Hwas.out
          cases was with
          | none => cases h1
          | some k => show (if k.value = vn then k.changed else E.rev) = wch; rw [if_pos (show k.value = vn from h2.trans hv)]; exact h3
        have hR := HRR.out
        rw [hch] at hR
        have HRR := Lib.hid hR
        clear hv hch hR
        go_wp2_with (first
          | ((with_reducible refine at_store (t := 3) (p := 82) rfl ?_)
             go_must (refine ev_store (cs' := #[.bool true, .int .i64 vn, .slice aA asked.length ac2, .int .i64 E.rev, .int .i64 wch]) rfl rfl rfl rfl rfl rfl HI3.out.1 HI3.out.2 rfl Hb109.out (Nat.le_of_ble_eq_true rfl) rfl ?_; intro w10 hb1010 hk10)
             have p3 := hk10.cell p3 (by have h1 := Hc5.out.lts; have h2 := Hk57.out.size; have h3 := Hg10.out; show ¬ wb = g10; omega)
             have t0 := (blk_cell hb1010 0).trans rfl
             have t1 := (blk_cell hb1010 1).trans rfl
             have t2 := (blk_cell hb1010 2).trans rfl
             have t3 := (blk_cell hb1010 3).trans rfl
             have t4 := (blk_cell hb1010 4).trans rfl
             go_must (have HkW := Lib.hid (show Keeps Nob w5 w10 from (Hk57.out.trans Hk79.out (fun _ _ h => h)).own hk10 (by have h2 := Hk57.out.size; have h3 := Hg10.out; omega)))
             have HcZ := Lib.hid (Hc5.out.after HkW.out)
             have HckZ := Lib.hid (HkW.out.blk Hck5.out id)
             clear hb1010 hk10
             (try simp only [Act.put, List.setIfInBounds_toArray, List.set_cons_zero, List.set_cons_succ]))
        )
        refine wp_region_perm [(0, true), (1, true), (2, true), (3, true), (4, true), (5, true), (6, true), (7, false)] (fun w' => w'.cell? ⟨wb, 3, none⟩ = some (.slice (some ⟨kb, 0, none⟩) E.rules.length E.rules.length) ∧ w'.cell? ⟨g10, 0, none⟩ = some (.bool true) ∧ w'.cell? ⟨g10, 1, none⟩ = some (.int .i64 vn) ∧ w'.cell? ⟨g10, 2, none⟩ = some (.slice aA asked.length ac2) ∧ w'.cell? ⟨g10, 3, none⟩ = some (.int .i64 E.rev) ∧ w'.cell? ⟨g10, 4, none⟩ = some (.int .i64 wch)) rfl (by kernel_rfl) (by kernel_rfl) (by decide) (fun c a d v w h => by cases d <;> exact h) ⟨p3, t0, t1, t2, t3, t4⟩ ?_
        refine perm_q (v := ?v4_0) (some 83) rfl rfl rfl ?q4_0 ?h4_0; (case q4_0 => (intro w' hS; obtain ⟨z1, z2, z3, z4, z5, z6⟩ := hS; first | (go_simp; done) | (go_simp; rfl))); (try simp only [Act.put, List.setIfInBounds_toArray, List.set_cons_zero, List.set_cons_succ])
        refine perm_q (v := ?v4_1) (some 84) rfl rfl rfl ?q4_1 ?h4_1; (case q4_1 => (intro w' hS; obtain ⟨z1, z2, z3, z4, z5, z6⟩ := hS; first | (go_simp; done) | (go_simp; rfl))); (try simp only [Act.put, List.setIfInBounds_toArray, List.set_cons_zero, List.set_cons_succ])
        refine perm_q (v := ?v4_2) (some 85) rfl rfl rfl ?q4_2 ?h4_2; (case q4_2 => (intro w' hS; obtain ⟨z1, z2, z3, z4, z5, z6⟩ := hS; first | (go_simp; done) | (go_simp; rfl))); (try simp only [Act.put, List.setIfInBounds_toArray, List.set_cons_zero, List.set_cons_succ])
        refine perm_q (v := ?v4_3) (some 86) rfl rfl rfl ?q4_3 ?h4_3; (case q4_3 => (intro w' hS; obtain ⟨z1, z2, z3, z4, z5, z6⟩ := hS; first | (go_simp; done) | (go_simp; rfl))); (try simp only [Act.put, List.setIfInBounds_toArray, List.set_cons_zero, List.set_cons_succ])
        refine perm_q (v := ?v4_4) (some 87) rfl rfl rfl ?q4_4 ?h4_4; (case q4_4 => (intro w' hS; obtain ⟨z1, z2, z3, z4, z5, z6⟩ := hS; first | (go_simp; done) | (go_simp; rfl))); (try simp only [Act.put, List.setIfInBounds_toArray, List.set_cons_zero, List.set_cons_succ])
        refine perm_q (v := ?v4_5) (some 88) rfl rfl rfl ?q4_5 ?h4_5; (case q4_5 => (intro w' hS; obtain ⟨z1, z2, z3, z4, z5, z6⟩ := hS; first | (go_simp; done) | (go_simp; rfl))); (try simp only [Act.put, List.setIfInBounds_toArray, List.set_cons_zero, List.set_cons_succ])
        refine perm_q (v := ?v4_6) (some 89) rfl rfl rfl ?q4_6 ?h4_6; (case q4_6 => (intro w' hS; obtain ⟨z1, z2, z3, z4, z5, z6⟩ := hS; first | (go_simp; done) | (go_simp; rfl))); (try simp only [Act.put, List.setIfInBounds_toArray, List.set_cons_zero, List.set_cons_succ])
        refine perm_e rfl ?_   -- 7: store 113 t89 t88
        go_must (refine ev_store (x := .agg #[.bool true, .int .i64 vn, .slice aA asked.length ac2, .int .i64 E.rev, .int .i64 wch]) (vs := [.bool true, .int .i64 vn, .slice aA asked.length ac2, .int .i64 E.rev, .int .i64 wch]) (off := i * 5) (cs' := List.toArray (ck.toList.take (i * 5) ++ [Value.bool true, .int .i64 vn, .slice aA asked.length ac2, .int .i64 E.rev, .int .i64 wch] ++ ck.toList.drop (i * 5 + [Value.bool true, .int .i64 vn, .slice aA asked.length ac2, .int .i64 E.rev, .int .i64 wch].length))) rfl rfl rfl rfl rfl rfl HI.out.2.1 HI.out.2.2 rfl HckZ.out (by have := Hsz.out ck w2 X2 (Hckx.out i hin); exact this) rfl ?_; intro w13 hb13 hk13)
        (try simp only [Act.put, List.setIfInBounds_toArray, List.set_cons_zero, List.set_cons_succ])
        have hgk : ¬ g10 = kb := by have h1 := Hc5.out.lts; have h2 := Hk57.out.size; have h3 := Hg10.out; omega
        refine wpList_nil ⟨⟨hk13.cell (w := World.drew w10) p3 Hp2.out.core.apart.1.2.2.1, hk13.cell (w := World.drew w10) t0 hgk, hk13.cell (w := World.drew w10) t1 hgk, hk13.cell (w := World.drew w10) t2 hgk, hk13.cell (w := World.drew w10) t3 hgk, hk13.cell (w := World.drew w10) t4 hgk⟩, ?_⟩
        refine perm_nil ?_
        go_wp2
        go_ret2
        rw [← HRR.out]
        have hkz : Keeps (· = kb) w10 w13 := (Keeps.refl (· = kb) w10).drew.trans hk13 (fun _ _ h => h)
        have hav5 := ownsRow_keep (ownsRow_keep Hav.out Hk25.out (fun b hb hm => hm.elim (fun e => (Hab.out b hb).2 (.inl e)) (fun e => (Hab.out b hb).2 (.inr (.inr (.inr (.inr (.inr (.inl e)))))))) ) HkW.out (fun _ _ => id)
        have havz := ownsRow_keep hav5 hkz (fun b hb e => (Hab.out b hb).2 (.inr (.inr (.inr (.inl e)))))
        have hnew : ∀ b, some b = Value.ownBlock (.slice aA asked.length ac2) → b < w5.heap.size ∧ ¬ RefB wb sb hb kb nb (.slice (some ⟨dg, 0, none⟩) (s1.done.length + 1) dcap) X2 b := fun b hb => by
          have h1 := (Hab.out b hb.symm).2
          have h2 := (own_lt Hav.out b hb.symm).1
          refine ⟨Nat.lt_of_lt_of_le h2 Hk25.out.size, ?_⟩
          rintro (h | h | h | h | h | h | h)
          · exact h1 (.inl h)
          · exact h1 (.inr (.inl h))
          · exact h1 (.inr (.inr (.inl h)))
          · exact h1 (.inr (.inr (.inr (.inl h))))
          · exact h1 (.inr (.inr (.inr (.inr (.inl h)))))
          · rcases Hrr5.out with hr | ⟨b', hb', hl⟩
            · exact h1 (.inr (.inr (.inr (.inr (.inr (.inl (h.trans hr)))))))
            · rw [hb'] at h; injection h with h; omega
          · exact h1 (.inr (.inr (.inr (.inr (.inr (.inr h))))))
        have hfin := RefC.put (X' := fun b => X2 b ∨ some b = Value.ownBlock (.slice aA asked.length ac2)) (k := some ⟨vn, asked, E.rev, wch⟩) HcZ.out HckZ.out (by show s1.ans.length = _; exact Hlen.out) hin hkz rfl (fun _ h => .inl h) (IntsX.own (xs := asked) havz _ (fun _ h => .inr h)) (fun b hx hn => by
          rcases hx with hx | hx
          · exact absurd hx hn
          · obtain ⟨h1, h2⟩ := hnew b hx
            exact ⟨Nat.lt_of_lt_of_le h1 HkW.out.size, h2⟩) hb13
        refine ⟨_, _, RefPost.more Hp2.out ((Hk25.out.mono (M' := fun k => k = wb ∨ k = kb ∨ some k = Value.ownBlock (.slice dA s1.done.length dc)) (fun _ _ h => h.imp id .inr)).trans ((HkW.out.mono (M' := fun k => k = kb) (fun _ _ h => h.elim)).trans hkz (fun _ _ h => h)) (fun _ _ h => .inr (.inl h))) (fun k _ hm => by
          rcases hm with h | h | h
          · exact .inl h
          · exact .inr (.inl h)
          · exact .inr (.inr (.inr h))) Hrr5.out (fun b hb => ⟨fun hx => hx.elim id (fun e => absurd hb (by have := (Hab.out b e.symm).1; omega)), .inl⟩) hfin, rfl⟩
      · have hch : chOf E.rev was vn = E.rev := by
          obtain ⟨⟨h1, h2⟩, h3⟩ := Hwas.out
          cases was with
          | none => rfl
          | some k => show (if k.value = vn then k.changed else E.rev) = E.rev; exact if_neg (fun e : k.value = vn => hsame ⟨h1.symm, h2.symm.trans e⟩)
        have hR := HRR.out
        rw [hch] at hR
        have HRR := Lib.hid hR
        have HkW := Lib.hid (show Keeps Nob w5 w9 from (Hk57.out.trans Hk79.out (fun _ _ h => h)))
        have HcZ := Lib.hid (Hc5.out.after HkW.out)
        have HckZ := Lib.hid (HkW.out.blk Hck5.out id)
        clear hch hR
        cases wis with
        | false =>
          go_wp2_with fail
          refine wp_region_perm [(0, true), (1, true), (2, true), (3, true), (4, true), (5, true), (6, true), (7, false)] (fun w' => w'.cell? ⟨wb, 3, none⟩ = some (.slice (some ⟨kb, 0, none⟩) E.rules.length E.rules.length) ∧ w'.cell? ⟨g10, 0, none⟩ = some (.bool true) ∧ w'.cell? ⟨g10, 1, none⟩ = some (.int .i64 vn) ∧ w'.cell? ⟨g10, 2, none⟩ = some (.slice aA asked.length ac2) ∧ w'.cell? ⟨g10, 3, none⟩ = some (.int .i64 E.rev) ∧ w'.cell? ⟨g10, 4, none⟩ = some (.int .i64 E.rev)) rfl (by kernel_rfl) (by kernel_rfl) (by decide) (fun c a d v w h => by cases d <;> exact h) ⟨p3, t0, t1, t2, t3, t4⟩ ?_
          refine perm_q (v := ?v5_0) (some 83) rfl rfl rfl ?q5_0 ?h5_0; (case q5_0 => (intro w' hS; obtain ⟨z1, z2, z3, z4, z5, z6⟩ := hS; first | (go_simp; done) | (go_simp; rfl))); (try simp only [Act.put, List.setIfInBounds_toArray, List.set_cons_zero, List.set_cons_succ])
          refine perm_q (v := ?v5_1) (some 84) rfl rfl rfl ?q5_1 ?h5_1; (case q5_1 => (intro w' hS; obtain ⟨z1, z2, z3, z4, z5, z6⟩ := hS; first | (go_simp; done) | (go_simp; rfl))); (try simp only [Act.put, List.setIfInBounds_toArray, List.set_cons_zero, List.set_cons_succ])
          refine perm_q (v := ?v5_2) (some 85) rfl rfl rfl ?q5_2 ?h5_2; (case q5_2 => (intro w' hS; obtain ⟨z1, z2, z3, z4, z5, z6⟩ := hS; first | (go_simp; done) | (go_simp; rfl))); (try simp only [Act.put, List.setIfInBounds_toArray, List.set_cons_zero, List.set_cons_succ])
          refine perm_q (v := ?v5_3) (some 86) rfl rfl rfl ?q5_3 ?h5_3; (case q5_3 => (intro w' hS; obtain ⟨z1, z2, z3, z4, z5, z6⟩ := hS; first | (go_simp; done) | (go_simp; rfl))); (try simp only [Act.put, List.setIfInBounds_toArray, List.set_cons_zero, List.set_cons_succ])
          refine perm_q (v := ?v5_4) (some 87) rfl rfl rfl ?q5_4 ?h5_4; (case q5_4 => (intro w' hS; obtain ⟨z1, z2, z3, z4, z5, z6⟩ := hS; first | (go_simp; done) | (go_simp; rfl))); (try simp only [Act.put, List.setIfInBounds_toArray, List.set_cons_zero, List.set_cons_succ])
          refine perm_q (v := ?v5_5) (some 88) rfl rfl rfl ?q5_5 ?h5_5; (case q5_5 => (intro w' hS; obtain ⟨z1, z2, z3, z4, z5, z6⟩ := hS; first | (go_simp; done) | (go_simp; rfl))); (try simp only [Act.put, List.setIfInBounds_toArray, List.set_cons_zero, List.set_cons_succ])
          refine perm_q (v := ?v5_6) (some 89) rfl rfl rfl ?q5_6 ?h5_6; (case q5_6 => (intro w' hS; obtain ⟨z1, z2, z3, z4, z5, z6⟩ := hS; first | (go_simp; done) | (go_simp; rfl))); (try simp only [Act.put, List.setIfInBounds_toArray, List.set_cons_zero, List.set_cons_succ])
          refine perm_e rfl ?_   -- 7: store 113 t89 t88
          go_must (refine ev_store (x := .agg #[.bool true, .int .i64 vn, .slice aA asked.length ac2, .int .i64 E.rev, .int .i64 E.rev]) (vs := [.bool true, .int .i64 vn, .slice aA asked.length ac2, .int .i64 E.rev, .int .i64 E.rev]) (off := i * 5) (cs' := List.toArray (ck.toList.take (i * 5) ++ [Value.bool true, .int .i64 vn, .slice aA asked.length ac2, .int .i64 E.rev, .int .i64 E.rev] ++ ck.toList.drop (i * 5 + [Value.bool true, .int .i64 vn, .slice aA asked.length ac2, .int .i64 E.rev, .int .i64 E.rev].length))) rfl rfl rfl rfl rfl rfl HI.out.2.1 HI.out.2.2 rfl HckZ.out (by have := Hsz.out ck w2 X2 (Hckx.out i hin); exact this) rfl ?_; intro w13 hb13 hk13)
          (try simp only [Act.put, List.setIfInBounds_toArray, List.set_cons_zero, List.set_cons_succ])
          have hgk : ¬ g10 = kb := by have h1 := Hc5.out.lts; have h2 := Hk57.out.size; have h3 := Hg10.out; omega
          refine wpList_nil ⟨⟨hk13.cell (w := World.drew w9) p3 Hp2.out.core.apart.1.2.2.1, hk13.cell (w := World.drew w9) t0 hgk, hk13.cell (w := World.drew w9) t1 hgk, hk13.cell (w := World.drew w9) t2 hgk, hk13.cell (w := World.drew w9) t3 hgk, hk13.cell (w := World.drew w9) t4 hgk⟩, ?_⟩
          refine perm_nil ?_
          go_wp2
          go_ret2
          rw [← HRR.out]
          have hkz : Keeps (· = kb) w9 w13 := (Keeps.refl (· = kb) w9).drew.trans hk13 (fun _ _ h => h)
          have hav5 := ownsRow_keep (ownsRow_keep Hav.out Hk25.out (fun b hb hm => hm.elim (fun e => (Hab.out b hb).2 (.inl e)) (fun e => (Hab.out b hb).2 (.inr (.inr (.inr (.inr (.inr (.inl e)))))))) ) HkW.out (fun _ _ => id)
          have havz := ownsRow_keep hav5 hkz (fun b hb e => (Hab.out b hb).2 (.inr (.inr (.inr (.inl e)))))
          have hnew : ∀ b, some b = Value.ownBlock (.slice aA asked.length ac2) → b < w5.heap.size ∧ ¬ RefB wb sb hb kb nb (.slice (some ⟨dg, 0, none⟩) (s1.done.length + 1) dcap) X2 b := fun b hb => by
            have h1 := (Hab.out b hb.symm).2
            have h2 := (own_lt Hav.out b hb.symm).1
            refine ⟨Nat.lt_of_lt_of_le h2 Hk25.out.size, ?_⟩
            rintro (h | h | h | h | h | h | h)
            · exact h1 (.inl h)
            · exact h1 (.inr (.inl h))
            · exact h1 (.inr (.inr (.inl h)))
            · exact h1 (.inr (.inr (.inr (.inl h))))
            · exact h1 (.inr (.inr (.inr (.inr (.inl h)))))
            · rcases Hrr5.out with hr | ⟨b', hb', hl⟩
              · exact h1 (.inr (.inr (.inr (.inr (.inr (.inl (h.trans hr)))))))
              · rw [hb'] at h; injection h with h; omega
            · exact h1 (.inr (.inr (.inr (.inr (.inr (.inr h))))))
          have hfin := RefC.put (X' := fun b => X2 b ∨ some b = Value.ownBlock (.slice aA asked.length ac2)) (k := some ⟨vn, asked, E.rev, E.rev⟩) HcZ.out HckZ.out (by show s1.ans.length = _; exact Hlen.out) hin hkz rfl (fun _ h => .inl h) (IntsX.own (xs := asked) havz _ (fun _ h => .inr h)) (fun b hx hn => by
            rcases hx with hx | hx
            · exact absurd hx hn
            · obtain ⟨h1, h2⟩ := hnew b hx
              exact ⟨Nat.lt_of_lt_of_le h1 HkW.out.size, h2⟩) hb13
          refine ⟨_, _, RefPost.more Hp2.out ((Hk25.out.mono (M' := fun k => k = wb ∨ k = kb ∨ some k = Value.ownBlock (.slice dA s1.done.length dc)) (fun _ _ h => h.imp id .inr)).trans ((HkW.out.mono (M' := fun k => k = kb) (fun _ _ h => h.elim)).trans hkz (fun _ _ h => h)) (fun _ _ h => .inr (.inl h))) (fun k _ hm => by
            rcases hm with h | h | h
            · exact .inl h
            · exact .inr (.inl h)
            · exact .inr (.inr (.inr h))) Hrr5.out (fun b hb => ⟨fun hx => hx.elim id (fun e => absurd hb (by have := (Hab.out b e.symm).1; omega)), .inl⟩) hfin, rfl⟩
        | true =>
          have hvb : (wval == vn) = false := by
            have : ¬ wval = vn := fun e => hsame ⟨rfl, e⟩
            simpa using this
          clear hsame
          go_wp2_with fail
          refine wp_region_perm [(0, true), (1, true), (2, true), (3, true), (4, true), (5, true), (6, true), (7, false)] (fun w' => w'.cell? ⟨wb, 3, none⟩ = some (.slice (some ⟨kb, 0, none⟩) E.rules.length E.rules.length) ∧ w'.cell? ⟨g10, 0, none⟩ = some (.bool true) ∧ w'.cell? ⟨g10, 1, none⟩ = some (.int .i64 vn) ∧ w'.cell? ⟨g10, 2, none⟩ = some (.slice aA asked.length ac2) ∧ w'.cell? ⟨g10, 3, none⟩ = some (.int .i64 E.rev) ∧ w'.cell? ⟨g10, 4, none⟩ = some (.int .i64 E.rev)) rfl (by kernel_rfl) (by kernel_rfl) (by decide) (fun c a d v w h => by cases d <;> exact h) ⟨p3, t0, t1, t2, t3, t4⟩ ?_
          refine perm_q (v := ?v6_0) (some 83) rfl rfl rfl ?q6_0 ?h6_0; (case q6_0 => (intro w' hS; obtain ⟨z1, z2, z3, z4, z5, z6⟩ := hS; first | (go_simp; done) | (go_simp; rfl))); (try simp only [Act.put, List.setIfInBounds_toArray, List.set_cons_zero, List.set_cons_succ])
          refine perm_q (v := ?v6_1) (some 84) rfl rfl rfl ?q6_1 ?h6_1; (case q6_1 => (intro w' hS; obtain ⟨z1, z2, z3, z4, z5, z6⟩ := hS; first | (go_simp; done) | (go_simp; rfl))); (try simp only [Act.put, List.setIfInBounds_toArray, List.set_cons_zero, List.set_cons_succ])
          refine perm_q (v := ?v6_2) (some 85) rfl rfl rfl ?q6_2 ?h6_2; (case q6_2 => (intro w' hS; obtain ⟨z1, z2, z3, z4, z5, z6⟩ := hS; first | (go_simp; done) | (go_simp; rfl))); (try simp only [Act.put, List.setIfInBounds_toArray, List.set_cons_zero, List.set_cons_succ])
          refine perm_q (v := ?v6_3) (some 86) rfl rfl rfl ?q6_3 ?h6_3; (case q6_3 => (intro w' hS; obtain ⟨z1, z2, z3, z4, z5, z6⟩ := hS; first | (go_simp; done) | (go_simp; rfl))); (try simp only [Act.put, List.setIfInBounds_toArray, List.set_cons_zero, List.set_cons_succ])
          refine perm_q (v := ?v6_4) (some 87) rfl rfl rfl ?q6_4 ?h6_4; (case q6_4 => (intro w' hS; obtain ⟨z1, z2, z3, z4, z5, z6⟩ := hS; first | (go_simp; done) | (go_simp; rfl))); (try simp only [Act.put, List.setIfInBounds_toArray, List.set_cons_zero, List.set_cons_succ])
          refine perm_q (v := ?v6_5) (some 88) rfl rfl rfl ?q6_5 ?h6_5; (case q6_5 => (intro w' hS; obtain ⟨z1, z2, z3, z4, z5, z6⟩ := hS; first | (go_simp; done) | (go_simp; rfl))); (try simp only [Act.put, List.setIfInBounds_toArray, List.set_cons_zero, List.set_cons_succ])
          refine perm_q (v := ?v6_6) (some 89) rfl rfl rfl ?q6_6 ?h6_6; (case q6_6 => (intro w' hS; obtain ⟨z1, z2, z3, z4, z5, z6⟩ := hS; first | (go_simp; done) | (go_simp; rfl))); (try simp only [Act.put, List.setIfInBounds_toArray, List.set_cons_zero, List.set_cons_succ])
          refine perm_e rfl ?_   -- 7: store 113 t89 t88
          go_must (refine ev_store (x := .agg #[.bool true, .int .i64 vn, .slice aA asked.length ac2, .int .i64 E.rev, .int .i64 E.rev]) (vs := [.bool true, .int .i64 vn, .slice aA asked.length ac2, .int .i64 E.rev, .int .i64 E.rev]) (off := i * 5) (cs' := List.toArray (ck.toList.take (i * 5) ++ [Value.bool true, .int .i64 vn, .slice aA asked.length ac2, .int .i64 E.rev, .int .i64 E.rev] ++ ck.toList.drop (i * 5 + [Value.bool true, .int .i64 vn, .slice aA asked.length ac2, .int .i64 E.rev, .int .i64 E.rev].length))) rfl rfl rfl rfl rfl rfl HI.out.2.1 HI.out.2.2 rfl HckZ.out (by have := Hsz.out ck w2 X2 (Hckx.out i hin); exact this) rfl ?_; intro w13 hb13 hk13)
          (try simp only [Act.put, List.setIfInBounds_toArray, List.set_cons_zero, List.set_cons_succ])
          have hgk : ¬ g10 = kb := by have h1 := Hc5.out.lts; have h2 := Hk57.out.size; have h3 := Hg10.out; omega
          refine wpList_nil ⟨⟨hk13.cell (w := World.drew w9) p3 Hp2.out.core.apart.1.2.2.1, hk13.cell (w := World.drew w9) t0 hgk, hk13.cell (w := World.drew w9) t1 hgk, hk13.cell (w := World.drew w9) t2 hgk, hk13.cell (w := World.drew w9) t3 hgk, hk13.cell (w := World.drew w9) t4 hgk⟩, ?_⟩
          refine perm_nil ?_
          go_wp2
          go_ret2
          rw [← HRR.out]
          have hkz : Keeps (· = kb) w9 w13 := (Keeps.refl (· = kb) w9).drew.trans hk13 (fun _ _ h => h)
          have hav5 := ownsRow_keep (ownsRow_keep Hav.out Hk25.out (fun b hb hm => hm.elim (fun e => (Hab.out b hb).2 (.inl e)) (fun e => (Hab.out b hb).2 (.inr (.inr (.inr (.inr (.inr (.inl e)))))))) ) HkW.out (fun _ _ => id)
          have havz := ownsRow_keep hav5 hkz (fun b hb e => (Hab.out b hb).2 (.inr (.inr (.inr (.inl e)))))
          have hnew : ∀ b, some b = Value.ownBlock (.slice aA asked.length ac2) → b < w5.heap.size ∧ ¬ RefB wb sb hb kb nb (.slice (some ⟨dg, 0, none⟩) (s1.done.length + 1) dcap) X2 b := fun b hb => by
            have h1 := (Hab.out b hb.symm).2
            have h2 := (own_lt Hav.out b hb.symm).1
            refine ⟨Nat.lt_of_lt_of_le h2 Hk25.out.size, ?_⟩
            rintro (h | h | h | h | h | h | h)
            · exact h1 (.inl h)
            · exact h1 (.inr (.inl h))
            · exact h1 (.inr (.inr (.inl h)))
            · exact h1 (.inr (.inr (.inr (.inl h))))
            · exact h1 (.inr (.inr (.inr (.inr (.inl h)))))
            · rcases Hrr5.out with hr | ⟨b', hb', hl⟩
              · exact h1 (.inr (.inr (.inr (.inr (.inr (.inl (h.trans hr)))))))
              · rw [hb'] at h; injection h with h; omega
            · exact h1 (.inr (.inr (.inr (.inr (.inr (.inr h))))))
          have hfin := RefC.put (X' := fun b => X2 b ∨ some b = Value.ownBlock (.slice aA asked.length ac2)) (k := some ⟨vn, asked, E.rev, E.rev⟩) HcZ.out HckZ.out (by show s1.ans.length = _; exact Hlen.out) hin hkz rfl (fun _ h => .inl h) (IntsX.own (xs := asked) havz _ (fun _ h => .inr h)) (fun b hx hn => by
            rcases hx with hx | hx
            · exact absurd hx hn
            · obtain ⟨h1, h2⟩ := hnew b hx
              exact ⟨Nat.lt_of_lt_of_le h1 HkW.out.size, h2⟩) hb13
          refine ⟨_, _, RefPost.more Hp2.out ((Hk25.out.mono (M' := fun k => k = wb ∨ k = kb ∨ some k = Value.ownBlock (.slice dA s1.done.length dc)) (fun _ _ h => h.imp id .inr)).trans ((HkW.out.mono (M' := fun k => k = kb) (fun _ _ h => h.elim)).trans hkz (fun _ _ h => h)) (fun _ _ h => .inr (.inl h))) (fun k _ hm => by
            rcases hm with h | h | h
            · exact .inl h
            · exact .inr (.inl h)
            · exact .inr (.inr (.inr h))) Hrr5.out (fun b hb => ⟨fun hx => hx.elim id (fun e => absurd hb (by have := (Hab.out b e.symm).1; omega)), .inl⟩) hfin, rfl⟩
end Go.Proofs.QW

/-
  The specification answers a question that is no input (answer), in memory. Condition: nested askings come to the model's.
-/
namespace Go.Proofs.QW
open Go.RowKit Go.Proofs.KL Go.Proofs.QM
set_option maxRecDepth 100000
set_option linter.unusedSimpArgs false
set_option linter.unusedVariables false

/-- An answer of what is no input. -/
def answerM (E : Env) (ask : AskFn) (s : PS) (q : Int) : PS × Except Int (Int × Int) :=
  match s.get q with
  | some k => match staleF ask k.checked s k.asked with
    | (s1, .error e) => (s1, .error e)
    | (s1, .ok true) => workF E ask s1 q (some k)
    | (s1, .ok false) => (s1.set q { k with checked := E.rev }, .ok (k.value, k.changed))
  | none => workF E ask s q none
section
variable {w w1 w2 w' : World} {X X2 X' : Nat → Prop} {wb sb hb kb nb : Nat} {E : Env} {on on' : List Int} {s s1 s' : PS} {dv dv2 dv' : Value}
theorem RefC.rowed {ans' : List (Option KeptR)} (h : RefC w X wb sb hb kb nb E on s dv) (hk : Keeps (· = kb) w w') (hr : RowX w' X kb E.rules.length ans') : RefC w' X wb sb hb kb nb E on { s with ans := ans' } dv := by
  obtain ⟨⟨a1, a2, a3, a4⟩, ⟨a5, a6⟩, ⟨a7, a8⟩, a9⟩ := h.apart
  obtain ⟨d1, d2, d3, d4, d5⟩ := h.apartD
  obtain ⟨⟨rv, b1, b2⟩, h2, h3, h4, h5, h6, x1, x2, x3, x4, x5, x6, x7, x8, x9, x10⟩ := h
  have hX : ∀ b, b < w.heap.size → X b → ¬ b = kb := fun b _ hx e => x4 (e ▸ hx)
  exact ⟨⟨rv, hk.blk b1 a3, b2.keep hk hX (fun b _ h => h)⟩, h2.keep hk a5, h3.keep hk a7, hr, h5.keep hk (fun e => a9 e.symm), ownsRow_keep h6 hk (fun b hb e => d4 (e ▸ hb.symm)), x1, x2, x3, x4, x5, x6, x7, x8, x9, fun b hx => Nat.lt_of_lt_of_le (x10 b hx) hk.size⟩
theorem RowC.check {kb n q : Nat} {ans : List (Option KeptR)} {cs : Array Value} {k : KeptR} {c : Int} (hl : ans.length = n) (h : ∀ i, i < n → RowC cs w X i (ans.getD i none)) (hq : q < n) (hk : ans.getD q none = some k) (hkp : Keeps (· = kb) w w') (hX : ¬ X kb)
    (hb : w'.heap[kb]? = some (.cells ((cs.toList.take (q * 5 + 3) ++ [Value.int .i64 c] ++ cs.toList.drop (q * 5 + 3 + [Value.int .i64 c].length)).toArray) 113 (0, 0))) : RowX w' X kb n (ans.set q (some { k with checked := c })) := by
  refine ⟨_, hb, fun i hi => ?_⟩
  have hs := (h q hq)
  obtain ⟨_, _, _, _, _, hs, _⟩ := hs
  have hs := pget_size hs
  have hsp := fun j => psplice_get (cs := cs) (vs := [Value.int .i64 c]) (off := q * 5 + 3) (by rw [List.length_singleton]; omega) j
  have hkeep := (h i hi).keep (X' := X) hkp (fun b _ hx e => hX (e ▸ hx)) (fun _ _ h => h)
  unfold RowC
  rw [hsp, hsp, hsp, hsp, hsp, List.length_singleton]
  by_cases e : i = q
  · subst e
    rw [hk] at hkeep
    obtain ⟨u, h0, h1, h2, h3, h4, h5⟩ := hkeep
    rw [if_neg (by omega), if_neg (by omega), if_neg (by omega), if_pos (by omega), if_neg (by omega)]
    rw [show i * 5 + 3 - (i * 5 + 3) = 0 by omega]
    rw [List.getD_eq_getElem?_getD, List.getElem?_set, if_pos rfl, if_pos (by omega)]
    exact ⟨u, h0, h1, h2, rfl, h4, h5⟩
  · rw [if_neg (by omega), if_neg (by omega), if_neg (by omega), if_neg (by omega), if_neg (by omega)]
    rw [List.getD_eq_getElem?_getD, List.getElem?_set, if_neg (fun h => e h.symm), ← List.getD_eq_getElem?_getD]
    exact hkeep
theorem RefC.reopen (h : RefC w X wb sb hb kb nb E on s dv) (hk : Keeps (· = nb) w w') (ho : OnX w' nb E.rules.length on') : RefC w' X wb sb hb kb nb E on' s dv := by
  obtain ⟨⟨a1, a2, a3, a4⟩, ⟨a5, a6⟩, ⟨a7, a8⟩, a9⟩ := h.apart
  obtain ⟨d1, d2, d3, d4, d5⟩ := h.apartD
  obtain ⟨⟨rv, b1, b2⟩, h2, h3, h4, h5, h6, x1, x2, x3, x4, x5, x6, x7, x8, x9, x10⟩ := h
  have hX : ∀ b, b < w.heap.size → X b → ¬ b = nb := fun b _ hx e => x5 (e ▸ hx)
  exact ⟨⟨rv, hk.blk b1 a4, b2.keep hk hX (fun b _ h => h)⟩, h2.keep hk a6, h3.keep hk a8, h4.keep hk a9 hX (fun _ _ h => h), ho, ownsRow_keep h6 hk (fun b hb e => d5 (e ▸ hb.symm)), x1, x2, x3, x4, x5, x6, x7, x8, x9, fun b hx => Nat.lt_of_lt_of_le (x10 b hx) hk.size⟩
/-- Blocks of an asking, and new ones, are written ahead. -/
theorem RefPost.ahead {M : Nat → Prop} (hk : Keeps M w w1) (hM : ∀ i, i < w.heap.size → M i → MRef wb kb nb dv i) (h : RefPost w1 X wb sb hb kb nb E on dv s w2 X2 dv2) : RefPost w X wb sb hb kb nb E on dv s w2 X2 dv2 :=
  ⟨fun b hb => h.xx b (Nat.lt_of_lt_of_le hb hk.size), (hk.mono hM).trans h.keep (fun _ _ h => h), h.row.imp id (fun ⟨b, h1, h2⟩ => ⟨b, h1, Nat.le_trans hk.size h2⟩), h.core⟩
end
set_option maxHeartbeats 8000000 in
/-- ANSWER. -/
theorem refAnswer {E : Env} (hE : EnvOk E) {on : List Int} {ask : AskFn} {q : Int} (IH : RefAskOK E (q :: on) ask) (hG : QM.Good E (q :: on) ask) (hT : QM.Told E (q :: on) ask) (hq : InQ E q) (hk1 : (E.rule q).kind ≠ 1) (w : World) (X : Nat → Prop) (wb sb hb kb nb : Nat) (s : PS) (dv u : Value)
    (hc : RefC w X wb sb hb kb nb E (q :: on) s dv) (hi : PInv E (q :: on) s) (hu : IntsX w X u ((s.get q).getD k0).asked) :
    Calls Tryd.prog 70 #[.pointer (some ⟨wb, 0, none⟩), .int .i64 q, .agg #[.bool (s.get q).isSome, .int .i64 ((s.get q).getD k0).value, u, .int .i64 ((s.get q).getD k0).checked, .int .i64 ((s.get q).getD k0).changed]] w (RefAns w X wb sb hb kb nb E (q :: on) dv (answerM E ask s q)) := by
  have h200 := hE.len
  obtain ⟨kA, kc, rfl, -, -⟩ := id hu
  have Hwork := Lib.hid (fun w X s dv => refWork hE IH hG hT hq hk1 w X wb sb hb kb nb s dv)
  have Hc := Lib.hid hc
  have Hi := Lib.hid hi
  have Hu := Lib.hid hu
  have HIH := Lib.hid IH
  have HG := Lib.hid hG
  have HT := Lib.hid hT
  have Hq := Lib.hid hq
  unfold answerM
  cases hs : s.get q with
  | none =>
    have hw := Hwork.out
    simp only [hs, Option.isSome_none, Option.getD_none] at Hu ⊢
    obtain ⟨wval, hwval⟩ : ∃ x, k0.value = x := ⟨_, rfl⟩
    obtain ⟨wask, hwask⟩ : ∃ x, k0.asked = x := ⟨_, rfl⟩
    obtain ⟨wck, hwck⟩ : ∃ x, k0.checked = x := ⟨_, rfl⟩
    obtain ⟨wch, hwch⟩ : ∃ x, k0.changed = x := ⟨_, rfl⟩
    rw [hwask] at Hu
    rw [hwval, hwask, hwck, hwch]
    obtain ⟨wis, hwis⟩ : ∃ x : Bool, false = x := ⟨_, rfl⟩
    have Hs := Lib.hid hs
    clear hwval hwask hwck hwch hc hi hu IH hG hT hq hw hs hwis
    go_enter Tryd.func70, Tryd.ntmps70
    go_wp2_with (first
      | ((with_reducible refine at_dst (N := 5) rfl ?_); go_must (refine ev_box (cs := #[.bool false, .int .i64 wval, .slice kA wask.length kc, .int .i64 wck, .int .i64 wch]) rfl rfl rfl ?_; intro g5 w1 hg5 hl5 hb5 hk1)
         have HK1 := Lib.hid hk1
         have u0 := (blk_cell hb5 0).trans rfl
         clear hb5 hk1 hg5 hl5
         (try simp only [Act.put, List.setIfInBounds_toArray, List.set_cons_zero, List.set_cons_succ]))
      | (go_at_call 72
         have hrun := Hwork.out w1 X s dv (Hc.out.after HK1.out) Hi.out
         rw [Hs.out] at hrun
         go_must (refine hrun.mono ?_; rintro e w2 ⟨X2, dv2, hp2, rfl⟩)
         have Hp2 := Lib.hid hp2
         clear hp2 hrun
         (try simp only [Act.put, List.setIfInBounds_toArray, List.set_cons_zero, List.set_cons_succ])))
    go_ret2
    exact ⟨X2, dv2, RefPost.after HK1.out Hp2.out, rfl⟩
  | some k =>
    have hko := hi.kok q k hq hs
    simp only [hs, Option.isSome_some, Option.getD_some] at Hu ⊢
    obtain ⟨wval, wask, wck, wch⟩ := k
    simp only at Hu hko ⊢
    have HKo := Lib.hid hko
    have hgd := staleF_good hG wck wask s hi hko.asked
    have hnz := staleF_nz hG hT wck wask s hi hko.asked
    rcases hst : staleF ask wck s wask with ⟨s1, r1⟩
    rw [hst] at hgd hnz
    have Hs := Lib.hid hs
    have Hst := Lib.hid hst
    have Hgd := Lib.hid hgd
    obtain ⟨wis, hwis⟩ : ∃ x : Bool, true = x := ⟨_, rfl⟩
    have hs1 := (hgd.fix q List.mem_cons_self).trans hs
    have Hs1 := Lib.hid hs1
    cases r1 with
    | error x =>
      have hxz : (x != 0) = true := by simpa using hnz x rfl
      clear hc hi hu IH hG hT hq hs hwis hst hgd hnz hko hs1
      have wis := true
      go_enter Tryd.func70, Tryd.ntmps70
      go_wp2_with (first
        | ((with_reducible refine at_dst (N := 5) rfl ?_); go_must (refine ev_box (cs := #[.bool true, .int .i64 wval, .slice kA wask.length kc, .int .i64 wck, .int .i64 wch]) rfl rfl rfl ?_; intro g5 w1 hg5 hl5 hb5 hk1)
           have HK1 := Lib.hid hk1
           have u0 := (blk_cell hb5 0).trans rfl
           have u1 := (blk_cell hb5 1).trans rfl
           have u2 := (blk_cell hb5 2).trans rfl
           have u3 := (blk_cell hb5 3).trans rfl
           have u4 := (blk_cell hb5 4).trans rfl
           clear hb5 hk1 hg5 hl5
           (try simp only [Act.put, List.setIfInBounds_toArray, List.set_cons_zero, List.set_cons_succ]))
        | (go_at_call 71
           have hst := refStands h200 HIH.out HG.out HT.out w1 X wb sb hb kb nb s dv true wval wck wch _ wask (Hc.out.after HK1.out) Hi.out HKo.out.asked (Hu.out.keep (X' := X) HK1.out (fun _ _ _ => id) (fun _ _ h => h)) HKo.out.alen
           rw [Hst.out] at hst
           simp only [standsOf, Bool.not_true, Bool.not_false] at hst
           go_must (refine hst.mono ?_; rintro e w2 ⟨X2, dv2, hp2, rfl⟩)
           have Hp2 := Lib.hid hp2
           clear hp2 hst
           (try simp only [Act.put, List.setIfInBounds_toArray, List.set_cons_zero, List.set_cons_succ]))
      )
      go_ret2
      exact ⟨X2, dv2, RefPost.after HK1.out Hp2.out, rfl⟩
    | ok b =>
      cases b with
      | true =>
        clear hc hi hu IH hG hT hq hs hwis hst hgd hnz hko hs1
        go_enter Tryd.func70, Tryd.ntmps70
        go_wp2_with (first
          | ((with_reducible refine at_dst (N := 5) rfl ?_); go_must (refine ev_box (cs := #[.bool true, .int .i64 wval, .slice kA wask.length kc, .int .i64 wck, .int .i64 wch]) rfl rfl rfl ?_; intro g5 w1 hg5 hl5 hb5 hk1)
             have HK1 := Lib.hid hk1
             have u0 := (blk_cell hb5 0).trans rfl
             have u1 := (blk_cell hb5 1).trans rfl
             have u2 := (blk_cell hb5 2).trans rfl
             have u3 := (blk_cell hb5 3).trans rfl
             have u4 := (blk_cell hb5 4).trans rfl
             clear hb5 hk1 hg5 hl5
             (try simp only [Act.put, List.setIfInBounds_toArray, List.set_cons_zero, List.set_cons_succ]))
          | (go_at_call 71
             have hst := refStands h200 HIH.out HG.out HT.out w1 X wb sb hb kb nb s dv true wval wck wch _ wask (Hc.out.after HK1.out) Hi.out HKo.out.asked (Hu.out.keep (X' := X) HK1.out (fun _ _ _ => id) (fun _ _ h => h)) HKo.out.alen
             rw [Hst.out] at hst
             simp only [standsOf, Bool.not_true, Bool.not_false] at hst
             go_must (refine hst.mono ?_; rintro e w2 ⟨X2, dv2, hp2, rfl⟩)
             have Hp2 := Lib.hid hp2
             clear hp2 hst
             (try simp only [Act.put, List.setIfInBounds_toArray, List.set_cons_zero, List.set_cons_succ]))
          | (go_at_call 72
             have hrun := Hwork.out w2 X2 s1 dv2 Hp2.out.core Hgd.out.inv
             rw [Hs1.out] at hrun
             go_must (refine hrun.mono ?_; rintro e w3 ⟨X3, dv3, hp3, rfl⟩)
             have Hp3 := Lib.hid hp3
             clear hp3 hrun
             (try simp only [Act.put, List.setIfInBounds_toArray, List.set_cons_zero, List.set_cons_succ])))
        go_ret2
        exact ⟨X3, dv3, RefPost.after HK1.out (Hp2.out.trans Hp3.out), rfl⟩
      | false =>
        obtain ⟨i, rfl⟩ := Int.eq_ofNat_of_zero_le hq.1
        have hin : i < E.rules.length := by have := hq.2; omega
        obtain ⟨i3, hi3, hs3⟩ := infoS3
        have HI3 := Lib.hid (And.intro hi3 hs3)
        have Hlen := Lib.hid (show s1.ans.length = E.rules.length from hgd.inv.alen)
        have hg1 : s1.ans.getD i none = some ⟨wval, wask, wck, wch⟩ := by have h := hs1; unfold PS.get at h; rw [Int.toNat_natCast] at h; exact h
        have Hg1 := Lib.hid hg1
        clear hc hi hu IH hG hT hq hs hwis hst hgd hnz hko hs1 hi3 hs3 hg1
        go_enter Tryd.func70, Tryd.ntmps70
        go_wp2_with (first
          | ((with_reducible refine at_dst (N := 5) rfl ?_); go_must (refine ev_box (cs := #[.bool true, .int .i64 wval, .slice kA wask.length kc, .int .i64 wck, .int .i64 wch]) rfl rfl rfl ?_; intro g5 w1 hg5 hl5 hb5 hk1)
             have HK1 := Lib.hid hk1
             have Hb5 := Lib.hid hb5
             have Hg5 := Lib.hid (show w.heap.size ≤ g5 ∧ g5 < w1.heap.size ∧ ¬ MRef wb kb nb dv g5 from ⟨hg5, hl5, fun hm => by have := Hc.out.fp_lt _ hm.fp; omega⟩)
             have u0 := (blk_cell hb5 0).trans rfl
             have u1 := (blk_cell hb5 1).trans rfl
             have u2 := (blk_cell hb5 2).trans rfl
             have u3 := (blk_cell hb5 3).trans rfl
             have u4 := (blk_cell hb5 4).trans rfl
             clear hb5 hk1 hg5 hl5
             (try simp only [Act.put, List.setIfInBounds_toArray, List.set_cons_zero, List.set_cons_succ]))
          | (go_at_call 71
             have hst := refStands h200 HIH.out HG.out HT.out w1 X wb sb hb kb nb s dv true wval wck wch _ wask (Hc.out.after HK1.out) Hi.out HKo.out.asked (Hu.out.keep (X' := X) HK1.out (fun _ _ _ => id) (fun _ _ h => h)) HKo.out.alen
             rw [Hst.out] at hst
             simp only [standsOf, Bool.not_true, Bool.not_false] at hst
             go_must (refine hst.mono ?_; rintro e w2 ⟨X2, dv2, hp2, rfl⟩)
             have Hp2 := Lib.hid hp2
             clear hp2 hst
             (try simp only [Act.put, List.setIfInBounds_toArray, List.set_cons_zero, List.set_cons_succ]))
        )
        have hbk : ∃ rv2, w2.heap[wb]? = some (.cells #[rv2, .slice (some ⟨sb, 0, none⟩) E.rules.length E.rules.length, .slice (some ⟨hb, 0, none⟩) E.rules.length E.rules.length, .slice (some ⟨kb, 0, none⟩) E.rules.length E.rules.length, .int .i64 E.rev, .slice (some ⟨nb, 0, none⟩) E.rules.length E.rules.length, dv2, .int .i64 E.most] 100 (0, 0)) ∧ True := by obtain ⟨rv2, h, _⟩ := Hp2.out.core.blk; exact ⟨rv2, h, trivial⟩
        obtain ⟨rv2, hb2, -⟩ := hbk
        have hrw : ∃ ck : Array Value, w2.heap[kb]? = some (.cells ck 113 (0, 0)) ∧ Hid (∀ j, j < E.rules.length → RowC ck w2 X2 j (s1.ans.getD j none)) := Hp2.out.core.row
        obtain ⟨ck, hck, Hckx⟩ := hrw
        have Hsz := Lib.hid (show i * 5 + 3 + 1 ≤ ck.size by obtain ⟨_, _, _, _, _, h, _⟩ := Hckx.out i hin; have := pget_size h; omega)
        have p3 := (blk_cell hb2 3).trans rfl
        have p4 := (blk_cell hb2 4).trans rfl
        have Hck := Lib.hid hck
        clear hb2 hck u0 u2 u3 u4
        have u1 := (blk_cell (Hp2.out.blk Hb5.out Hg5.out.2.2) 1).trans rfl
        refine wp_region_perm [(0, true), (1, true), (2, true), (3, true), (4, true), (5, true), (6, true), (7, true), (8, true), (9, true), (10, true), (11, false)] (fun w' => w'.cell? ⟨wb, 3, none⟩ = some (.slice (some ⟨kb, 0, none⟩) E.rules.length E.rules.length) ∧ w'.cell? ⟨wb, 4, none⟩ = some (.int .i64 E.rev)) rfl (by kernel_rfl) (by kernel_rfl) (by decide) (fun c a d v w h => by cases d <;> exact h) ⟨p3, p4⟩ ?_
        refine perm_q (v := ?v1_0) (some 22) rfl rfl rfl ?q1_0 ?h1_0; (case q1_0 => (intro w' hS; obtain ⟨z1, z2⟩ := hS; first | (go_simp; done) | (go_simp; rfl))); (try simp only [Act.put, List.setIfInBounds_toArray, List.set_cons_zero, List.set_cons_succ])
        refine perm_q (v := ?v1_1) (some 23) rfl rfl rfl ?q1_1 ?h1_1; (case q1_1 => (intro w' hS; obtain ⟨z1, z2⟩ := hS; first | (go_simp; done) | (go_simp; rfl))); (try simp only [Act.put, List.setIfInBounds_toArray, List.set_cons_zero, List.set_cons_succ])
        refine perm_q (v := ?v1_2) (some 24) rfl rfl rfl ?q1_2 ?h1_2; (case q1_2 => (intro w' hS; obtain ⟨z1, z2⟩ := hS; first | (go_simp; done) | (go_simp; rfl))); (try simp only [Act.put, List.setIfInBounds_toArray, List.set_cons_zero, List.set_cons_succ])
        refine perm_q (v := ?v1_3) (some 25) rfl rfl rfl ?q1_3 ?h1_3; (case q1_3 => (intro w' hS; obtain ⟨z1, z2⟩ := hS; first | (go_simp; done) | (go_simp; rfl))); (try simp only [Act.put, List.setIfInBounds_toArray, List.set_cons_zero, List.set_cons_succ])
        refine perm_q (v := ?v1_4) (some 26) rfl rfl rfl ?q1_4 ?h1_4; (case q1_4 => (intro w' hS; obtain ⟨z1, z2⟩ := hS; first | (go_simp; done) | (go_simp; rfl))); (try simp only [Act.put, List.setIfInBounds_toArray, List.set_cons_zero, List.set_cons_succ])
        refine perm_q (v := ?v1_5) (some 27) rfl rfl rfl ?q1_5 ?h1_5; (case q1_5 => (intro w' hS; obtain ⟨z1, z2⟩ := hS; first | (go_simp; done) | (go_simp; rfl))); (try simp only [Act.put, List.setIfInBounds_toArray, List.set_cons_zero, List.set_cons_succ])
        refine perm_q (v := ?v1_6) (some 28) rfl rfl rfl ?q1_6 ?h1_6; (case q1_6 => (intro w' hS; obtain ⟨z1, z2⟩ := hS; first | (go_simp; done) | (go_simp; rfl))); (try simp only [Act.put, List.setIfInBounds_toArray, List.set_cons_zero, List.set_cons_succ])
        refine perm_q (v := ?v1_7) (some 29) rfl rfl rfl ?q1_7 ?h1_7; (case q1_7 => (intro w' hS; obtain ⟨z1, z2⟩ := hS; first | (go_simp; done) | (go_simp; rfl))); (try simp only [Act.put, List.setIfInBounds_toArray, List.set_cons_zero, List.set_cons_succ])
        refine perm_q (v := ?v1_8) (some 30) rfl rfl rfl ?q1_8 ?h1_8; (case q1_8 => (intro w' hS; obtain ⟨z1, z2⟩ := hS; first | (go_simp; done) | (go_simp; rfl))); (try simp only [Act.put, List.setIfInBounds_toArray, List.set_cons_zero, List.set_cons_succ])
        refine perm_q (v := ?v1_9) (some 31) rfl rfl rfl ?q1_9 ?h1_9; (case q1_9 => (intro w' hS; obtain ⟨z1, z2⟩ := hS; first | (go_simp; done) | (go_simp; rfl))); (try simp only [Act.put, List.setIfInBounds_toArray, List.set_cons_zero, List.set_cons_succ])
        refine perm_q (v := ?v1_10) (some 32) rfl rfl rfl ?q1_10 ?h1_10; (case q1_10 => (intro w' hS; obtain ⟨z1, z2⟩ := hS; first | (go_simp; done) | (go_simp; rfl))); (try simp only [Act.put, List.setIfInBounds_toArray, List.set_cons_zero, List.set_cons_succ])
        refine perm_e rfl ?_   -- 11: store 3 t32 t30
        go_must (refine ev_store (x := .int .i64 E.rev) (vs := [.int .i64 E.rev]) (off := i * 5 + 3) (cs' := List.toArray (ck.toList.take (i * 5 + 3) ++ [Value.int .i64 E.rev] ++ ck.toList.drop (i * 5 + 3 + [Value.int .i64 E.rev].length))) rfl rfl rfl rfl rfl rfl HI3.out.1 HI3.out.2 rfl Hck.out (by have := Hsz.out; exact this) rfl ?_; intro w3 hb3 hk3)
        (try simp only [Act.put, List.setIfInBounds_toArray, List.set_cons_zero, List.set_cons_succ])
        refine wpList_nil ⟨⟨hk3.cell (w := w2.drew) p3 Hp2.out.core.apart.1.2.2.1, hk3.cell (w := w2.drew) p4 Hp2.out.core.apart.1.2.2.1⟩, ?_⟩
        refine perm_nil ?_
        have hk23 : Keeps (· = kb) w2 w3 := (Keeps.refl (· = kb) w2).drew.trans hk3 (fun _ _ h => h)
        have Hk23 := Lib.hid hk23
        have Hb3 := Lib.hid hb3
        have u1 := hk23.cell u1 (fun e : g5 = kb => Hg5.out.2.2 (.inr (.inl e)))
        clear hk3 hk23 hb3 p3 p4
        go_wp2
        go_ret2
        have hrow := RowC.check (c := E.rev) Hlen.out Hckx.out hin Hg1.out Hk23.out Hp2.out.core.xk Hb3.out
        have hfin := Hp2.out.core.rowed Hk23.out hrow
        exact ⟨X2, dv2, RefPost.after HK1.out (RefPost.more Hp2.out Hk23.out (fun _ _ h => .inr (.inl h)) (.inl rfl) (fun _ _ => Iff.rfl) hfin), rfl⟩
end Go.Proofs.QW

/-
  The specification's engine asks (ask, Ask), in memory: it comes to the model's asking, however deep. Condition: the engine lies and is in order.
-/
namespace Go.Proofs.QW
open Go.RowKit Go.Proofs.KL Go.Proofs.QM
set_option maxRecDepth 100000
set_option linter.unusedSimpArgs false
set_option linter.unusedVariables false

set_option maxHeartbeats 4000000 in
/-- One level. -/
theorem refAsk_step {E : Env} (hE : EnvOk E) {on : List Int} (f : Nat) (w : World) (X : Nat → Prop) (wb sb hb kb nb : Nat) (s : PS) (dv : Value) (q : Int) (IH : q ∉ on → RefAskOK E (q :: on) (askF E f (q :: on)))
    (hc : RefC w X wb sb hb kb nb E on s dv) (hi : PInv E on s) (hq : InQ E q) :
    Calls Tryd.prog 69 #[.pointer (some ⟨wb, 0, none⟩), .int .i64 q] w (RefAns w X wb sb hb kb nb E on dv (askF E (f + 1) on s q)) := by
  obtain ⟨RR, hRR⟩ : ∃ x, askF E (f + 1) on s q = x := ⟨_, rfl⟩
  rw [hRR]
  unfold askF at hRR
  have h200 := hE.len
  have hin0 := Lib.hid (refInput hc hq h200)
  have hcall0 : (E.rule q).kind ≠ 1 → q ∉ on → ∀ wx, RefC wx X wb sb hb kb nb E (q :: on) s dv → ∀ u, IntsX wx X u ((s.get q).getD k0).asked → (∀ k, s.get q = some k → k.checked ≠ E.rev) → Calls Tryd.prog 70 #[.pointer (some ⟨wb, 0, none⟩), .int .i64 q, .agg #[.bool (s.get q).isSome, .int .i64 ((s.get q).getD k0).value, u, .int .i64 ((s.get q).getD k0).checked, .int .i64 ((s.get q).getD k0).changed]] wx (RefAns wx X wb sb hb kb nb E (q :: on) dv (answerM E (askF E f (q :: on)) s q)) :=
    fun hk1 hn wx hcx u hu hne => refAnswer hE (IH hn) (askF_good hE f (q :: on)) (askF_told hE f (q :: on)) hq hk1 wx X wb sb hb kb nb s dv u hcx (hi.open_ hq hn hne) hu
  obtain ⟨i, rfl⟩ := Int.eq_ofNat_of_zero_le hq.1
  have hin : i < E.rules.length := by have := hq.2; omega
  obtain ⟨rv, hwb, -⟩ := hc.blk
  have p1 := (blk_cell hwb 1).trans rfl
  have p3 := (blk_cell hwb 3).trans rfl
  have p4 := (blk_cell hwb 4).trans rfl
  have p5 := (blk_cell hwb 5).trans rfl
  obtain ⟨cst, hset, hsx⟩ := hc.set
  have c9 := (blk_cell hset i).trans (hsx i hin)
  obtain ⟨cn, hnbk, hnc⟩ := id hc.open_
  have n0 := (blk_cell hnbk i).trans (hnc i hin)
  obtain ⟨ck, hck, hkx⟩ := hc.row
  obtain ⟨ku, k0', k1', k2', k3', k4', hku⟩ := hkx i hin
  obtain ⟨i113, hi113, hs113⟩ := info113
  obtain ⟨i4, hi4, hs4⟩ := infoS4
  have HI := Lib.hid (And.intro (And.intro hi113 hs113) (And.intro hi4 hs4))
  have Hc := Lib.hid hc
  have Hlt := Lib.hid hc.lts
  have Hsz := Lib.hid (pget_size (hnc i hin))
  have Hnc := Lib.hid hnc
  have Hnbk := Lib.hid hnbk
  have Hck := Lib.hid hck
  have hgt : s.get (i : Int) = s.ans.getD i none := by unfold PS.get; rw [Int.toNat_natCast]
  have Hcall0 := Lib.hid hcall0
  simp only [Int.toNat_natCast] at hRR
  generalize E.inp.getD i 0 = iv at *
  clear hwb hset hsx hnbk hnc hck hkx hc hi hq IH hcall0 hE hi113 hs113 hi4 hs4
  by_cases hk : (E.rule (i : Int)).kind = 1
  · rw [if_pos hk] at hRR
    have hkb : ((E.rule (i : Int)).kind == 1) = true := by rw [hk]; rfl
    rw [hkb] at hin0
    have HR := Lib.hid hRR
    clear hk hkb hRR k0' k1' k2' k3' k4' hku hgt
    go_enter Tryd.func69, Tryd.ntmps69
    go_wp2_with (go_at_call 61; go_must (refine hin0.out.mono ?_; rintro e w' ⟨rfl, rfl⟩))
    go_ret2
    rw [← HR.out]
    exact ⟨X, dv, RefPost.refl Hc.out, rfl⟩
  · rw [if_neg hk] at hRR
    have hkb : ((E.rule (i : Int)).kind == 1) = false := by simpa using hk
    rw [hkb] at hin0
    have Hk := Lib.hid hk
    clear hk hkb
    by_cases hon : (i : Int) ∈ on
    · rw [if_pos hon] at hRR
      have HR := Lib.hid hRR
      rw [decide_eq_true hon] at n0
      clear hon hRR k0' k1' k2' k3' k4' hku hgt
      go_enter Tryd.func69, Tryd.ntmps69
      go_wp2_with (go_at_call 61; go_must (refine hin0.out.mono ?_; rintro e w' ⟨rfl, rfl⟩))
      go_ret2
      rw [← HR.out]
      exact ⟨X, dv, RefPost.refl Hc.out, rfl⟩
    · rw [if_neg hon] at hRR
      rw [decide_eq_false hon] at n0
      have Hon := Lib.hid hon
      obtain ⟨was, hwas⟩ : ∃ x, s.get (i : Int) = x := ⟨_, rfl⟩
      rw [← hgt, hwas] at k0' k1' k3' k4' hku
      have hcall1 := Hcall0.out Hk.out hon
      rw [hwas] at hRR hcall1
      have hans : (∀ k, was = some k → k.checked ≠ E.rev) → answerM E (askF E f (↑i :: on)) s ↑i = RR := fun hne => by
        rw [← hRR]
        unfold answerM
        rw [hwas]
        cases was with
        | none => rfl
        | some k => simp only; rw [if_neg (hne k rfl)]; rfl
      have hfin : ∀ k, was = some k → k.checked = E.rev → RR = (s, .ok (k.value, k.changed)) := fun k e hck => by
        subst e
        simp only at hRR
        rw [if_pos hck] at hRR
        exact hRR.symm
      obtain ⟨wis, hwis⟩ : ∃ x, was.isSome = x := ⟨_, rfl⟩
      obtain ⟨wval, hwval⟩ : ∃ x, (was.getD k0).value = x := ⟨_, rfl⟩
      obtain ⟨wask, hwask⟩ : ∃ x, (was.getD k0).asked = x := ⟨_, rfl⟩
      obtain ⟨wck, hwck⟩ : ∃ x, (was.getD k0).checked = x := ⟨_, rfl⟩
      obtain ⟨wch, hwch⟩ : ∃ x, (was.getD k0).changed = x := ⟨_, rfl⟩
      rw [hwis, hwval, hwask, hwck, hwch] at hcall1
      rw [hwis] at k0'
      rw [hwval] at k1'
      rw [hwck] at k3'
      rw [hwch] at k4'
      rw [hwask] at hku
      obtain ⟨kuA, kuc, rfl, -, -⟩ := id hku
      have Hu := Lib.hid hku
      have c0 := (blk_cell Hck.out (i * 5)).trans k0'
      have c1 := (blk_cell Hck.out (i * 5 + 1)).trans k1'
      have c2 := (blk_cell Hck.out (i * 5 + 2)).trans k2'
      have c3 := (blk_cell Hck.out (i * 5 + 3)).trans k3'
      have c4 := (blk_cell Hck.out (i * 5 + 4)).trans k4'
      clear k0' k1' k2' k3' k4' hku hgt hon hRR
      cases was with
      | none =>
        obtain rfl : false = wis := hwis
        have hcall : ∀ wx, RefC wx X wb sb hb kb nb E (↑i :: on) s dv → IntsX wx X (.slice kuA wask.length kuc) wask → Calls Tryd.prog 70 #[.pointer (some ⟨wb, 0, none⟩), .int .i64 i, .agg #[.bool false, .int .i64 wval, .slice kuA wask.length kuc, .int .i64 wck, .int .i64 wch]] wx (RefAns wx X wb sb hb kb nb E (↑i :: on) dv RR) := fun wx h1 h2 => by
          have h := hcall1 wx h1 _ h2 (fun k e => by cases e)
          rwa [hans (fun k e => by cases e)] at h
        have Hcall := Lib.hid hcall
        obtain ⟨R, hR⟩ : ∃ x, RR = x := ⟨_, rfl⟩
        have HR := Lib.hid hR
        clear hcall hcall1 hans hfin hwval hwask hwck hwch hwas hR
        go_enter Tryd.func69, Tryd.ntmps69
        go_wp2_with (first
          | (go_at_call 61; go_must (refine hin0.out.mono ?_; rintro e w' ⟨rfl, rfl⟩))
          | ((with_reducible refine at_dst (N := 6) rfl ?_); go_must (refine ev_alloc rfl rfl zero113 rfl ?_; intro g6 w1 hg6 hl6 hb6 hk1)
             have Hb6 := Lib.hid hb6
             have HK1 := Lib.hid hk1
             have p4 := hk1.cell p4 id
             clear hb6 hk1
             (try simp only [Act.put, List.setIfInBounds_toArray, List.set_cons_zero, List.set_cons_succ]))
          | ((with_reducible refine at_store (t := 113) (p := 6) rfl ?_); go_must (refine ev_store (cs' := #[.bool false, .int .i64 wval, .slice kuA wask.length kuc, .int .i64 wck, .int .i64 wch]) rfl rfl rfl rfl rfl rfl HI.out.1.1 HI.out.1.2 rfl Hb6.out (Nat.le_of_ble_eq_true rfl) rfl ?_; intro w2 hb2 hk2)
             have HK2 := Lib.hid (show Keeps Nob w w2 from HK1.out.own hk2 hg6)
             have p4 := hk2.cell p4 (by have h := Hlt.out; show ¬ wb = g6; omega)
             have p5 := HK2.out.cell p5 id
             have q0 := (blk_cell hb2 0).trans rfl
             have q1 := (blk_cell hb2 1).trans rfl
             have q2 := (blk_cell hb2 2).trans rfl
             have q3 := (blk_cell hb2 3).trans rfl
             have q4 := (blk_cell hb2 4).trans rfl
             have Hb62 := Lib.hid hb2
             clear hb2 hk2
             (try simp only [Act.put, List.setIfInBounds_toArray, List.set_cons_zero, List.set_cons_succ]))
        )
        refine wp_region_perm [(0, true), (1, true), (2, true), (3, true), (4, true), (5, true), (6, true), (7, true), (8, true), (9, true), (10, true)] (fun w' => w'.cell? ⟨g6, 0, none⟩ = some (.bool false) ∧ w'.cell? ⟨g6, 3, none⟩ = some (.int .i64 wck) ∧ w'.cell? ⟨wb, 4, none⟩ = some (.int .i64 E.rev)) rfl (by kernel_rfl) (by kernel_rfl) (by decide) (fun c a d v w h => by cases d <;> exact h) ⟨q0, q3, p4⟩ ?_
        refine perm_q (v := ?v1_0) (some 33) rfl rfl rfl ?q1_0 ?h1_0; (case q1_0 => (intro w' hS; obtain ⟨z1, z2, z3⟩ := hS; first | (go_simp; done) | (go_simp; rfl))); (try simp only [Act.put, List.setIfInBounds_toArray, List.set_cons_zero, List.set_cons_succ])
        refine perm_q (v := ?v1_1) (some 34) rfl rfl rfl ?q1_1 ?h1_1; (case q1_1 => (intro w' hS; obtain ⟨z1, z2, z3⟩ := hS; first | (go_simp; done) | (go_simp; rfl))); (try simp only [Act.put, List.setIfInBounds_toArray, List.set_cons_zero, List.set_cons_succ])
        refine perm_q (v := ?v1_2) (some 35) rfl rfl rfl ?q1_2 ?h1_2; (case q1_2 => (intro w' hS; obtain ⟨z1, z2, z3⟩ := hS; first | (go_simp; done) | (go_simp; rfl))); (try simp only [Act.put, List.setIfInBounds_toArray, List.set_cons_zero, List.set_cons_succ])
        refine perm_skip (some 36) rfl rfl rfl ?_; (try simp only [Act.put, List.setIfInBounds_toArray, List.set_cons_zero, List.set_cons_succ])
        refine perm_skip (some 37) rfl rfl rfl ?_; (try simp only [Act.put, List.setIfInBounds_toArray, List.set_cons_zero, List.set_cons_succ])
        refine perm_skip (some 38) rfl rfl rfl ?_; (try simp only [Act.put, List.setIfInBounds_toArray, List.set_cons_zero, List.set_cons_succ])
        refine perm_skip (some 39) rfl rfl rfl ?_; (try simp only [Act.put, List.setIfInBounds_toArray, List.set_cons_zero, List.set_cons_succ])
        refine perm_skip (some 40) rfl rfl rfl ?_; (try simp only [Act.put, List.setIfInBounds_toArray, List.set_cons_zero, List.set_cons_succ])
        refine perm_skip (some 41) rfl rfl rfl ?_; (try simp only [Act.put, List.setIfInBounds_toArray, List.set_cons_zero, List.set_cons_succ])
        refine perm_skip (some 42) rfl rfl rfl ?_; (try simp only [Act.put, List.setIfInBounds_toArray, List.set_cons_zero, List.set_cons_succ])
        refine perm_q (v := ?v1_10) (some 43) rfl rfl rfl ?q1_10 ?h1_10; (case q1_10 => (intro w' hS; obtain ⟨z1, z2, z3⟩ := hS; first | (go_simp; done) | (go_simp; rfl))); (try simp only [Act.put, List.setIfInBounds_toArray, List.set_cons_zero, List.set_cons_succ])
        refine perm_nil ?_
        have HKd := Lib.hid (show Keeps Nob w w2.drew from HK2.out.drew)
        go_wp2_with (first
          | ((with_reducible refine at_store (t := 4) (p := 51) rfl ?_)
             go_must (refine ev_store (x := .bool true) (vs := [.bool true]) (cs' := List.toArray (cn.toList.take i ++ [Value.bool true] ++ cn.toList.drop (i + [Value.bool true].length))) rfl rfl rfl rfl rfl rfl HI.out.2.1 HI.out.2.2 rfl (HKd.out.blk Hnbk.out id) (by have := Hsz.out; exact this) rfl ?_; intro w3 hb3 hk3)
             go_must (have HK3 := Lib.hid (show Keeps (· = nb) w w3 from (HKd.out.mono (fun _ _ h => h.elim)).trans hk3 (fun _ _ h => h)))
             go_must (have Hc3 := Lib.hid ((Hc.out.after HKd.out).reopen hk3 (OnX.put (on' := ↑i :: on) (b := true) (w := w) Hnc.out hin hb3 (fun j hj => by by_cases e : j = i; subst e; simp; rw [if_neg e]; congr 1; simp; intro h; exact absurd (by omega) e))))
             go_must (have Hrun := Lib.hid (Hcall.out w3 Hc3.out ((Hu.out.keep (X' := X) HKd.out (fun _ _ _ => id) (fun _ _ h => h)).keep (X' := X) hk3 (fun b _ hx e => Hc.out.xn (e ▸ hx)) (fun _ _ h => h))))
             have hgn : ¬ g6 = nb := by have h := Hlt.out; omega
             have q0 := hk3.cell (w := w2.drew) q0 hgn
             have q1 := hk3.cell (w := w2.drew) q1 hgn
             have q2 := hk3.cell (w := w2.drew) q2 hgn
             have q3 := hk3.cell (w := w2.drew) q3 hgn
             have q4 := hk3.cell (w := w2.drew) q4 hgn
             clear hb3 hk3 hgn
             (try simp only [Act.put, List.setIfInBounds_toArray, List.set_cons_zero, List.set_cons_succ]))
          | (go_at_call 70; have Hg := Lib.hid (And.intro hg6 Hlt.out); go_must (refine Hrun.out.mono ?_; rintro e w4 ⟨X4, dv4, hp4, rfl⟩)
             have Hp4 := Lib.hid hp4
             go_must (have hbk4 : ∃ rv4, w4.heap[wb]? = some (.cells #[rv4, .slice (some ⟨sb, 0, none⟩) E.rules.length E.rules.length, .slice (some ⟨hb, 0, none⟩) E.rules.length E.rules.length, .slice (some ⟨kb, 0, none⟩) E.rules.length E.rules.length, .int .i64 E.rev, .slice (some ⟨nb, 0, none⟩) E.rules.length E.rules.length, dv4, .int .i64 E.most] 100 (0, 0)) ∧ True := by obtain ⟨rv4, h, _⟩ := hp4.core.blk; exact ⟨rv4, h, trivial⟩)
             obtain ⟨rv4, hb4, -⟩ := hbk4
             have p5 := (blk_cell hb4 5).trans rfl
             go_must (have hcn4 : ∃ cs : Array Value, w4.heap[nb]? = some (.cells cs 4 (0, 0)) ∧ Hid (∀ j : Nat, j < E.rules.length → cs[j]? = some (.bool (decide ((j : Int) ∈ (↑i :: on : List Int))))) := hp4.core.open_; obtain ⟨cn4, hbn4, Hcn4⟩ := hcn4)
             have Hbn4 := Lib.hid hbn4
             have Hsz4 := Lib.hid (pget_size (Hcn4.out i hin))
             clear hp4 hb4 hbn4
             (try simp only [Act.put, List.setIfInBounds_toArray, List.set_cons_zero, List.set_cons_succ]))
          | ((with_reducible refine at_store (t := 4) (p := 64) rfl ?_)
             go_must (refine ev_store (x := .bool false) (vs := [.bool false]) (cs' := List.toArray (cn4.toList.take i ++ [Value.bool false] ++ cn4.toList.drop (i + [Value.bool false].length))) rfl rfl rfl rfl rfl rfl HI.out.2.1 HI.out.2.2 rfl Hbn4.out (by have := Hsz4.out; exact this) rfl ?_; intro w5 hb5 hk5)
             have HK5 := Lib.hid hk5
             have Hb5 := Lib.hid hb5
             clear hb5 hk5
             (try simp only [Act.put, List.setIfInBounds_toArray, List.set_cons_zero, List.set_cons_succ]))
        )
        go_ret2
        exact ⟨X4, dv4, RefPost.ahead HK3.out (fun _ _ h => .inr (.inr (.inl h))) (RefPost.more Hp4.out HK5.out (fun _ _ h => .inr (.inr (.inl h))) (.inl rfl) (fun _ _ => Iff.rfl) (Hp4.out.core.reopen HK5.out (OnX.put (on' := on) (b := false) (w := w) Hcn4.out hin Hb5.out (fun j hj => by by_cases e : j = i; subst e; rw [if_pos rfl]; exact decide_eq_false Hon.out; rw [if_neg e]; congr 1; simp; intro h; exact absurd (by omega) e)))), rfl⟩
      | some k =>
        obtain rfl : true = wis := hwis
        by_cases hw : wck = E.rev
        · have hcb : (wck == E.rev) = true := by simpa using hw
          have hR := hfin k rfl (hwck.trans hw)
          have hv : k.value = wval := hwval
          rw [hv] at hR
          have HR := Lib.hid hR
          clear hcall1 hans hfin hwval hwask hwck hwch hwas hR hw hv
          go_enter Tryd.func69, Tryd.ntmps69
          go_wp2_with (first
            | (go_at_call 61; go_must (refine hin0.out.mono ?_; rintro e w' ⟨rfl, rfl⟩))
            | ((with_reducible refine at_dst (N := 6) rfl ?_); go_must (refine ev_alloc rfl rfl zero113 rfl ?_; intro g6 w1 hg6 hl6 hb6 hk1)
               have Hb6 := Lib.hid hb6
               have HK1 := Lib.hid hk1
               have p4 := hk1.cell p4 id
               clear hb6 hk1
               (try simp only [Act.put, List.setIfInBounds_toArray, List.set_cons_zero, List.set_cons_succ]))
            | ((with_reducible refine at_store (t := 113) (p := 6) rfl ?_); go_must (refine ev_store (cs' := #[.bool true, .int .i64 wval, .slice kuA wask.length kuc, .int .i64 wck, .int .i64 wch]) rfl rfl rfl rfl rfl rfl HI.out.1.1 HI.out.1.2 rfl Hb6.out (Nat.le_of_ble_eq_true rfl) rfl ?_; intro w2 hb2 hk2)
               have HK2 := Lib.hid (show Keeps Nob w w2 from HK1.out.own hk2 hg6)
               have p4 := hk2.cell p4 (by have h := Hlt.out; show ¬ wb = g6; omega)
               have p5 := HK2.out.cell p5 id
               have q0 := (blk_cell hb2 0).trans rfl
               have q1 := (blk_cell hb2 1).trans rfl
               have q2 := (blk_cell hb2 2).trans rfl
               have q3 := (blk_cell hb2 3).trans rfl
               have q4 := (blk_cell hb2 4).trans rfl
               have Hb62 := Lib.hid hb2
               clear hb2 hk2
               (try simp only [Act.put, List.setIfInBounds_toArray, List.set_cons_zero, List.set_cons_succ]))
          )
          refine wp_region_perm [(0, true), (1, true), (2, true), (3, true), (4, true), (5, true), (6, true), (7, true), (8, true), (9, true), (10, true)] (fun w' => w'.cell? ⟨g6, 0, none⟩ = some (.bool true) ∧ w'.cell? ⟨g6, 3, none⟩ = some (.int .i64 wck) ∧ w'.cell? ⟨wb, 4, none⟩ = some (.int .i64 E.rev)) rfl (by kernel_rfl) (by kernel_rfl) (by decide) (fun c a d v w h => by cases d <;> exact h) ⟨q0, q3, p4⟩ ?_
          refine perm_q (v := ?v2_0) (some 33) rfl rfl rfl ?q2_0 ?h2_0; (case q2_0 => (intro w' hS; obtain ⟨z1, z2, z3⟩ := hS; first | (go_simp; done) | (go_simp; rfl))); (try simp only [Act.put, List.setIfInBounds_toArray, List.set_cons_zero, List.set_cons_succ])
          refine perm_q (v := ?v2_1) (some 34) rfl rfl rfl ?q2_1 ?h2_1; (case q2_1 => (intro w' hS; obtain ⟨z1, z2, z3⟩ := hS; first | (go_simp; done) | (go_simp; rfl))); (try simp only [Act.put, List.setIfInBounds_toArray, List.set_cons_zero, List.set_cons_succ])
          refine perm_q (v := ?v2_2) (some 35) rfl rfl rfl ?q2_2 ?h2_2; (case q2_2 => (intro w' hS; obtain ⟨z1, z2, z3⟩ := hS; first | (go_simp; done) | (go_simp; rfl))); (try simp only [Act.put, List.setIfInBounds_toArray, List.set_cons_zero, List.set_cons_succ])
          refine perm_q (v := ?v2_3) (some 36) rfl rfl rfl ?q2_3 ?h2_3; (case q2_3 => (intro w' hS; obtain ⟨z1, z2, z3⟩ := hS; first | (go_simp; done) | (go_simp; rfl))); (try simp only [Act.put, List.setIfInBounds_toArray, List.set_cons_zero, List.set_cons_succ])
          refine perm_q (v := ?v2_4) (some 37) rfl rfl rfl ?q2_4 ?h2_4; (case q2_4 => (intro w' hS; obtain ⟨z1, z2, z3⟩ := hS; first | (go_simp; done) | (go_simp; rfl))); (try simp only [Act.put, List.setIfInBounds_toArray, List.set_cons_zero, List.set_cons_succ])
          refine perm_q (v := ?v2_5) (some 38) rfl rfl rfl ?q2_5 ?h2_5; (case q2_5 => (intro w' hS; obtain ⟨z1, z2, z3⟩ := hS; first | (go_simp; done) | (go_simp; rfl))); (try simp only [Act.put, List.setIfInBounds_toArray, List.set_cons_zero, List.set_cons_succ])
          refine perm_q (v := ?v2_6) (some 39) rfl rfl rfl ?q2_6 ?h2_6; (case q2_6 => (intro w' hS; obtain ⟨z1, z2, z3⟩ := hS; first | (go_simp; done) | (go_simp; rfl))); (try simp only [Act.put, List.setIfInBounds_toArray, List.set_cons_zero, List.set_cons_succ])
          refine perm_q (v := ?v2_7) (some 40) rfl rfl rfl ?q2_7 ?h2_7; (case q2_7 => (intro w' hS; obtain ⟨z1, z2, z3⟩ := hS; first | (go_simp; done) | (go_simp; rfl))); (try simp only [Act.put, List.setIfInBounds_toArray, List.set_cons_zero, List.set_cons_succ])
          refine perm_q (v := ?v2_8) (some 41) rfl rfl rfl ?q2_8 ?h2_8; (case q2_8 => (intro w' hS; obtain ⟨z1, z2, z3⟩ := hS; first | (go_simp; done) | (go_simp; rfl))); (try simp only [Act.put, List.setIfInBounds_toArray, List.set_cons_zero, List.set_cons_succ])
          refine perm_q (v := ?v2_9) (some 42) rfl rfl rfl ?q2_9 ?h2_9; (case q2_9 => (intro w' hS; obtain ⟨z1, z2, z3⟩ := hS; first | (go_simp; done) | (go_simp; rfl))); (try simp only [Act.put, List.setIfInBounds_toArray, List.set_cons_zero, List.set_cons_succ])
          refine perm_q (v := ?v2_10) (some 43) rfl rfl rfl ?q2_10 ?h2_10; (case q2_10 => (intro w' hS; obtain ⟨z1, z2, z3⟩ := hS; first | (go_simp; done) | (go_simp; rfl))); (try simp only [Act.put, List.setIfInBounds_toArray, List.set_cons_zero, List.set_cons_succ])
          refine perm_nil ?_
          go_wp2
          go_ret2
          rw [HR.out]
          exact ⟨X, dv, RefPost.after HK2.out.drew (RefPost.refl (Hc.out.after HK2.out.drew)), rfl⟩
        · have hcb : (wck == E.rev) = false := by simpa using hw
          have hcall : ∀ wx, RefC wx X wb sb hb kb nb E (↑i :: on) s dv → IntsX wx X (.slice kuA wask.length kuc) wask → Calls Tryd.prog 70 #[.pointer (some ⟨wb, 0, none⟩), .int .i64 i, .agg #[.bool true, .int .i64 wval, .slice kuA wask.length kuc, .int .i64 wck, .int .i64 wch]] wx (RefAns wx X wb sb hb kb nb E (↑i :: on) dv RR) := fun wx h1 h2 => by
            have hne : ∀ k', some k = some k' → k'.checked ≠ E.rev := fun k' e hx => by injection e with e; subst e; exact hw (hwck.symm.trans hx)
            have h := hcall1 wx h1 _ h2 hne
            rwa [hans hne] at h
          have Hcall := Lib.hid hcall
          obtain ⟨R, hR⟩ : ∃ x, RR = x := ⟨_, rfl⟩
          have HR := Lib.hid hR
          clear hcall hcall1 hans hfin hwval hwask hwck hwch hwas hR hw
          go_enter Tryd.func69, Tryd.ntmps69
          go_wp2_with (first
            | (go_at_call 61; go_must (refine hin0.out.mono ?_; rintro e w' ⟨rfl, rfl⟩))
            | ((with_reducible refine at_dst (N := 6) rfl ?_); go_must (refine ev_alloc rfl rfl zero113 rfl ?_; intro g6 w1 hg6 hl6 hb6 hk1)
               have Hb6 := Lib.hid hb6
               have HK1 := Lib.hid hk1
               have p4 := hk1.cell p4 id
               clear hb6 hk1
               (try simp only [Act.put, List.setIfInBounds_toArray, List.set_cons_zero, List.set_cons_succ]))
            | ((with_reducible refine at_store (t := 113) (p := 6) rfl ?_); go_must (refine ev_store (cs' := #[.bool true, .int .i64 wval, .slice kuA wask.length kuc, .int .i64 wck, .int .i64 wch]) rfl rfl rfl rfl rfl rfl HI.out.1.1 HI.out.1.2 rfl Hb6.out (Nat.le_of_ble_eq_true rfl) rfl ?_; intro w2 hb2 hk2)
               have HK2 := Lib.hid (show Keeps Nob w w2 from HK1.out.own hk2 hg6)
               have p4 := hk2.cell p4 (by have h := Hlt.out; show ¬ wb = g6; omega)
               have p5 := HK2.out.cell p5 id
               have q0 := (blk_cell hb2 0).trans rfl
               have q1 := (blk_cell hb2 1).trans rfl
               have q2 := (blk_cell hb2 2).trans rfl
               have q3 := (blk_cell hb2 3).trans rfl
               have q4 := (blk_cell hb2 4).trans rfl
               have Hb62 := Lib.hid hb2
               clear hb2 hk2
               (try simp only [Act.put, List.setIfInBounds_toArray, List.set_cons_zero, List.set_cons_succ]))
          )
          refine wp_region_perm [(0, true), (1, true), (2, true), (3, true), (4, true), (5, true), (6, true), (7, true), (8, true), (9, true), (10, true)] (fun w' => w'.cell? ⟨g6, 0, none⟩ = some (.bool true) ∧ w'.cell? ⟨g6, 3, none⟩ = some (.int .i64 wck) ∧ w'.cell? ⟨wb, 4, none⟩ = some (.int .i64 E.rev)) rfl (by kernel_rfl) (by kernel_rfl) (by decide) (fun c a d v w h => by cases d <;> exact h) ⟨q0, q3, p4⟩ ?_
          refine perm_q (v := ?v3_0) (some 33) rfl rfl rfl ?q3_0 ?h3_0; (case q3_0 => (intro w' hS; obtain ⟨z1, z2, z3⟩ := hS; first | (go_simp; done) | (go_simp; rfl))); (try simp only [Act.put, List.setIfInBounds_toArray, List.set_cons_zero, List.set_cons_succ])
          refine perm_q (v := ?v3_1) (some 34) rfl rfl rfl ?q3_1 ?h3_1; (case q3_1 => (intro w' hS; obtain ⟨z1, z2, z3⟩ := hS; first | (go_simp; done) | (go_simp; rfl))); (try simp only [Act.put, List.setIfInBounds_toArray, List.set_cons_zero, List.set_cons_succ])
          refine perm_q (v := ?v3_2) (some 35) rfl rfl rfl ?q3_2 ?h3_2; (case q3_2 => (intro w' hS; obtain ⟨z1, z2, z3⟩ := hS; first | (go_simp; done) | (go_simp; rfl))); (try simp only [Act.put, List.setIfInBounds_toArray, List.set_cons_zero, List.set_cons_succ])
          refine perm_q (v := ?v3_3) (some 36) rfl rfl rfl ?q3_3 ?h3_3; (case q3_3 => (intro w' hS; obtain ⟨z1, z2, z3⟩ := hS; first | (go_simp; done) | (go_simp; rfl))); (try simp only [Act.put, List.setIfInBounds_toArray, List.set_cons_zero, List.set_cons_succ])
          refine perm_q (v := ?v3_4) (some 37) rfl rfl rfl ?q3_4 ?h3_4; (case q3_4 => (intro w' hS; obtain ⟨z1, z2, z3⟩ := hS; first | (go_simp; done) | (go_simp; rfl))); (try simp only [Act.put, List.setIfInBounds_toArray, List.set_cons_zero, List.set_cons_succ])
          refine perm_q (v := ?v3_5) (some 38) rfl rfl rfl ?q3_5 ?h3_5; (case q3_5 => (intro w' hS; obtain ⟨z1, z2, z3⟩ := hS; first | (go_simp; done) | (go_simp; rfl))); (try simp only [Act.put, List.setIfInBounds_toArray, List.set_cons_zero, List.set_cons_succ])
          refine perm_q (v := ?v3_6) (some 39) rfl rfl rfl ?q3_6 ?h3_6; (case q3_6 => (intro w' hS; obtain ⟨z1, z2, z3⟩ := hS; first | (go_simp; done) | (go_simp; rfl))); (try simp only [Act.put, List.setIfInBounds_toArray, List.set_cons_zero, List.set_cons_succ])
          refine perm_q (v := ?v3_7) (some 40) rfl rfl rfl ?q3_7 ?h3_7; (case q3_7 => (intro w' hS; obtain ⟨z1, z2, z3⟩ := hS; first | (go_simp; done) | (go_simp; rfl))); (try simp only [Act.put, List.setIfInBounds_toArray, List.set_cons_zero, List.set_cons_succ])
          refine perm_q (v := ?v3_8) (some 41) rfl rfl rfl ?q3_8 ?h3_8; (case q3_8 => (intro w' hS; obtain ⟨z1, z2, z3⟩ := hS; first | (go_simp; done) | (go_simp; rfl))); (try simp only [Act.put, List.setIfInBounds_toArray, List.set_cons_zero, List.set_cons_succ])
          refine perm_q (v := ?v3_9) (some 42) rfl rfl rfl ?q3_9 ?h3_9; (case q3_9 => (intro w' hS; obtain ⟨z1, z2, z3⟩ := hS; first | (go_simp; done) | (go_simp; rfl))); (try simp only [Act.put, List.setIfInBounds_toArray, List.set_cons_zero, List.set_cons_succ])
          refine perm_q (v := ?v3_10) (some 43) rfl rfl rfl ?q3_10 ?h3_10; (case q3_10 => (intro w' hS; obtain ⟨z1, z2, z3⟩ := hS; first | (go_simp; done) | (go_simp; rfl))); (try simp only [Act.put, List.setIfInBounds_toArray, List.set_cons_zero, List.set_cons_succ])
          refine perm_nil ?_
          have HKd := Lib.hid (show Keeps Nob w w2.drew from HK2.out.drew)
          go_wp2_with (first
            | ((with_reducible refine at_store (t := 4) (p := 51) rfl ?_)
               go_must (refine ev_store (x := .bool true) (vs := [.bool true]) (cs' := List.toArray (cn.toList.take i ++ [Value.bool true] ++ cn.toList.drop (i + [Value.bool true].length))) rfl rfl rfl rfl rfl rfl HI.out.2.1 HI.out.2.2 rfl (HKd.out.blk Hnbk.out id) (by have := Hsz.out; exact this) rfl ?_; intro w3 hb3 hk3)
               go_must (have HK3 := Lib.hid (show Keeps (· = nb) w w3 from (HKd.out.mono (fun _ _ h => h.elim)).trans hk3 (fun _ _ h => h)))
               go_must (have Hc3 := Lib.hid ((Hc.out.after HKd.out).reopen hk3 (OnX.put (on' := ↑i :: on) (b := true) (w := w) Hnc.out hin hb3 (fun j hj => by by_cases e : j = i; subst e; simp; rw [if_neg e]; congr 1; simp; intro h; exact absurd (by omega) e))))
               go_must (have Hrun := Lib.hid (Hcall.out w3 Hc3.out ((Hu.out.keep (X' := X) HKd.out (fun _ _ _ => id) (fun _ _ h => h)).keep (X' := X) hk3 (fun b _ hx e => Hc.out.xn (e ▸ hx)) (fun _ _ h => h))))
               have hgn : ¬ g6 = nb := by have h := Hlt.out; omega
               have q0 := hk3.cell (w := w2.drew) q0 hgn
               have q1 := hk3.cell (w := w2.drew) q1 hgn
               have q2 := hk3.cell (w := w2.drew) q2 hgn
               have q3 := hk3.cell (w := w2.drew) q3 hgn
               have q4 := hk3.cell (w := w2.drew) q4 hgn
               clear hb3 hk3 hgn
               (try simp only [Act.put, List.setIfInBounds_toArray, List.set_cons_zero, List.set_cons_succ]))
            | (go_at_call 70; have Hg := Lib.hid (And.intro hg6 Hlt.out); go_must (refine Hrun.out.mono ?_; rintro e w4 ⟨X4, dv4, hp4, rfl⟩)
               have Hp4 := Lib.hid hp4
               go_must (have hbk4 : ∃ rv4, w4.heap[wb]? = some (.cells #[rv4, .slice (some ⟨sb, 0, none⟩) E.rules.length E.rules.length, .slice (some ⟨hb, 0, none⟩) E.rules.length E.rules.length, .slice (some ⟨kb, 0, none⟩) E.rules.length E.rules.length, .int .i64 E.rev, .slice (some ⟨nb, 0, none⟩) E.rules.length E.rules.length, dv4, .int .i64 E.most] 100 (0, 0)) ∧ True := by obtain ⟨rv4, h, _⟩ := hp4.core.blk; exact ⟨rv4, h, trivial⟩)
               obtain ⟨rv4, hb4, -⟩ := hbk4
               have p5 := (blk_cell hb4 5).trans rfl
               go_must (have hcn4 : ∃ cs : Array Value, w4.heap[nb]? = some (.cells cs 4 (0, 0)) ∧ Hid (∀ j : Nat, j < E.rules.length → cs[j]? = some (.bool (decide ((j : Int) ∈ (↑i :: on : List Int))))) := hp4.core.open_; obtain ⟨cn4, hbn4, Hcn4⟩ := hcn4)
               have Hbn4 := Lib.hid hbn4
               have Hsz4 := Lib.hid (pget_size (Hcn4.out i hin))
               clear hp4 hb4 hbn4
               (try simp only [Act.put, List.setIfInBounds_toArray, List.set_cons_zero, List.set_cons_succ]))
            | ((with_reducible refine at_store (t := 4) (p := 64) rfl ?_)
               go_must (refine ev_store (x := .bool false) (vs := [.bool false]) (cs' := List.toArray (cn4.toList.take i ++ [Value.bool false] ++ cn4.toList.drop (i + [Value.bool false].length))) rfl rfl rfl rfl rfl rfl HI.out.2.1 HI.out.2.2 rfl Hbn4.out (by have := Hsz4.out; exact this) rfl ?_; intro w5 hb5 hk5)
               have HK5 := Lib.hid hk5
               have Hb5 := Lib.hid hb5
               clear hb5 hk5
               (try simp only [Act.put, List.setIfInBounds_toArray, List.set_cons_zero, List.set_cons_succ]))
          )
          go_ret2
          exact ⟨X4, dv4, RefPost.ahead HK3.out (fun _ _ h => .inr (.inr (.inl h))) (RefPost.more Hp4.out HK5.out (fun _ _ h => .inr (.inr (.inl h))) (.inl rfl) (fun _ _ => Iff.rfl) (Hp4.out.core.reopen HK5.out (OnX.put (on' := on) (b := false) (w := w) Hcn4.out hin Hb5.out (fun j hj => by by_cases e : j = i; subst e; rw [if_pos rfl]; exact decide_eq_false Hon.out; rw [if_neg e]; congr 1; simp; intro h; exact absurd (by omega) e)))), rfl⟩
/-- THE SPECIFICATION'S ASKING comes to the model's, however deep. -/
theorem refAsk_all {E : Env} (hE : EnvOk E) : ∀ (f : Nat) (on : List Int), E.rules.length + 1 ≤ f + on.length → RefAskOK E on (askF E f on)
  | 0, on, h => fun w X wb sb hb kb nb s dv q hc hi hq => by
    have := hi.onlen
    omega
  | f + 1, on, h => fun w X wb sb hb kb nb s dv q hc hi hq =>
    refAsk_step hE f w X wb sb hb kb nb s dv q (fun hn => refAsk_all hE f (q :: on) (by simp; omega)) hc hi hq
end Go.Proofs.QW
