/-
  QueryAnew, in memory: the law returns true. Condition: rules and calls lie, and the table of kinds is as laid.
-/
import Derived.Test.YtohpkolkagddiaaDoorQ45
namespace Go.Proofs.QW
open Go.RowKit Go.Proofs.KL Go.Proofs.QM
set_option maxRecDepth 100000
set_option linter.unusedSimpArgs false
set_option linter.unusedVariables false

theorem ActsX.vmax {w : World} {X : Nat → Prop} {v : Value} {acts : List ActR} (h : ActsX w X v acts) : ∀ a ∈ acts, a.v ≤ 9223372036854775807 := fun a ham => by
  obtain ⟨A, c, _, _, hx⟩ := h
  obtain ⟨i, hi, rfl⟩ := List.mem_iff_getElem.1 ham
  obtain ⟨_, _, _, _, _, _, _, _, h⟩ := hx i hi
  rwa [List.getD_eq_getElem?_getD, List.getElem?_eq_getElem hi] at h
theorem EngAt.lts {w : World} {X : Nat → Prop} {eb ib mb : Nat} {E : Env} {ans : List (Option KeptR)} (h : EngAt w X eb ib mb E ans) : eb < w.heap.size ∧ ib < w.heap.size ∧ mb < w.heap.size := by
  obtain ⟨⟨rv, c, hb, _⟩, ⟨cs, hib, _⟩, ⟨es, cl, hmb, _⟩, _, _, _⟩ := h
  exact ⟨blk_lt hb, blk_lt hib, blk_lt hmb⟩
set_option maxHeartbeats 40000000 in
/-- QUERYANEW. -/
theorem QueryAnew_any (rs : List QRule) (acts : List ActR) (q : Int) (w : World) (X Y : Nat → Prop) (rv av : Value) (hr : RulesX w X rv rs) (ha : ActsX w Y av acts) (ht : Tab w) :
    Calls Tryd.prog 4 #[rv, av, .int .i64 q] w fun e w' => e = .returned (.bool true) ∧ Keeps Nob w w' := by
  have HC := Lib.hid (cut_any rs w X rv hr)
  have HT := Lib.hid ht
  have HT0 := Lib.hid (show 0 < w.heap.size from World.block_lt_of_cell? _ _ (ht 1 (by omega) (by omega)).1)
  have HA := Lib.hid ha
  have Hvm := Lib.hid ha.vmax
  obtain ⟨rA, rc, rfl, -, -⟩ := id hr
  obtain ⟨aA, ac, rfl, -, -⟩ := id ha
  have hpn : ∀ (n : Nat) (w : World), (binOp .eql 35 (.pointer (some ⟨n, 0, none⟩)) (.pointer none)).run Tryd.prog w = .ok (.bool false) w := fun _ _ => by kernel_rfl
  have hp0 : ∀ (w : World), (binOp .eql 35 (.pointer none) (.pointer none)).run Tryd.prog w = .ok (.bool true) w := fun _ => by kernel_rfl
  generalize cutM rs = own at *
  clear hr ha ht
  by_cases hc : (check own).2 = 0
  · have Hc := Lib.hid hc
    have hinv := playedTo_inv hc Hvm.out 60 (by decide)
    obtain ⟨E, ans, hS⟩ : ∃ E ans, playedF own acts = (E, ans) := ⟨_, _, rfl⟩
    have HS := Lib.hid hS
    rw [show playedTo own acts 60 = (E, ans) from hS] at hinv
    have Hinv := Lib.hid hinv
    obtain ⟨h200, -⟩ := check_ok hc
    have hEr : E.rules = own := hinv.rules
    have HEr := Lib.hid hEr
    clear hc hS hinv hEr
    by_cases hq0 : q < 0
    · go_enter Tryd.func4, Tryd.ntmps4
      go_wp2_with (first
        | (go_at_call 10; go_must (refine HC.out.mono ?_; rintro e w1 ⟨ov, rfl, hk1, hr1⟩; obtain ⟨oA, oc, rfl, _, _⟩ := id hr1)
           have HK1 := Lib.hid hk1
           have Hr1 := Lib.hid hr1
           have Ha1 := Lib.hid (HA.out.keep (X' := Y) hk1 (fun _ _ _ => id) (fun _ _ h => h))
           clear hk1 hr1
           (try simp only [Act.put, List.setIfInBounds_toArray, List.set_cons_zero, List.set_cons_succ]))
        | (go_at_call 16; go_must (refine (played_any own acts w1 _ _ _ _ Hr1.out Ha1.out (fun _ => HT.out.keep HK1.out id)).mono ?_; rintro e w2 ⟨hk2, -, hx2⟩; obtain ⟨eb, ib, mb, Xe, rfl, he2, hxe2, be1, be2, be3⟩ := hx2 Hc.out)
           have HK2 := Lib.hid (HK1.out.trans hk2 (fun _ _ h => h))
           have Hr2 := Lib.hid (Hr1.out.keep (X' := fun k => w.heap.size ≤ k ∧ k < w1.heap.size) hk2 (fun _ _ _ => id) (fun _ _ h => h))
           rw [HS.out] at he2
           have He2 := Lib.hid he2
           have Hbe := Lib.hid (show (w1.heap.size ≤ eb ∧ w1.heap.size ≤ ib ∧ w1.heap.size ≤ mb) ∧ (∀ k, Xe k → w1.heap.size ≤ k ∧ k < w2.heap.size) from ⟨⟨be1, be2, be3⟩, hxe2⟩)
           clear hk2 hx2 he2 hxe2 be1 be2 be3
           (try simp only [Act.put, List.setIfInBounds_toArray, List.set_cons_zero, List.set_cons_succ]))
        | (go_at_call 14; go_must (refine (alive_any w2 (HT.out.keep HK2.out id)).mono ?_; rintro e w9 ⟨rfl, hk9⟩); (try simp only [Act.put, List.setIfInBounds_toArray, List.set_cons_zero, List.set_cons_succ]))
      )
      go_ret
      exact ⟨rfl, HK2.out.trans hk9 (fun _ _ h => h)⟩
    · by_cases hq1 : (own.length : Int) ≤ q
      · go_enter Tryd.func4, Tryd.ntmps4
        go_wp2_with (first
          | (go_at_call 10; go_must (refine HC.out.mono ?_; rintro e w1 ⟨ov, rfl, hk1, hr1⟩; obtain ⟨oA, oc, rfl, _, _⟩ := id hr1)
             have HK1 := Lib.hid hk1
             have Hr1 := Lib.hid hr1
             have Ha1 := Lib.hid (HA.out.keep (X' := Y) hk1 (fun _ _ _ => id) (fun _ _ h => h))
             clear hk1 hr1
             (try simp only [Act.put, List.setIfInBounds_toArray, List.set_cons_zero, List.set_cons_succ]))
          | (go_at_call 16; go_must (refine (played_any own acts w1 _ _ _ _ Hr1.out Ha1.out (fun _ => HT.out.keep HK1.out id)).mono ?_; rintro e w2 ⟨hk2, -, hx2⟩; obtain ⟨eb, ib, mb, Xe, rfl, he2, hxe2, be1, be2, be3⟩ := hx2 Hc.out)
             have HK2 := Lib.hid (HK1.out.trans hk2 (fun _ _ h => h))
             have Hr2 := Lib.hid (Hr1.out.keep (X' := fun k => w.heap.size ≤ k ∧ k < w1.heap.size) hk2 (fun _ _ _ => id) (fun _ _ h => h))
             rw [HS.out] at he2
             have He2 := Lib.hid he2
             have Hbe := Lib.hid (show (w1.heap.size ≤ eb ∧ w1.heap.size ≤ ib ∧ w1.heap.size ≤ mb) ∧ (∀ k, Xe k → w1.heap.size ≤ k ∧ k < w2.heap.size) from ⟨⟨be1, be2, be3⟩, hxe2⟩)
             clear hk2 hx2 he2 hxe2 be1 be2 be3
             (try simp only [Act.put, List.setIfInBounds_toArray, List.set_cons_zero, List.set_cons_succ]))
          | (go_at_call 14; go_must (refine (alive_any w2 (HT.out.keep HK2.out id)).mono ?_; rintro e w9 ⟨rfl, hk9⟩); (try simp only [Act.put, List.setIfInBounds_toArray, List.set_cons_zero, List.set_cons_succ]))
        )
        go_ret
        exact ⟨rfl, HK2.out.trans hk9 (fun _ _ h => h)⟩
      · have hlb := Hinv.out.values
        have hanew := anew_same Hinv.out Hc.out (q := q) (by omega) (by omega)
        obtain ⟨l, hl⟩ : ∃ l, inputsF E = l := ⟨_, rfl⟩
        simp only at hlb hanew
        rw [hl] at hlb hanew
        have hvok : valuesOk own l = true := by unfold valuesOk; rw [hlb.1, decide_eq_true hlb.2]; rfl
        obtain ⟨P, hpf⟩ : ∃ P, plainF own l q = P := ⟨_, rfl⟩
        rw [hpf] at hanew
        obtain ⟨p1, p2⟩ := P
        obtain ⟨R, hR⟩ : ∃ R, askR E ans q 1073741824 = R := ⟨_, rfl⟩
        have hRve : R.v = p1 ∧ R.e = p2 := by
          rw [← hR]
          unfold askR
          rw [if_neg (by unfold isErr; rw [if_neg (by rw [HEr.out]; omega)]; decide), if_neg (by decide)]
          simp only [hanew]
          exact ⟨trivial, trivial⟩
        obtain ⟨Ra, Rw, Rv, Re⟩ := R
        simp only at hRve
        obtain ⟨rfl, rfl⟩ := hRve
        obtain ⟨ra, hra⟩ : ∃ a, refA own l q = a := ⟨_, rfl⟩
        obtain ⟨an, acost, ae⟩ := ra
        have Hq := Lib.hid (show InQ (envP own l own.length) q from ⟨by omega, by show q < own.length; omega⟩)
        have Hl := Lib.hid hl
        have Hlb := Lib.hid hlb
        have Hvok := Lib.hid hvok
        have Hpf := Lib.hid hpf
        have HR := Lib.hid hR
        have Hra := Lib.hid hra
        clear hl hlb hvok hpf hR hra hanew
        by_cases hcost : (3000 : Int) < acost
        · go_enter Tryd.func4, Tryd.ntmps4
          go_wp2_with (first
            | (go_at_call 10; go_must (refine HC.out.mono ?_; rintro e w1 ⟨ov, rfl, hk1, hr1⟩; obtain ⟨oA, oc, rfl, _, _⟩ := id hr1)
               have HK1 := Lib.hid hk1
               have Hr1 := Lib.hid hr1
               have Ha1 := Lib.hid (HA.out.keep (X' := Y) hk1 (fun _ _ _ => id) (fun _ _ h => h))
               clear hk1 hr1
               (try simp only [Act.put, List.setIfInBounds_toArray, List.set_cons_zero, List.set_cons_succ]))
            | (go_at_call 16; go_must (refine (played_any own acts w1 _ _ _ _ Hr1.out Ha1.out (fun _ => HT.out.keep HK1.out id)).mono ?_; rintro e w2 ⟨hk2, -, hx2⟩; obtain ⟨eb, ib, mb, Xe, rfl, he2, hxe2, be1, be2, be3⟩ := hx2 Hc.out)
               have HK2 := Lib.hid (HK1.out.trans hk2 (fun _ _ h => h))
               have Hr2 := Lib.hid (Hr1.out.keep (X' := fun k => w.heap.size ≤ k ∧ k < w1.heap.size) hk2 (fun _ _ _ => id) (fun _ _ h => h))
               rw [HS.out] at he2
               have He2 := Lib.hid he2
               have Hbe := Lib.hid (show (w1.heap.size ≤ eb ∧ w1.heap.size ≤ ib ∧ w1.heap.size ≤ mb) ∧ (∀ k, Xe k → w1.heap.size ≤ k ∧ k < w2.heap.size) from ⟨⟨be1, be2, be3⟩, hxe2⟩)
               clear hk2 hx2 he2 hxe2 be1 be2 be3
               (try simp only [Act.put, List.setIfInBounds_toArray, List.set_cons_zero, List.set_cons_succ]))
            | (go_at_call 17
               have hin := inputs_any E ans w2 Xe (fun k => w.heap.size ≤ k ∧ k < w1.heap.size) eb ib mb (.slice oA own.length oc) He2.out (by rw [HEr.out]; exact Hr2.out) (by rw [HEr.out]; exact h200)
               rw [Hl.out] at hin
               go_must (refine hin.mono ?_; rintro e w3 ⟨lv, rfl, hk3, hl3⟩; obtain ⟨lA, lc, rfl, -, -⟩ := id hl3)
               have HK3 := Lib.hid (HK2.out.trans hk3 (fun _ _ h => h))
               have Hr3 := Lib.hid (Hr2.out.keep (X' := fun k => w.heap.size ≤ k ∧ k < w1.heap.size) hk3 (fun _ _ _ => id) (fun _ _ h => h))
               have He3 := Lib.hid (He2.out.after hk3)
               have Hv3 := Lib.hid hl3
               have Hz3 := Lib.hid hk3.size
               clear hk3 hl3 hin
               (try simp only [Act.put, List.setIfInBounds_toArray, List.set_cons_zero, List.set_cons_succ]))
            | (go_at_call 12
               have hva := Values_any own l w3 _ _ _ _ Hr3.out Hv3.out h200
               rw [Hvok.out] at hva
               go_must (refine hva.mono ?_; rintro e w3' ⟨rfl, hw5⟩; obtain rfl := hw5.symm)
               clear hva
               (try simp only [Act.put, List.setIfInBounds_toArray, List.set_cons_zero, List.set_cons_succ]))
            | (go_at_call 13; go_must (refine (RefPlain_any (plain_env Hc.out Hlb.out.2 Hlb.out.1) w3 _ _ _ _ q Hr3.out Hv3.out Hq.out Hra.out).mono ?_; rintro e w4 ⟨rfl, hk4⟩)
               have HK4 := Lib.hid (HK3.out.trans hk4 (fun _ _ h => h))
               have Hr4 := Lib.hid (Hr3.out.keep (X' := fun k => w.heap.size ≤ k ∧ k < w1.heap.size) hk4 (fun _ _ _ => id) (fun _ _ h => h))
               have He4 := Lib.hid (He3.out.after hk4)
               have Hv4 := Lib.hid (Hv3.out.keep (X' := fun k => w2.heap.size ≤ k ∧ k < w3.heap.size) hk4 (fun _ _ _ => id) (fun _ _ h => h))
               have Hz4 := Lib.hid hk4.size
               clear hk4
               (try simp only [Act.put, List.setIfInBounds_toArray, List.set_cons_zero, List.set_cons_succ]))
            | (go_at_call 14; go_must (refine (alive_any w4 (HT.out.keep HK4.out id)).mono ?_; rintro e w9 ⟨rfl, hk9⟩); (try simp only [Act.put, List.setIfInBounds_toArray, List.set_cons_zero, List.set_cons_succ]))
          )
          go_ret
          exact ⟨rfl, HK4.out.trans hk9 (fun _ _ h => h)⟩
        · go_enter Tryd.func4, Tryd.ntmps4
          go_wp2_with (first
            | (go_at_call 10; go_must (refine HC.out.mono ?_; rintro e w1 ⟨ov, rfl, hk1, hr1⟩; obtain ⟨oA, oc, rfl, _, _⟩ := id hr1)
               have HK1 := Lib.hid hk1
               have Hr1 := Lib.hid hr1
               have Ha1 := Lib.hid (HA.out.keep (X' := Y) hk1 (fun _ _ _ => id) (fun _ _ h => h))
               clear hk1 hr1
               (try simp only [Act.put, List.setIfInBounds_toArray, List.set_cons_zero, List.set_cons_succ]))
            | (go_at_call 16; go_must (refine (played_any own acts w1 _ _ _ _ Hr1.out Ha1.out (fun _ => HT.out.keep HK1.out id)).mono ?_; rintro e w2 ⟨hk2, -, hx2⟩; obtain ⟨eb, ib, mb, Xe, rfl, he2, hxe2, be1, be2, be3⟩ := hx2 Hc.out)
               have HK2 := Lib.hid (HK1.out.trans hk2 (fun _ _ h => h))
               have Hr2 := Lib.hid (Hr1.out.keep (X' := fun k => w.heap.size ≤ k ∧ k < w1.heap.size) hk2 (fun _ _ _ => id) (fun _ _ h => h))
               rw [HS.out] at he2
               have He2 := Lib.hid he2
               have Hbe := Lib.hid (show (w1.heap.size ≤ eb ∧ w1.heap.size ≤ ib ∧ w1.heap.size ≤ mb) ∧ (∀ k, Xe k → w1.heap.size ≤ k ∧ k < w2.heap.size) from ⟨⟨be1, be2, be3⟩, hxe2⟩)
               clear hk2 hx2 he2 hxe2 be1 be2 be3
               (try simp only [Act.put, List.setIfInBounds_toArray, List.set_cons_zero, List.set_cons_succ]))
            | (go_at_call 17
               have hin := inputs_any E ans w2 Xe (fun k => w.heap.size ≤ k ∧ k < w1.heap.size) eb ib mb (.slice oA own.length oc) He2.out (by rw [HEr.out]; exact Hr2.out) (by rw [HEr.out]; exact h200)
               rw [Hl.out] at hin
               go_must (refine hin.mono ?_; rintro e w3 ⟨lv, rfl, hk3, hl3⟩; obtain ⟨lA, lc, rfl, -, -⟩ := id hl3)
               have HK3 := Lib.hid (HK2.out.trans hk3 (fun _ _ h => h))
               have Hr3 := Lib.hid (Hr2.out.keep (X' := fun k => w.heap.size ≤ k ∧ k < w1.heap.size) hk3 (fun _ _ _ => id) (fun _ _ h => h))
               have He3 := Lib.hid (He2.out.after hk3)
               have Hv3 := Lib.hid hl3
               have Hz3 := Lib.hid hk3.size
               clear hk3 hl3 hin
               (try simp only [Act.put, List.setIfInBounds_toArray, List.set_cons_zero, List.set_cons_succ]))
            | (go_at_call 12
               have hva := Values_any own l w3 _ _ _ _ Hr3.out Hv3.out h200
               rw [Hvok.out] at hva
               go_must (refine hva.mono ?_; rintro e w3' ⟨rfl, hw5⟩; obtain rfl := hw5.symm)
               clear hva
               (try simp only [Act.put, List.setIfInBounds_toArray, List.set_cons_zero, List.set_cons_succ]))
            | (go_at_call 13; go_must (refine (RefPlain_any (plain_env Hc.out Hlb.out.2 Hlb.out.1) w3 _ _ _ _ q Hr3.out Hv3.out Hq.out Hra.out).mono ?_; rintro e w4 ⟨rfl, hk4⟩)
               have HK4 := Lib.hid (HK3.out.trans hk4 (fun _ _ h => h))
               have Hr4 := Lib.hid (Hr3.out.keep (X' := fun k => w.heap.size ≤ k ∧ k < w1.heap.size) hk4 (fun _ _ _ => id) (fun _ _ h => h))
               have He4 := Lib.hid (He3.out.after hk4)
               have Hv4 := Lib.hid (Hv3.out.keep (X' := fun k => w2.heap.size ≤ k ∧ k < w3.heap.size) hk4 (fun _ _ _ => id) (fun _ _ h => h))
               have Hz4 := Lib.hid hk4.size
               clear hk4
               (try simp only [Act.put, List.setIfInBounds_toArray, List.set_cons_zero, List.set_cons_succ]))
            | (go_at_call 18
               have hask := AskR_any Hinv.out w4 Xe eb ib mb q 1073741824 (by decide) He4.out (fun b hb => by have h1 := (Hbe.out.2 b hb).2; have h2 := Hz3.out; have h3 := Hz4.out; omega)
               rw [HR.out] at hask
               go_must (refine hask.mono ?_; rintro e w5 ⟨X5, wl5, rfl, -, -, hk5, -, hw5, -⟩; obtain ⟨wA, wc, rfl⟩ := own_slice hw5)
               have hmb : w1.heap.size ≤ mb ∧ mb < w2.heap.size := ⟨Hbe.out.1.2.2, He2.out.lts.2.2⟩
               have hz1 : w.heap.size ≤ w1.heap.size := HK1.out.size
               have HK5 := Lib.hid (HK4.out.trans hk5 (fun i hi e => by omega))
               have Hr5 := Lib.hid (Hr4.out.keep (X' := fun k => w.heap.size ≤ k ∧ k < w1.heap.size) hk5 (fun b _ hx e => by have h1 := hx.2; omega) (fun _ _ h => h))
               have Hv5 := Lib.hid (Hv4.out.keep (X' := fun k => w2.heap.size ≤ k ∧ k < w3.heap.size) hk5 (fun b _ hx e => by have h1 := hx.1; omega) (fun _ _ h => h))
               clear hask hk5 hw5 hmb hz1
               (try simp only [Act.put, List.setIfInBounds_toArray, List.set_cons_zero, List.set_cons_succ]))
            | (go_at_call 15
               have hpl := Plain_any own l q w5 _ _ _ _ Hr5.out Hv5.out (fun _ => HT.out.keep HK5.out id)
               rw [Hpf.out] at hpl
               go_must (refine hpl.mono ?_; rintro e w6 ⟨rfl, hk6⟩)
               have HK6 := Lib.hid (HK5.out.trans hk6 (fun _ _ h => h))
               clear hpl hk6
               (try simp only [Act.put, List.setIfInBounds_toArray, List.set_cons_zero, List.set_cons_succ]))
            | (go_at_call 14; go_must (refine (alive_any w6 (HT.out.keep HK6.out id)).mono ?_; rintro e w9 ⟨rfl, hk9⟩); (try simp only [Act.put, List.setIfInBounds_toArray, List.set_cons_zero, List.set_cons_succ]))
          )
          go_ret
          exact ⟨rfl, HK6.out.trans hk9 (fun _ _ h => h)⟩
  · have Hc := Lib.hid hc
    clear hc
    go_enter Tryd.func4, Tryd.ntmps4
    go_wp2_with (first
      | (go_at_call 10; go_must (refine HC.out.mono ?_; rintro e w1 ⟨ov, rfl, hk1, hr1⟩; obtain ⟨oA, oc, rfl, _, _⟩ := id hr1)
         have HK1 := Lib.hid hk1
         have Hr1 := Lib.hid hr1
         have Ha1 := Lib.hid (HA.out.keep (X' := Y) hk1 (fun _ _ _ => id) (fun _ _ h => h))
         clear hk1 hr1
         (try simp only [Act.put, List.setIfInBounds_toArray, List.set_cons_zero, List.set_cons_succ]))
      | (go_at_call 16; go_must (refine (played_any own acts w1 _ _ _ _ Hr1.out Ha1.out (fun _ => HT.out.keep HK1.out id)).mono ?_; rintro e w2 ⟨hk2, hx2, -⟩; obtain rfl := hx2 Hc.out)
         have HK2 := Lib.hid (HK1.out.trans hk2 (fun _ _ h => h))
         clear hk2 hx2
         (try simp only [Act.put, List.setIfInBounds_toArray, List.set_cons_zero, List.set_cons_succ]))
      | (go_at_call 14; go_must (refine (alive_any w2 (HT.out.keep HK2.out id)).mono ?_; rintro e w9 ⟨rfl, hk9⟩); (try simp only [Act.put, List.setIfInBounds_toArray, List.set_cons_zero, List.set_cons_succ]))
    )
    go_ret
    exact ⟨rfl, HK2.out.trans hk9 (fun _ _ h => h)⟩
end Go.Proofs.QW
