/-
  QueryAnew, in memory: the law returns true. Condition: rules and calls lie, and the table of kinds is as laid.
-/
import Derived.Test.YtohpkolkagddiaaDoorOnly4
import Derived.Test.YtohpkolkagddiaaDoorRows
import Derived.Lib.LaidTab
import Derived.Test.YtohpkolkagddiaaDoorCards
import Derived.Test.YtohpkolkagddiaaDoorTie
import Derived.WalkKit
import Derived.ProofKit
import Derived.OpenShut
import Derived.Deep.DeepHandedRow
import Derived.ChangeSlices
import Derived.ChangeArms
import Derived.Carry
namespace Go.Proofs.QW
open Go.RowKit Go.Proofs.KL Go.Proofs.QM
set_option maxRecDepth 100000
set_option linter.unusedSimpArgs false
set_option linter.unusedVariables false

theorem ActsX.vmax {w : World} {X : Nat → Prop} {v : Value} {acts : List ActR} (h : ActsX w X v acts) : ∀ a ∈ acts, a.v ≤ 9223372036854775807 := fun a ham => by
  obtain ⟨A, c, _, _, hx⟩ := h
  obtain ⟨i, hi, rfl⟩ := List.mem_iff_getElem.1 ham
  obtain ⟨_, _, _, _, _, _, _, _, h⟩ := hx i hi
  rwa [List.getD_eq_getElem?_getD, List.getElem?_eq_getElem hi] at h
theorem EngAt.lts {w : World} {X : Nat → Prop} {eb ib mb : Nat} {E : Env} {ans : List (Option KeptR)} (h : EngAt w X eb ib mb E ans) : eb < w.heap.size ∧ ib < w.heap.size ∧ mb < w.heap.size := by
  obtain ⟨⟨rv, c, hb, _⟩, ⟨cs, hib, _⟩, ⟨es, cl, hmb, _⟩, _, _, _⟩ := h
  exact ⟨blk_lt hb, blk_lt hib, blk_lt hmb⟩
set_option maxHeartbeats 40000000 in
/-- QUERYANEW. -/
theorem QueryAnew_any (rs : List QRule) (acts : List ActR) (q : Int) (w : World) (X Y : Nat → Prop) (rv av : Value) (hr : RulesX w X rv rs) (ha : ActsX w Y av acts) (ht : Tab w) :
    Calls Tryd.prog 4 #[rv, av, .int .i64 q] w fun e w' => e = .returned (.bool true) ∧ Keeps Nob w w' := by
  have HC := Lib.hid (cut_any rs w X rv hr)
  have HT := Lib.hid ht
  have HT0 := Lib.hid (show 0 < w.heap.size from World.block_lt_of_cell? _ _ (ht 1 (by omega) (by omega)).1)
  have HA := Lib.hid ha
  have Hvm := Lib.hid ha.vmax
  obtain ⟨rA, rc, rfl, -, -⟩ := id hr
  obtain ⟨aA, ac, rfl, -, -⟩ := id ha
  have hpn : ∀ (n : Nat) (w : World), (binOp .eql 35 (.pointer (some ⟨n, 0, none⟩)) (.pointer none)).run Tryd.prog w = .ok (.bool false) w := fun _ _ => by kernel_rfl
  have hp0 : ∀ (w : World), (binOp .eql 35 (.pointer none) (.pointer none)).run Tryd.prog w = .ok (.bool true) w := fun _ => by kernel_rfl
  generalize cutM rs = own at *
  clear hr ha ht
  by_cases hc : (check own).2 = 0
  · have Hc := Lib.hid hc
    have hinv := playedTo_inv hc Hvm.out 60 (by decide)
    obtain ⟨E, ans, hS⟩ : ∃ E ans, playedF own acts = (E, ans) := ⟨_, _, rfl⟩
    have HS := Lib.hid hS
    rw [show playedTo own acts 60 = (E, ans) from hS] at hinv
    have Hinv := Lib.hid hinv
    obtain ⟨h200, -⟩ := check_ok hc
    have hEr : E.rules = own := hinv.rules
    have HEr := Lib.hid hEr
    clear hc hS hinv hEr
    by_cases hq0 : q < 0
    · go_enter Tryd.func4, Tryd.ntmps4
      go_wp2_with (first
        | (go_at_call 10; go_must (refine HC.out.mono ?_; rintro e w1 ⟨ov, rfl, hk1, hr1⟩; obtain ⟨oA, oc, rfl, _, _⟩ := id hr1)
           have HK1 := Lib.hid hk1
           have Hr1 := Lib.hid hr1
           have Ha1 := Lib.hid (HA.out.keep (X' := Y) hk1 (fun _ _ _ => id) (fun _ _ h => h))
           clear hk1 hr1
           (try simp only [Act.put, List.setIfInBounds_toArray, List.set_cons_zero, List.set_cons_succ]))
        | (go_at_call 16; go_must (refine (played_any own acts w1 _ _ _ _ Hr1.out Ha1.out (fun _ => HT.out.keep HK1.out id)).mono ?_; rintro e w2 ⟨hk2, -, hx2⟩; obtain ⟨eb, ib, mb, Xe, rfl, he2, hxe2, be1, be2, be3⟩ := hx2 Hc.out)
           have HK2 := Lib.hid (HK1.out.trans hk2 (fun _ _ h => h))
           have Hr2 := Lib.hid (Hr1.out.keep (X' := fun k => w.heap.size ≤ k ∧ k < w1.heap.size) hk2 (fun _ _ _ => id) (fun _ _ h => h))
           rw [HS.out] at he2
           have He2 := Lib.hid he2
           have Hbe := Lib.hid (show (w1.heap.size ≤ eb ∧ w1.heap.size ≤ ib ∧ w1.heap.size ≤ mb) ∧ (∀ k, Xe k → w1.heap.size ≤ k ∧ k < w2.heap.size) from ⟨⟨be1, be2, be3⟩, hxe2⟩)
           clear hk2 hx2 he2 hxe2 be1 be2 be3
           (try simp only [Act.put, List.setIfInBounds_toArray, List.set_cons_zero, List.set_cons_succ]))
        | (go_at_call 14; go_must (refine (alive_any w2 (HT.out.keep HK2.out id)).mono ?_; rintro e w9 ⟨rfl, hk9⟩); (try simp only [Act.put, List.setIfInBounds_toArray, List.set_cons_zero, List.set_cons_succ]))
      )
      go_ret
      exact ⟨rfl, HK2.out.trans hk9 (fun _ _ h => h)⟩
    · by_cases hq1 : (own.length : Int) ≤ q
      · go_enter Tryd.func4, Tryd.ntmps4
        go_wp2_with (first
          | (go_at_call 10; go_must (refine HC.out.mono ?_; rintro e w1 ⟨ov, rfl, hk1, hr1⟩; obtain ⟨oA, oc, rfl, _, _⟩ := id hr1)
             have HK1 := Lib.hid hk1
             have Hr1 := Lib.hid hr1
             have Ha1 := Lib.hid (HA.out.keep (X' := Y) hk1 (fun _ _ _ => id) (fun _ _ h => h))
             clear hk1 hr1
             (try simp only [Act.put, List.setIfInBounds_toArray, List.set_cons_zero, List.set_cons_succ]))
          | (go_at_call 16; go_must (refine (played_any own acts w1 _ _ _ _ Hr1.out Ha1.out (fun _ => HT.out.keep HK1.out id)).mono ?_; rintro e w2 ⟨hk2, -, hx2⟩; obtain ⟨eb, ib, mb, Xe, rfl, he2, hxe2, be1, be2, be3⟩ := hx2 Hc.out)
             have HK2 := Lib.hid (HK1.out.trans hk2 (fun _ _ h => h))
             have Hr2 := Lib.hid (Hr1.out.keep (X' := fun k => w.heap.size ≤ k ∧ k < w1.heap.size) hk2 (fun _ _ _ => id) (fun _ _ h => h))
             rw [HS.out] at he2
             have He2 := Lib.hid he2
             have Hbe := Lib.hid (show (w1.heap.size ≤ eb ∧ w1.heap.size ≤ ib ∧ w1.heap.size ≤ mb) ∧ (∀ k, Xe k → w1.heap.size ≤ k ∧ k < w2.heap.size) from ⟨⟨be1, be2, be3⟩, hxe2⟩)
             clear hk2 hx2 he2 hxe2 be1 be2 be3
             (try simp only [Act.put, List.setIfInBounds_toArray, List.set_cons_zero, List.set_cons_succ]))
          | (go_at_call 14; go_must (refine (alive_any w2 (HT.out.keep HK2.out id)).mono ?_; rintro e w9 ⟨rfl, hk9⟩); (try simp only [Act.put, List.setIfInBounds_toArray, List.set_cons_zero, List.set_cons_succ]))
        )
        go_ret
        exact ⟨rfl, HK2.out.trans hk9 (fun _ _ h => h)⟩
      · have hlb := Hinv.out.values
        have hanew := anew_same Hinv.out Hc.out (q := q) (by omega) (by omega)
        obtain ⟨l, hl⟩ : ∃ l, inputsF E = l := ⟨_, rfl⟩
        simp only at hlb hanew
        rw [hl] at hlb hanew
        have hvok : valuesOk own l = true := by unfold valuesOk; rw [hlb.1, decide_eq_true hlb.2]; rfl
        obtain ⟨P, hpf⟩ : ∃ P, plainF own l q = P := ⟨_, rfl⟩
        rw [hpf] at hanew
        obtain ⟨p1, p2⟩ := P
        obtain ⟨R, hR⟩ : ∃ R, askR E ans q 1073741824 = R := ⟨_, rfl⟩
        have hRve : R.v = p1 ∧ R.e = p2 := by
          rw [← hR]
          unfold askR
          rw [if_neg (by unfold isErr; rw [if_neg (by rw [HEr.out]; omega)]; decide), if_neg (by decide)]
          simp only [hanew]
          exact ⟨trivial, trivial⟩
        obtain ⟨Ra, Rw, Rv, Re⟩ := R
        simp only at hRve
        obtain ⟨rfl, rfl⟩ := hRve
        obtain ⟨ra, hra⟩ : ∃ a, refA own l q = a := ⟨_, rfl⟩
        obtain ⟨an, acost, ae⟩ := ra
        have Hq := Lib.hid (show InQ (envP own l own.length) q from ⟨by omega, by show q < own.length; omega⟩)
        have Hl := Lib.hid hl
        have Hlb := Lib.hid hlb
        have Hvok := Lib.hid hvok
        have Hpf := Lib.hid hpf
        have HR := Lib.hid hR
        have Hra := Lib.hid hra
        clear hl hlb hvok hpf hR hra hanew
        by_cases hcost : (3000 : Int) < acost
        · go_enter Tryd.func4, Tryd.ntmps4
          go_wp2_with (first
            | (go_at_call 10; go_must (refine HC.out.mono ?_; rintro e w1 ⟨ov, rfl, hk1, hr1⟩; obtain ⟨oA, oc, rfl, _, _⟩ := id hr1)
               have HK1 := Lib.hid hk1
               have Hr1 := Lib.hid hr1
               have Ha1 := Lib.hid (HA.out.keep (X' := Y) hk1 (fun _ _ _ => id) (fun _ _ h => h))
               clear hk1 hr1
               (try simp only [Act.put, List.setIfInBounds_toArray, List.set_cons_zero, List.set_cons_succ]))
            | (go_at_call 16; go_must (refine (played_any own acts w1 _ _ _ _ Hr1.out Ha1.out (fun _ => HT.out.keep HK1.out id)).mono ?_; rintro e w2 ⟨hk2, -, hx2⟩; obtain ⟨eb, ib, mb, Xe, rfl, he2, hxe2, be1, be2, be3⟩ := hx2 Hc.out)
               have HK2 := Lib.hid (HK1.out.trans hk2 (fun _ _ h => h))
               have Hr2 := Lib.hid (Hr1.out.keep (X' := fun k => w.heap.size ≤ k ∧ k < w1.heap.size) hk2 (fun _ _ _ => id) (fun _ _ h => h))
               rw [HS.out] at he2
               have He2 := Lib.hid he2
               have Hbe := Lib.hid (show (w1.heap.size ≤ eb ∧ w1.heap.size ≤ ib ∧ w1.heap.size ≤ mb) ∧ (∀ k, Xe k → w1.heap.size ≤ k ∧ k < w2.heap.size) from ⟨⟨be1, be2, be3⟩, hxe2⟩)
               clear hk2 hx2 he2 hxe2 be1 be2 be3
               (try simp only [Act.put, List.setIfInBounds_toArray, List.set_cons_zero, List.set_cons_succ]))
            | (go_at_call 17
               have hin := inputs_any E ans w2 Xe (fun k => w.heap.size ≤ k ∧ k < w1.heap.size) eb ib mb (.slice oA own.length oc) He2.out (by rw [HEr.out]; exact Hr2.out) (by rw [HEr.out]; exact h200)
               rw [Hl.out] at hin
               go_must (refine hin.mono ?_; rintro e w3 ⟨lv, rfl, hk3, hl3⟩; obtain ⟨lA, lc, rfl, -, -⟩ := id hl3)
               have HK3 := Lib.hid (HK2.out.trans hk3 (fun _ _ h => h))
               have Hr3 := Lib.hid (Hr2.out.keep (X' := fun k => w.heap.size ≤ k ∧ k < w1.heap.size) hk3 (fun _ _ _ => id) (fun _ _ h => h))
               have He3 := Lib.hid (He2.out.after hk3)
               have Hv3 := Lib.hid hl3
               have Hz3 := Lib.hid hk3.size
               clear hk3 hl3 hin
               (try simp only [Act.put, List.setIfInBounds_toArray, List.set_cons_zero, List.set_cons_succ]))
            | (go_at_call 12
               have hva := Values_any own l w3 _ _ _ _ Hr3.out Hv3.out h200
               rw [Hvok.out] at hva
               go_must (refine hva.mono ?_; rintro e w3' ⟨rfl, hw5⟩; obtain rfl := hw5.symm)
               clear hva
               (try simp only [Act.put, List.setIfInBounds_toArray, List.set_cons_zero, List.set_cons_succ]))
            | (go_at_call 13; go_must (refine (RefPlain_any (plain_env Hc.out Hlb.out.2 Hlb.out.1) w3 _ _ _ _ q Hr3.out Hv3.out Hq.out Hra.out).mono ?_; rintro e w4 ⟨rfl, hk4⟩)
               have HK4 := Lib.hid (HK3.out.trans hk4 (fun _ _ h => h))
               have Hr4 := Lib.hid (Hr3.out.keep (X' := fun k => w.heap.size ≤ k ∧ k < w1.heap.size) hk4 (fun _ _ _ => id) (fun _ _ h => h))
               have He4 := Lib.hid (He3.out.after hk4)
               have Hv4 := Lib.hid (Hv3.out.keep (X' := fun k => w2.heap.size ≤ k ∧ k < w3.heap.size) hk4 (fun _ _ _ => id) (fun _ _ h => h))
               have Hz4 := Lib.hid hk4.size
               clear hk4
               (try simp only [Act.put, List.setIfInBounds_toArray, List.set_cons_zero, List.set_cons_succ]))
            | (go_at_call 14; go_must (refine (alive_any w4 (HT.out.keep HK4.out id)).mono ?_; rintro e w9 ⟨rfl, hk9⟩); (try simp only [Act.put, List.setIfInBounds_toArray, List.set_cons_zero, List.set_cons_succ]))
          )
          go_ret
          exact ⟨rfl, HK4.out.trans hk9 (fun _ _ h => h)⟩
        · go_enter Tryd.func4, Tryd.ntmps4
          go_wp2_with (first
            | (go_at_call 10; go_must (refine HC.out.mono ?_; rintro e w1 ⟨ov, rfl, hk1, hr1⟩; obtain ⟨oA, oc, rfl, _, _⟩ := id hr1)
               have HK1 := Lib.hid hk1
               have Hr1 := Lib.hid hr1
               have Ha1 := Lib.hid (HA.out.keep (X' := Y) hk1 (fun _ _ _ => id) (fun _ _ h => h))
               clear hk1 hr1
               (try simp only [Act.put, List.setIfInBounds_toArray, List.set_cons_zero, List.set_cons_succ]))
            | (go_at_call 16; go_must (refine (played_any own acts w1 _ _ _ _ Hr1.out Ha1.out (fun _ => HT.out.keep HK1.out id)).mono ?_; rintro e w2 ⟨hk2, -, hx2⟩; obtain ⟨eb, ib, mb, Xe, rfl, he2, hxe2, be1, be2, be3⟩ := hx2 Hc.out)
               have HK2 := Lib.hid (HK1.out.trans hk2 (fun _ _ h => h))
               have Hr2 := Lib.hid (Hr1.out.keep (X' := fun k => w.heap.size ≤ k ∧ k < w1.heap.size) hk2 (fun _ _ _ => id) (fun _ _ h => h))
               rw [HS.out] at he2
               have He2 := Lib.hid he2
               have Hbe := Lib.hid (show (w1.heap.size ≤ eb ∧ w1.heap.size ≤ ib ∧ w1.heap.size ≤ mb) ∧ (∀ k, Xe k → w1.heap.size ≤ k ∧ k < w2.heap.size) from ⟨⟨be1, be2, be3⟩, hxe2⟩)
               clear hk2 hx2 he2 hxe2 be1 be2 be3
               (try simp only [Act.put, List.setIfInBounds_toArray, List.set_cons_zero, List.set_cons_succ]))
            | (go_at_call 17
               have hin := inputs_any E ans w2 Xe (fun k => w.heap.size ≤ k ∧ k < w1.heap.size) eb ib mb (.slice oA own.length oc) He2.out (by rw [HEr.out]; exact Hr2.out) (by rw [HEr.out]; exact h200)
               rw [Hl.out] at hin
               go_must (refine hin.mono ?_; rintro e w3 ⟨lv, rfl, hk3, hl3⟩; obtain ⟨lA, lc, rfl, -, -⟩ := id hl3)
               have HK3 := Lib.hid (HK2.out.trans hk3 (fun _ _ h => h))
               have Hr3 := Lib.hid (Hr2.out.keep (X' := fun k => w.heap.size ≤ k ∧ k < w1.heap.size) hk3 (fun _ _ _ => id) (fun _ _ h => h))
               have He3 := Lib.hid (He2.out.after hk3)
               have Hv3 := Lib.hid hl3
               have Hz3 := Lib.hid hk3.size
               clear hk3 hl3 hin
               (try simp only [Act.put, List.setIfInBounds_toArray, List.set_cons_zero, List.set_cons_succ]))
            | (go_at_call 12
               have hva := Values_any own l w3 _ _ _ _ Hr3.out Hv3.out h200
               rw [Hvok.out] at hva
               go_must (refine hva.mono ?_; rintro e w3' ⟨rfl, hw5⟩; obtain rfl := hw5.symm)
               clear hva
               (try simp only [Act.put, List.setIfInBounds_toArray, List.set_cons_zero, List.set_cons_succ]))
            | (go_at_call 13; go_must (refine (RefPlain_any (plain_env Hc.out Hlb.out.2 Hlb.out.1) w3 _ _ _ _ q Hr3.out Hv3.out Hq.out Hra.out).mono ?_; rintro e w4 ⟨rfl, hk4⟩)
               have HK4 := Lib.hid (HK3.out.trans hk4 (fun _ _ h => h))
               have Hr4 := Lib.hid (Hr3.out.keep (X' := fun k => w.heap.size ≤ k ∧ k < w1.heap.size) hk4 (fun _ _ _ => id) (fun _ _ h => h))
               have He4 := Lib.hid (He3.out.after hk4)
               have Hv4 := Lib.hid (Hv3.out.keep (X' := fun k => w2.heap.size ≤ k ∧ k < w3.heap.size) hk4 (fun _ _ _ => id) (fun _ _ h => h))
               have Hz4 := Lib.hid hk4.size
               clear hk4
               (try simp only [Act.put, List.setIfInBounds_toArray, List.set_cons_zero, List.set_cons_succ]))
            | (go_at_call 18
               have hask := AskR_any Hinv.out w4 Xe eb ib mb q 1073741824 (by decide) He4.out (fun b hb => by have h1 := (Hbe.out.2 b hb).2; have h2 := Hz3.out; have h3 := Hz4.out; omega)
               rw [HR.out] at hask
               go_must (refine hask.mono ?_; rintro e w5 ⟨X5, wl5, rfl, -, -, hk5, -, hw5, -⟩; obtain ⟨wA, wc, rfl⟩ := own_slice hw5)
               have hmb : w1.heap.size ≤ mb ∧ mb < w2.heap.size := ⟨Hbe.out.1.2.2, He2.out.lts.2.2⟩
               have hz1 : w.heap.size ≤ w1.heap.size := HK1.out.size
               have HK5 := Lib.hid (HK4.out.trans hk5 (fun i hi e => by omega))
               have Hr5 := Lib.hid (Hr4.out.keep (X' := fun k => w.heap.size ≤ k ∧ k < w1.heap.size) hk5 (fun b _ hx e => by have h1 := hx.2; omega) (fun _ _ h => h))
               have Hv5 := Lib.hid (Hv4.out.keep (X' := fun k => w2.heap.size ≤ k ∧ k < w3.heap.size) hk5 (fun b _ hx e => by have h1 := hx.1; omega) (fun _ _ h => h))
               clear hask hk5 hw5 hmb hz1
               (try simp only [Act.put, List.setIfInBounds_toArray, List.set_cons_zero, List.set_cons_succ]))
            | (go_at_call 15
               have hpl := Plain_any own l q w5 _ _ _ _ Hr5.out Hv5.out (fun _ => HT.out.keep HK5.out id)
               rw [Hpf.out] at hpl
               go_must (refine hpl.mono ?_; rintro e w6 ⟨rfl, hk6⟩)
               have HK6 := Lib.hid (HK5.out.trans hk6 (fun _ _ h => h))
               clear hpl hk6
               (try simp only [Act.put, List.setIfInBounds_toArray, List.set_cons_zero, List.set_cons_succ]))
            | (go_at_call 14; go_must (refine (alive_any w6 (HT.out.keep HK6.out id)).mono ?_; rintro e w9 ⟨rfl, hk9⟩); (try simp only [Act.put, List.setIfInBounds_toArray, List.set_cons_zero, List.set_cons_succ]))
          )
          go_ret
          exact ⟨rfl, HK6.out.trans hk9 (fun _ _ h => h)⟩
  · have Hc := Lib.hid hc
    clear hc
    go_enter Tryd.func4, Tryd.ntmps4
    go_wp2_with (first
      | (go_at_call 10; go_must (refine HC.out.mono ?_; rintro e w1 ⟨ov, rfl, hk1, hr1⟩; obtain ⟨oA, oc, rfl, _, _⟩ := id hr1)
         have HK1 := Lib.hid hk1
         have Hr1 := Lib.hid hr1
         have Ha1 := Lib.hid (HA.out.keep (X' := Y) hk1 (fun _ _ _ => id) (fun _ _ h => h))
         clear hk1 hr1
         (try simp only [Act.put, List.setIfInBounds_toArray, List.set_cons_zero, List.set_cons_succ]))
      | (go_at_call 16; go_must (refine (played_any own acts w1 _ _ _ _ Hr1.out Ha1.out (fun _ => HT.out.keep HK1.out id)).mono ?_; rintro e w2 ⟨hk2, hx2, -⟩; obtain rfl := hx2 Hc.out)
         have HK2 := Lib.hid (HK1.out.trans hk2 (fun _ _ h => h))
         clear hk2 hx2
         (try simp only [Act.put, List.setIfInBounds_toArray, List.set_cons_zero, List.set_cons_succ]))
      | (go_at_call 14; go_must (refine (alive_any w2 (HT.out.keep HK2.out id)).mono ?_; rintro e w9 ⟨rfl, hk9⟩); (try simp only [Act.put, List.setIfInBounds_toArray, List.set_cons_zero, List.set_cons_succ]))
    )
    go_ret
    exact ⟨rfl, HK2.out.trans hk9 (fun _ _ h => h)⟩
end Go.Proofs.QW

/-
  QueryTwice, in memory: the law returns true. Condition: rules and calls lie, and the table of kinds is as laid.
-/
namespace Go.Proofs.QW
open Go.RowKit Go.Proofs.KL Go.Proofs.QM
set_option maxRecDepth 100000
set_option linter.unusedSimpArgs false
set_option linter.unusedVariables false

/-- What an Ask without an error leaves of its question. -/
theorem askR_cur {rs : List QRule} {n : Int} {E : Env} {ans : List (Option KeptR)} (h : SInv rs n (E, ans)) {q m : Int} (h1 : m ≤ 9223372036854775807) (he : (askR E ans q m).e = 0) :
    InQ E q ∧ 0 ≤ m ∧ ∃ ch, Cur E ⟨askS E ans q m, []⟩ q (askR E ans q m).v ch := by
  unfold askR at he ⊢
  unfold askS
  by_cases hq : isErr E.rules.length q ≠ 0
  · rw [if_pos hq] at he; exact absurd (show (5 : Int) = 0 from he) (by decide)
  · rw [if_neg hq] at he ⊢
    by_cases hm : m < 0
    · rw [if_pos hm] at he; exact absurd (show (2 : Int) = 0 from he) (by decide)
    · rw [if_neg hm] at he ⊢
      have hin : InQ E q := isErr_in hq
      have h0 : 0 ≤ m := by omega
      refine ⟨hin, h0, ?_⟩
      rw [if_neg (by simp only [not_or]; exact ⟨hq, hm⟩)]
      obtain ⟨hist, hh⟩ := h.his
      obtain ⟨_, _, h3, h4⟩ := askF_h (h.env h0 h1) (hist := hist) (E.rules.length + 1) [] (by simp [Env.bound]) ⟨ans, []⟩ q (h.pinv h0) (HInv.bound hh rfl) hin (fun p hp => by cases hp)
      rcases ha : askF (Env.bound E m) (E.rules.length + 1) [] ⟨ans, []⟩ q with ⟨s1, r1⟩
      rw [ha] at h3 h4 he
      cases r1 with
      | error e =>
        have he : e = 0 := he
        rcases h4 e rfl with h | ⟨h, _⟩ <;> omega
      | ok x =>
        obtain ⟨v, ch⟩ := x
        exact ⟨ch, (h3 v ch rfl).2⟩
theorem askR_nodup {rs : List QRule} {n : Int} {E : Env} {ans : List (Option KeptR)} (h : SInv rs n (E, ans)) {q m : Int} (h1 : m ≤ 9223372036854775807) : (askR E ans q m).worked.Nodup := by
  unfold askR
  split
  · exact List.nodup_nil
  split
  · exact List.nodup_nil
  · rename_i hq hm
    have h0 : 0 ≤ m := by omega
    exact (askF_good (h.env h0 h1) (E.rules.length + 1) [] ⟨ans, []⟩ q (h.pinv h0) (isErr_in hq)).1.inv.dnd
theorem askR_twice {rs : List QRule} {n : Int} {E : Env} {ans : List (Option KeptR)} (h : SInv rs n (E, ans)) {q m : Int} (h1 : m ≤ 9223372036854775807) (he : (askR E ans q m).e = 0) :
    (askR E (askS E ans q m) q m).worked = [] ∧ (askR E (askS E ans q m) q m).v = (askR E ans q m).v ∧ (askR E (askS E ans q m) q m).e = 0 := by
  obtain ⟨hin, h0, ch, hc⟩ := askR_cur h h1 he
  generalize askS E ans q m = ans' at *
  generalize (askR E ans q m).v = v at *
  unfold askR
  rw [if_neg (by unfold isErr; rw [if_neg (by have := hin.1; have := hin.2; omega)]; decide), if_neg (by omega)]
  have key : (askF (Env.bound E m) (E.rules.length + 1) [] ⟨ans', []⟩ q) = (⟨ans', []⟩, .ok (v, ch)) := by
    unfold askF
    rcases hc with ⟨hk, hv, hch⟩ | ⟨hk, k, hg, hck, hv, hch⟩
    · rw [if_pos (show ((Env.bound E m).rule q).kind = 1 from hk), hv, hch]; rfl
    · rw [if_neg (show ¬ ((Env.bound E m).rule q).kind = 1 from hk), if_neg (by simp)]
      simp only [hg]
      rw [if_pos (show k.checked = (Env.bound E m).rev from hck), hv, hch]
  rw [key]
  exact ⟨rfl, rfl, rfl⟩
set_option maxHeartbeats 40000000 in
/-- QUERYTWICE. -/
theorem QueryTwice_any (rs : List QRule) (acts : List ActR) (q : Int) (w : World) (X Y : Nat → Prop) (rv av : Value) (hr : RulesX w X rv rs) (ha : ActsX w Y av acts) (ht : Tab w) :
    Calls Tryd.prog 5 #[rv, av, .int .i64 q] w fun e w' => e = .returned (.bool true) ∧ Keeps Nob w w' := by
  have HC := Lib.hid (cut_any rs w X rv hr)
  have HT := Lib.hid ht
  have HT0 := Lib.hid (show 0 < w.heap.size from World.block_lt_of_cell? _ _ (ht 1 (by omega) (by omega)).1)
  have HA := Lib.hid ha
  have Hvm := Lib.hid ha.vmax
  obtain ⟨rA, rc, rfl, -, -⟩ := id hr
  obtain ⟨aA, ac, rfl, -, -⟩ := id ha
  have hpn : ∀ (n : Nat) (w : World), (binOp .eql 35 (.pointer (some ⟨n, 0, none⟩)) (.pointer none)).run Tryd.prog w = .ok (.bool false) w := fun _ _ => by kernel_rfl
  have hp0 : ∀ (w : World), (binOp .eql 35 (.pointer none) (.pointer none)).run Tryd.prog w = .ok (.bool true) w := fun _ => by kernel_rfl
  generalize cutM rs = own at *
  clear hr ha ht
  by_cases hc : (check own).2 = 0
  · have Hc := Lib.hid hc
    have hinv := playedTo_inv hc Hvm.out 60 (by decide)
    obtain ⟨E, ans, hS⟩ : ∃ E ans, playedF own acts = (E, ans) := ⟨_, _, rfl⟩
    have HS := Lib.hid hS
    rw [show playedTo own acts 60 = (E, ans) from hS] at hinv
    have Hinv := Lib.hid hinv
    have hnd := askR_nodup hinv (q := q) (m := 1073741824) (by decide)
    have htw := askR_twice hinv (q := q) (m := 1073741824) (by decide)
    have Hinv2 := Lib.hid (hinv.ask q 1073741824 (by decide))
    rw [← askR_ans] at htw
    obtain ⟨R, hR⟩ : ∃ R, askR E ans q 1073741824 = R := ⟨_, rfl⟩
    have hRa : askS E ans q 1073741824 = R.ans := by rw [← askR_ans, hR]
    rw [hR] at hnd htw
    obtain ⟨Ra, Rw, Rv, Re⟩ := R
    simp only at hnd htw hRa
    have Hnd := Lib.hid hnd
    have Htw := Lib.hid htw
    have HR := Lib.hid hR
    have Hlen := Lib.hid (show Rw.length ≤ 200 by
      have hdl : Rw.length ≤ E.rules.length := by
        have h := congrArg AskRes.worked hR
        rw [show Rw = (askR E ans q 1073741824).worked from h.symm]
        unfold askR
        split
        · simp
        split
        · simp
        · rename_i hq hm
          exact (askF_good (hinv.env (m := 1073741824) (by decide) (by decide)) (E.rules.length + 1) [] ⟨ans, []⟩ q (hinv.pinv (by decide)) (isErr_in hq)).1.inv.dlen
      have := hinv.ok.len
      have h2 : E.rules.length ≤ 200 := this
      omega)
    have HRa := Lib.hid hRa
    clear hc hS hinv hnd htw hR hRa
    go_enter Tryd.func5, Tryd.ntmps5
    go_wp2_with (first
      | (go_at_call 10; go_must (refine HC.out.mono ?_; rintro e w1 ⟨ov, rfl, hk1, hr1⟩; obtain ⟨oA, oc, rfl, _, _⟩ := id hr1)
         have HK1 := Lib.hid hk1
         have Hr1 := Lib.hid hr1
         have Ha1 := Lib.hid (HA.out.keep (X' := Y) hk1 (fun _ _ _ => id) (fun _ _ h => h))
         clear hk1 hr1
         (try simp only [Act.put, List.setIfInBounds_toArray, List.set_cons_zero, List.set_cons_succ]))
      | (go_at_call 16; go_must (refine (played_any own acts w1 _ _ _ _ Hr1.out Ha1.out (fun _ => HT.out.keep HK1.out id)).mono ?_; rintro e w2 ⟨hk2, -, hx2⟩; obtain ⟨eb, ib, mb, Xe, rfl, he2, hxe2, be1, be2, be3⟩ := hx2 Hc.out)
         have HK2 := Lib.hid (HK1.out.trans hk2 (fun _ _ h => h))
         have Hr2 := Lib.hid (Hr1.out.keep (X' := fun k => w.heap.size ≤ k ∧ k < w1.heap.size) hk2 (fun _ _ _ => id) (fun _ _ h => h))
         rw [HS.out] at he2
         have He2 := Lib.hid he2
         have Hbe := Lib.hid (show (w1.heap.size ≤ eb ∧ w1.heap.size ≤ ib ∧ w1.heap.size ≤ mb) ∧ (∀ k, Xe k → w1.heap.size ≤ k ∧ k < w2.heap.size) from ⟨⟨be1, be2, be3⟩, hxe2⟩)
         clear hk2 hx2 he2 hxe2 be1 be2 be3
         (try simp only [Act.put, List.setIfInBounds_toArray, List.set_cons_zero, List.set_cons_succ]))
      | (go_at_call 18
         have hask := AskR_any Hinv.out w2 Xe eb ib mb q 1073741824 (by decide) He2.out (fun b hb => (Hbe.out.2 b hb).2)
         rw [HR.out] at hask
         go_must (refine hask.mono ?_; rintro e w3 ⟨X3, wl3, rfl, hx3, hxl3, hk3, he3, hw3, -⟩; obtain ⟨wA, wc, rfl⟩ := own_slice hw3)
         have HK3 := Lib.hid (HK2.out.trans hk3 (fun i hi e => by have h1 := Hbe.out.1.2.2; have h2 := HK1.out.size; omega))
         have He3 := Lib.hid he3
         have Hx3 := Lib.hid hxl3
         have Hw3 := Lib.hid (IntsX.own (xs := Rw) hw3 (fun _ => True) (fun _ _ => trivial))
         clear hask hk3 hw3 he3 hxl3 hx3
         (try simp only [Act.put, List.setIfInBounds_toArray, List.set_cons_zero, List.set_cons_succ]))
    )
    have hlen := Hlen.out
    go_loopw [34] (fun v wr => ∃ k : Nat, v = .int .i64 k ∧ k ≤ Rw.length ∧ Hid (Keeps Nob w3 wr)) (fun v _ => Rw.length - (intOf v).toNat)
    case atStart => exact ⟨0, rfl, Nat.zero_le _, Lib.hid (Keeps.refl _ _)⟩
    case round =>
      obtain ⟨k, rfl, hk, hkeep⟩ := hrel
      by_cases hlt : k < Rw.length
      · go_wp2
        go_loopw [13] (fun v wr2 => ∃ j : Nat, v = .int .i64 j ∧ j ≤ k ∧ Hid (Keeps Nob w3 wr2)) (fun v _ => k - (intOf v).toNat)
        case atStart => exact ⟨0, rfl, Nat.zero_le _, hkeep⟩
        case round =>
          obtain ⟨j, rfl, hj, hkeep2⟩ := hrel
          by_cases hjk : j < k
          · have hlj : j < Rw.length := by omega
            have hca := Hw3.out.keep (X' := fun _ => True) hkeep2.out (fun _ _ _ => id) (fun _ _ h => h)
            have hsp : ∃ b o, wA = some ⟨b, o, none⟩ := by
              obtain ⟨A', c', h1, _, h3⟩ := hca
              injection h1 with h1 _ _
              subst h1
              obtain ⟨b, o, h, _⟩ := h3 k hlt
              exact ⟨b, o, h⟩
            obtain ⟨b, o, rfl⟩ := hsp
            have ck := hca.cellAt (k := k) hlt
            have cj := hca.cellAt (k := j) hlj
            have hne : (Rw.getD k 0 == Rw.getD j 0) = false := by
              rw [beq_eq_false_iff_ne, List.getD_eq_getElem?_getD, List.getD_eq_getElem?_getD, List.getElem?_eq_getElem hlt, List.getElem?_eq_getElem hlj]
              intro h
              exact (List.pairwise_iff_getElem.1 Hnd.out) j k hlj hlt hjk (by simpa using h.symm)
            generalize Rw.getD k 0 = xk at *
            generalize Rw.getD j 0 = xj at *
            clear hca
            go_wp2_with fail
            refine wp_region_perm [(0, true), (1, true), (2, true), (3, true), (4, true), (5, true), (6, true), (7, true), (8, true)] (fun w' => w'.cell? ⟨b, o + k, none⟩ = some (.int .i64 xk) ∧ w'.cell? ⟨b, o + j, none⟩ = some (.int .i64 xj)) rfl (by kernel_rfl) (by kernel_rfl) (by decide) (fun c a d v w h => by cases d <;> exact h) ⟨ck, cj⟩ ?_
            refine perm_q (v := ?v1_0) (some 42) rfl rfl rfl ?q1_0 ?h1_0; (case q1_0 => (intro w' hS; obtain ⟨s1, s2⟩ := hS; first | (go_simp; done) | (go_simp; rfl))); (try simp only [Act.put, List.setIfInBounds_toArray, List.set_cons_zero, List.set_cons_succ])
            refine perm_q (v := ?v1_1) (some 43) rfl rfl rfl ?q1_1 ?h1_1; (case q1_1 => (intro w' hS; obtain ⟨s1, s2⟩ := hS; first | (go_simp; done) | (go_simp; rfl))); (try simp only [Act.put, List.setIfInBounds_toArray, List.set_cons_zero, List.set_cons_succ])
            refine perm_q (v := ?v1_2) (some 44) rfl rfl rfl ?q1_2 ?h1_2; (case q1_2 => (intro w' hS; obtain ⟨s1, s2⟩ := hS; first | (go_simp; done) | (go_simp; rfl))); (try simp only [Act.put, List.setIfInBounds_toArray, List.set_cons_zero, List.set_cons_succ])
            refine perm_q (v := ?v1_3) (some 45) rfl rfl rfl ?q1_3 ?h1_3; (case q1_3 => (intro w' hS; obtain ⟨s1, s2⟩ := hS; first | (go_simp; done) | (go_simp; rfl))); (try simp only [Act.put, List.setIfInBounds_toArray, List.set_cons_zero, List.set_cons_succ])
            refine perm_q (v := ?v1_4) (some 46) rfl rfl rfl ?q1_4 ?h1_4; (case q1_4 => (intro w' hS; obtain ⟨s1, s2⟩ := hS; first | (go_simp; done) | (go_simp; rfl))); (try simp only [Act.put, List.setIfInBounds_toArray, List.set_cons_zero, List.set_cons_succ])
            refine perm_q (v := ?v1_5) (some 47) rfl rfl rfl ?q1_5 ?h1_5; (case q1_5 => (intro w' hS; obtain ⟨s1, s2⟩ := hS; first | (go_simp; done) | (go_simp; rfl))); (try simp only [Act.put, List.setIfInBounds_toArray, List.set_cons_zero, List.set_cons_succ])
            refine perm_q (v := ?v1_6) (some 48) rfl rfl rfl ?q1_6 ?h1_6; (case q1_6 => (intro w' hS; obtain ⟨s1, s2⟩ := hS; first | (go_simp; done) | (go_simp; rfl))); (try simp only [Act.put, List.setIfInBounds_toArray, List.set_cons_zero, List.set_cons_succ])
            refine perm_q (v := ?v1_7) (some 49) rfl rfl rfl ?q1_7 ?h1_7; (case q1_7 => (intro w' hS; obtain ⟨s1, s2⟩ := hS; first | (go_simp; done) | (go_simp; rfl))); (try simp only [Act.put, List.setIfInBounds_toArray, List.set_cons_zero, List.set_cons_succ])
            refine perm_q (v := ?v1_8) (some 50) rfl rfl rfl ?q1_8 ?h1_8; (case q1_8 => (intro w' hS; obtain ⟨s1, s2⟩ := hS; first | (go_simp; done) | (go_simp; rfl))); (try simp only [Act.put, List.setIfInBounds_toArray, List.set_cons_zero, List.set_cons_succ])
            refine perm_nil ?_
            go_wp2
            exact ⟨⟨j + 1, by go_num, by omega, Lib.hid hkeep2.out.drew⟩, by simp [intOf]; omega⟩
          · obtain rfl : j = k := by omega
            go_wp2
            exact ⟨⟨j + 1, by go_num, by omega, hkeep2⟩, by simp [intOf]; omega⟩
      · obtain rfl : k = Rw.length := by omega
        have HKr := Lib.hid (HK3.out.trans hkeep.out (fun _ _ h => h))
        by_cases hRe : Re = 0
        · have htw := Htw.out hRe
          obtain ⟨R2, hR2⟩ : ∃ R2, askR E Ra q 1073741824 = R2 := ⟨_, rfl⟩
          rw [hR2] at htw
          obtain ⟨a2, l2, v2, e2⟩ := R2
          obtain ⟨rfl, rfl, rfl⟩ := htw
          have Hinv3 := Lib.hid (show SInv own 60 (E, Ra) by have h := Hinv2.out; rw [HRa.out] at h; exact h)
          have HR2 := Lib.hid hR2
          have hre : (Re != 0) = false := by simp [hRe]
          clear hR2 hRe
          go_wp2_with (first
            | (go_at_call 18
               have hask := AskR_any Hinv3.out wr X3 eb ib mb q 1073741824 (by decide) (He3.out.after hkeep.out) (fun b hb => Nat.lt_of_lt_of_le (Hx3.out b hb) hkeep.out.size)
               rw [HR2.out] at hask
               go_must (refine hask.mono ?_; rintro e w4 ⟨X4, wl4, rfl, -, -, hk4, -, hw4, -⟩; obtain ⟨wA4, wc4, rfl⟩ := own_slice hw4)
               have HK4 := Lib.hid (HKr.out.trans hk4 (fun i hi e => by have h1 := Hbe.out.1.2.2; have h2 := HK1.out.size; omega))
               clear hask hk4 hw4
               (try simp only [Act.put, List.setIfInBounds_toArray, List.set_cons_zero, List.set_cons_succ]))
            | (go_at_call 14; go_must (refine (alive_any w4 (HT.out.keep HK4.out id)).mono ?_; rintro e w9 ⟨rfl, hk9⟩); (try simp only [Act.put, List.setIfInBounds_toArray, List.set_cons_zero, List.set_cons_succ]))
          )
          go_ret
          exact ⟨rfl, HK4.out.trans hk9 (fun _ _ h => h)⟩
        · have hre : (Re != 0) = true := by simpa using hRe
          clear hRe
          go_wp2_with (first
            | (go_at_call 14; go_must (refine (alive_any wr (HT.out.keep HKr.out id)).mono ?_; rintro e w9 ⟨rfl, hk9⟩); (try simp only [Act.put, List.setIfInBounds_toArray, List.set_cons_zero, List.set_cons_succ]))
          )
          go_ret
          exact ⟨rfl, HKr.out.trans hk9 (fun _ _ h => h)⟩
  · have Hc := Lib.hid hc
    clear hc
    go_enter Tryd.func5, Tryd.ntmps5
    go_wp2_with (first
      | (go_at_call 10; go_must (refine HC.out.mono ?_; rintro e w1 ⟨ov, rfl, hk1, hr1⟩; obtain ⟨oA, oc, rfl, _, _⟩ := id hr1)
         have HK1 := Lib.hid hk1
         have Hr1 := Lib.hid hr1
         have Ha1 := Lib.hid (HA.out.keep (X' := Y) hk1 (fun _ _ _ => id) (fun _ _ h => h))
         clear hk1 hr1
         (try simp only [Act.put, List.setIfInBounds_toArray, List.set_cons_zero, List.set_cons_succ]))
      | (go_at_call 16; go_must (refine (played_any own acts w1 _ _ _ _ Hr1.out Ha1.out (fun _ => HT.out.keep HK1.out id)).mono ?_; rintro e w2 ⟨hk2, hx2, -⟩; obtain rfl := hx2 Hc.out)
         have HK2 := Lib.hid (HK1.out.trans hk2 (fun _ _ h => h))
         clear hk2 hx2
         (try simp only [Act.put, List.setIfInBounds_toArray, List.set_cons_zero, List.set_cons_succ]))
      | (go_at_call 14; go_must (refine (alive_any w2 (HT.out.keep HK2.out id)).mono ?_; rintro e w9 ⟨rfl, hk9⟩); (try simp only [Act.put, List.setIfInBounds_toArray, List.set_cons_zero, List.set_cons_succ]))
    )
    go_ret
    exact ⟨rfl, HK2.out.trans hk9 (fun _ _ h => h)⟩
end Go.Proofs.QW

/-
  What one Ask works out is what it must: a question that had a kept answer is worked out only if something that this had asked has changed since it was checked. No program in sight. No condition.
-/
namespace Go.Proofs.QM
set_option linter.unusedVariables false

/-- What is worked out from s to s' had to be. -/
structure OnlyS (E : Env) (s s' : PS) : Prop where
  unch : ∀ q, InQ E q → s'.get q = s.get q ∨ ∃ k, s'.get q = some k ∧ k.checked = E.rev
  new : ∃ l, s'.done = s.done ++ l ∧ ∀ q ∈ l, InQ E q ∧ (E.rule q).kind ≠ 1 ∧ (∀ k, s.get q = some k → k.checked ≠ E.rev) ∧ (s.get q = none ∨ ∃ k, s.get q = some k ∧ ∃ a ∈ k.asked, InQ E a ∧ ∃ v ch, Cur E s' a v ch ∧ k.checked < ch)
theorem OnlyS.refl {E : Env} (s : PS) : OnlyS E s s := ⟨fun _ _ => .inl rfl, [], by simp, fun q h => by cases h⟩
theorem OnlyS.trans {E : Env} {a b c : PS} (h : OnlyS E a b) (k : OnlyS E b c) (hs : Stay E b c) : OnlyS E a c := by
  obtain ⟨l, hl, hx⟩ := h.new
  obtain ⟨m, hm, hy⟩ := k.new
  have hstay : ∀ q, InQ E q → c.get q = a.get q ∨ ∃ k, c.get q = some k ∧ k.checked = E.rev := fun q hq => by
    rcases k.unch q hq with h1 | h1
    · rcases h.unch q hq with h2 | ⟨kk, h2, h3⟩
      · exact .inl (h1.trans h2)
      · exact .inr ⟨kk, h1.trans h2, h3⟩
    · exact .inr h1
  refine ⟨hstay, l ++ m, by rw [hm, hl, List.append_assoc], fun q hq => ?_⟩
  rcases List.mem_append.1 hq with hq | hq
  · obtain ⟨h1, hk, h2, h3⟩ := hx q hq
    refine ⟨h1, hk, h2, h3.imp id (fun ⟨kk, e1, x, hxm, hxi, v, ch, hc, hlt⟩ => ⟨kk, e1, x, hxm, hxi, v, ch, hc.stay hxi hs, hlt⟩)⟩
  · obtain ⟨h1, hk, h2, h3⟩ := hy q hq
    have hba : b.get q = a.get q := by
      rcases h.unch q h1 with h4 | ⟨kk, h4, h5⟩
      · exact h4
      · exact absurd h5 (h2 kk h4)
    rw [hba] at h2 h3
    exact ⟨h1, hk, h2, h3⟩
def AskO (E : Env) (hist : Hist) (on : List Int) (ask : AskFn) : Prop :=
  ∀ s q, PInv E on s → HInv E hist s → InQ E q → Low E on q → ∀ v ch, (ask s q).2 = .ok (v, ch) → OnlyS E s (ask s q).1
section
variable {E : Env} {hist : Hist} {on : List Int} {ask : AskFn}
theorem askAll_o (hg : Good E on ask) (ha : AskH E hist on ask) (ho : AskO E hist on ask) (stop : Bool) : ∀ (l : List Int) (s : PS), PInv E on s → HInv E hist s → (∀ q ∈ l, InQ E q) → LowAll E on stop l →
    ∀ got, (askAll ask stop s l).2 = .ok got → OnlyS E s (askAll ask stop s l).1
  | [], s, _, _, _, _ => fun got h => OnlyS.refl s
  | q :: r, s, hp, hs, hq, hl => by
    have hqq := hq q List.mem_cons_self
    have hlow : Low E on q := fun p hp f v hv => by
      obtain ⟨g, hg, hs⟩ := hl p hp f v hv
      refine ⟨g, hg, ?_⟩
      unfold pvAll at hs
      cases hgq : pv E.rules E.inp g q with
      | none => rw [hgq] at hs; simp at hs
      | some x => rfl
    obtain ⟨h1, h2, h3, h4⟩ := ha s q hp hs hqq hlow
    have h5 := ho s q hp hs hqq hlow
    have hst := (hg s q hp hqq).1
    unfold askAll
    rcases hr : ask s q with ⟨s1, r1⟩
    rw [hr] at h1 h2 h3 h5 hst
    cases r1 with
    | error e => intro got h; cases h
    | ok x =>
      obtain ⟨v, ch⟩ := x
      obtain ⟨⟨fa, hfa⟩, hcur⟩ := h3 v ch rfl
      have h5 := h5 v ch rfl
      simp only at h1 h2 h5 ⊢
      by_cases hstop : stop = true ∧ v ≠ 0
      · rw [if_pos hstop]; intro got h; exact h5
      · rw [if_neg hstop]
        have hlow2 : LowAll E on stop r := fun p hp f w hv => by
          obtain ⟨g, hg, hs⟩ := hl p hp f w hv
          refine ⟨g, hg, ?_⟩
          unfold pvAll at hs
          cases hgq : pv E.rules E.inp g q with
          | none => rw [hgq] at hs; simp at hs
          | some x =>
            have hx : x = v := pv_unique hgq hfa
            subst hx
            rw [hgq] at hs
            simp only [if_neg hstop, Option.isSome_map] at hs
            exact hs
        have ih := askAll_o hg ha ho stop r s1 hst.inv h1 (fun x hx => hq x (List.mem_cons_of_mem _ hx)) hlow2
        have ih2 := (askAll_h hg ha stop r s1 hst.inv h1 (fun x hx => hq x (List.mem_cons_of_mem _ hx)) hlow2).2.1
        rcases hr2 : askAll ask stop s1 r with ⟨s2, r2⟩
        rw [hr2] at ih ih2
        cases r2 with
        | error e => intro got h; cases h
        | ok vs => intro got h; exact h5.trans (ih vs rfl) ih2
theorem evalR_o (hg : Good E on ask) (ha : AskH E hist on ask) (ho : AskO E hist on ask) {r : QRule} (hr : ROk E.rules.length r) {s : PS} (hp : PInv E on s) (hs : HInv E hist s) (hl : LowR E on r) :
    ∀ x, (evalR ask s r).2 = .ok x → OnlyS E s (evalR ask s r).1 := by
  unfold evalR
  by_cases hk : r.kind = 3
  · rw [if_pos hk]
    have hq0 := (pick_mem (E := E) (v := 0) hr hk (by omega)).2
    have hlow : Low E on (r.asks.getD 0 0) := fun p hp f v hv => by
      obtain ⟨g, hg, hs⟩ := hl p hp f v hv
      refine ⟨g, hg, ?_⟩
      unfold pvRule at hs
      rw [if_pos hk] at hs
      cases hgq : pv E.rules E.inp g (r.asks.getD 0 0) with
      | none => rw [hgq] at hs; simp at hs
      | some x => rfl
    obtain ⟨h1, h2, h3, h4⟩ := ha s _ hp hs hq0 hlow
    have h5 := ho s _ hp hs hq0 hlow
    have hgd := hg s _ hp hq0
    rcases hr1 : ask s (r.asks.getD 0 0) with ⟨s1, r1⟩
    rw [hr1] at h1 h2 h3 h5 hgd
    cases r1 with
    | error e => intro x h; cases h
    | ok x =>
      obtain ⟨v, ch⟩ := x
      obtain ⟨⟨fa, hfa⟩, hcur⟩ := h3 v ch rfl
      have h5 := h5 v ch rfl
      have hv := (hgd.2 v ch rfl).1
      have hqp := (pick_mem (E := E) hr hk hv).1
      have hlow2 : Low E on (pickOf r v) := fun p hp f w hw => by
        obtain ⟨g, hg, hs⟩ := hl p hp f w hw
        refine ⟨g, hg, ?_⟩
        unfold pvRule at hs
        rw [if_pos hk] at hs
        cases hgq : pv E.rules E.inp g (r.asks.getD 0 0) with
        | none => rw [hgq] at hs; simp at hs
        | some x =>
          have hx : x = v := pv_unique hgq hfa
          subst hx
          rw [hgq] at hs
          simp only [Option.isSome_map] at hs
          exact hs
      have g2 := (ha s1 _ hgd.1.inv h1 hqp hlow2).2.1
      have g5 := ho s1 _ hgd.1.inv h1 hqp hlow2
      simp only at h1 h2 h5 ⊢
      rcases hr2 : ask s1 (pickOf r v) with ⟨s2, r2⟩
      rw [hr2] at g2 g5
      cases r2 with
      | error e => intro x h; cases h
      | ok y => obtain ⟨u, d⟩ := y; intro x h; exact h5.trans (g5 u d rfl) g2
  · rw [if_neg hk]
    have hlow : LowAll E on (r.kind == 4) r.asks := fun p hp f v hv => by
      obtain ⟨g, hg, hs⟩ := hl p hp f v hv
      refine ⟨g, hg, ?_⟩
      unfold pvRule at hs
      rwa [if_neg hk, Option.isSome_map] at hs
    have h5 := askAll_o hg ha ho (r.kind == 4) r.asks s hp hs (fun q hq => hr.asks q hq) hlow
    rcases hr1 : askAll ask (r.kind == 4) s r.asks with ⟨s1, r1⟩
    rw [hr1] at h5
    cases r1 with
    | error e => intro x h; cases h
    | ok got => intro x h; exact h5 got rfl
theorem staleF_o (hg : Good E on ask) (ha : AskH E hist on ask) (ho : AskO E hist on ask) {q : Int} {k : KeptR} (hq : InQ E q) (hqo : q ∈ on) {F : Nat} (htr : pvRule (pv E.rules (hist k.checked) F) (E.rule q) = some (k.value, k.asked)) (hl : LowR E on (E.rule q)) (hk : (E.rule q).kind ≠ 1) :
    ∀ (l pre : List Int) (s : PS), k.asked = pre ++ l → PInv E on s → HInv E hist s → s.get q = some k → (∀ a ∈ pre, ∃ v ch, Val E.rules E.inp a v ∧ pv E.rules (hist k.checked) F a = some v ∧ Cur E s a v ch) →
      ∀ b, (staleF ask k.checked s l).2 = .ok b → OnlyS E s (staleF ask k.checked s l).1
  | [], pre, s, hpre, _, hs, _, hagree => fun b h => OnlyS.refl s
  | a :: r, pre, s, hpre, hp, hs, hget, hagree => by
    have ham : a ∈ k.asked := by rw [hpre]; simp
    have haq : InQ E a := hs.asked q k hq hget a ham
    have hnext : ∀ g, (pvRule (pv E.rules E.inp g) (E.rule q)).isSome = true → (pv E.rules E.inp g a).isSome = true := fun g hgs => by
      have hn : pre.length < k.asked.length := by rw [hpre]; simp
      have hget0 : ∀ i, i < pre.length → k.asked.getD i 0 = pre.getD i 0 := fun i hi => by rw [hpre, List.getD_eq_getElem?_getD, List.getElem?_append_left hi, List.getD_eq_getElem?_getD]
      have := pvRule_next htr hgs pre.length hn (fun i hi u hu => by
        rw [hget0 i hi] at hu ⊢
        have hm : pre.getD i 0 ∈ pre := by rw [List.getD_eq_getElem?_getD, List.getElem?_eq_getElem hi]; exact List.getElem_mem hi
        obtain ⟨v, ch, ⟨f, hf⟩, h2, _⟩ := hagree _ hm
        rw [pv_unique hu hf]; exact h2)
      rwa [show k.asked.getD pre.length 0 = a by rw [hpre, List.getD_eq_getElem?_getD, List.getElem?_append_right (Nat.le_refl _)]; simp] at this
    have hlow : Low E on a := fun p hpo f v hv => by
      obtain ⟨g, hg', hs'⟩ := hl p hpo f v hv
      exact ⟨g, hg', hnext g hs'⟩
    obtain ⟨h1, h2, h3, h4⟩ := ha s a hp hs haq hlow
    have h5 := ho s a hp hs haq hlow
    have hst := (hg s a hp haq).1
    unfold staleF
    rcases hr : ask s a with ⟨s1, r1⟩
    rw [hr] at h1 h2 h3 h5 hst
    cases r1 with
    | error e => intro b h; cases h
    | ok x =>
      obtain ⟨v, ch⟩ := x
      obtain ⟨hval, hcur⟩ := h3 v ch rfl
      have h6 := h5 v ch rfl
      clear h5
      have hgetq : s1.get q = some k := (hst.fix q hqo).trans hget
      simp only at h1 h2 h6 hcur ⊢
      by_cases hc : k.checked < ch
      · rw [if_pos hc]; intro b h; exact h6
      · rw [if_neg hc]
        obtain ⟨f', hf'⟩ := h1.chg q k hq hgetq a ham v ch hcur.has (by omega)
        obtain ⟨w, hw⟩ := pvRule_some htr a ham
        have hwv : w = v := pv_unique hw hf'
        subst hwv
        have hag : ∀ b ∈ pre ++ [a], ∃ v ch, Val E.rules E.inp b v ∧ pv E.rules (hist k.checked) F b = some v ∧ Cur E s1 b v ch := fun b hb => by
          rcases List.mem_append.1 hb with hb | hb
          · obtain ⟨v', ch', e1, e2, e3⟩ := hagree b hb
            exact ⟨v', ch', e1, e2, e3.stay (hs.asked q k hq hget b (by rw [hpre]; simp [hb])) h2⟩
          · rw [List.mem_singleton.1 hb]; exact ⟨w, ch, hval, hw, hcur⟩
        have ih := staleF_o hg ha ho hq hqo htr hl hk r (pre ++ [a]) s1 (by rw [hpre]; simp) hst.inv h1 hgetq hag
        have ih2 := (staleF_h hg ha hq hqo htr hl hk r (pre ++ [a]) s1 (by rw [hpre]; simp) hst.inv h1 hgetq hag).2.1
        intro b h
        exact h6.trans (ih b h) ih2
end
/-- A question gets its kept answer. -/
theorem OnlyS.put {E : Env} {s : PS} {q : Int} {k : KeptR} (hq : InQ E q) (hlt : q.toNat < s.ans.length) (hc : k.checked = E.rev) : OnlyS E s (s.set q k) := by
  refine ⟨fun p hpq => ?_, [], by simp [PS.set], fun p h => by cases h⟩
  by_cases e : p = q
  · subst e; exact .inr ⟨k, get_set_self hlt, hc⟩
  · exact .inl (get_set_other hq.1 hpq.1 e)
theorem workF_o {E : Env} (hE : EnvOk E) {hist : Hist} {on : List Int} {ask : AskFn} {q : Int} (hg : Good E (q :: on) ask) (ha : AskH E hist (q :: on) ask) (ho : AskO E hist (q :: on) ask) (hq : InQ E q) (hk : (E.rule q).kind ≠ 1) {s : PS} {was : Option KeptR} (hw : s.get q = was) (hp : PInv E (q :: on) s) (hs : HInv E hist s) (hl : LowR E (q :: on) (E.rule q))
    (hev : was = none ∨ ∃ k, was = some k ∧ ∃ a ∈ k.asked, InQ E a ∧ ∃ v ch, Cur E s a v ch ∧ k.checked < ch) :
    ∀ v ch, (workF E ask s q was).2 = .ok (v, ch) → OnlyS E s (workF E ask s q was).1 := by
  have hr := hE.rok _ (rule_mem hq)
  have h1 := evalR_o hg ha ho hr hp hs hl
  have h2 := (evalR_h hE hg ha hr hp hs hl).2.1
  have hgd := (evalR_good hE hg hr hp).1
  unfold workF
  rcases he : evalR ask s (E.rule q) with ⟨s1, r1⟩
  rw [he] at h1 h2 hgd
  cases r1 with
  | error e => intro v ch h; cases h
  | ok x =>
    obtain ⟨v, asked⟩ := x
    have h1 := h1 (v, asked) rfl
    simp only at h1 h2 ⊢
    have hi := hgd.inv
    have hlt : q.toNat < s1.ans.length := by rw [hi.alen]; have := hq.1; have := hq.2; omega
    by_cases hm : E.most ≤ s1.done.length
    · rw [if_pos hm]; intro v' ch' h; cases h
    · rw [if_neg hm]
      intro v' ch' _
      have hput := OnlyS.put (s := ({ s1 with done := s1.done ++ [q] } : PS)) (k := ⟨v, asked, E.rev, chOf E.rev was v⟩) (E := E) (q := q) hq hlt rfl
      have hst : Stay E s1 (({ s1 with done := s1.done ++ [q] } : PS).set q ⟨v, asked, E.rev, chOf E.rev was v⟩) := (Stay.refl s1).put hi hlt _
      obtain ⟨l, hl1, hl2⟩ := h1.new
      refine ⟨fun p hpq => ?_, l ++ [q], by show s1.done ++ [q] = _; rw [hl1, List.append_assoc], fun p hpm => ?_⟩
      · rcases hput.unch p hpq with h3 | h3
        · rcases h1.unch p hpq with h4 | ⟨kk, h4, h5⟩
          · exact .inl (h3.trans h4)
          · exact .inr ⟨kk, h3.trans h4, h5⟩
        · exact .inr h3
      · rcases List.mem_append.1 hpm with hpm | hpm
        · obtain ⟨e1, e0, e2, e3⟩ := hl2 p hpm
          exact ⟨e1, e0, e2, e3.imp id (fun ⟨kk, f1, x, hxm, hxi, v, ch, hc, hlt⟩ => ⟨kk, f1, x, hxm, hxi, v, ch, hc.stay hxi hst, hlt⟩)⟩
        · rw [List.mem_singleton.1 hpm]
          refine ⟨hq, hk, fun k hk => hp.onk q List.mem_cons_self k hk, ?_⟩
          rcases hev with h | ⟨k, h, a, ham, hai, v2, ch2, hc, hlt2⟩
          · exact .inl (hw.trans h)
          · exact .inr ⟨k, hw.trans h, a, ham, hai, v2, ch2, (hc.stay hai h2).stay hai hst, hlt2⟩
/-- WHAT ONE ASK WORKS OUT IS WHAT IT MUST. -/
theorem askF_o {E : Env} (hE : EnvOk E) {hist : Hist} : ∀ (f : Nat) (on : List Int), E.rules.length + 1 ≤ f + on.length → AskO E hist on (askF E f on)
  | 0, on, hf => fun s q hp _ _ _ => by have := hp.onlen; omega
  | f + 1, on, hf => fun s q hp hs hq hlow => by
    unfold askF
    by_cases hk : (E.rule q).kind = 1
    · rw [if_pos hk]; intro v ch h; exact OnlyS.refl s
    rw [if_neg hk]
    by_cases hon : q ∈ on
    · rw [if_pos hon]; intro v ch h; cases h
    rw [if_neg hon]
    have hG := askF_good hE f (q :: on)
    have hA := askF_h hE (hist := hist) f (q :: on) (by simp; omega)
    have hO := askF_o hE (hist := hist) f (q :: on) (by simp; omega)
    have hl := hlow.rule hk
    cases hg : s.get q with
    | none => exact workF_o hE hG hA hO hq hk hg (hp.open_ hq hon (fun k h => by rw [hg] at h; cases h)) hs hl (.inl rfl)
    | some k =>
      simp only
      by_cases hc : k.checked = E.rev
      · rw [if_pos hc]; intro v ch h; exact OnlyS.refl s
      · rw [if_neg hc]
        have hp' := hp.open_ hq hon (fun k' h => by rw [hg] at h; injection h with h; exact h ▸ hc)
        obtain ⟨F, hF⟩ := hs.tr q k hq hg
        have h0 := staleF_o hG hA hO hq List.mem_cons_self hF hl hk k.asked [] s rfl hp' hs hg (fun a h => by cases h)
        obtain ⟨h1, h2, h3, h4, h5⟩ := staleF_h hG hA hq List.mem_cons_self hF hl hk k.asked [] s rfl hp' hs hg (fun a h => by cases h)
        have hsg := staleF_good hG k.checked k.asked s hp' (hs.asked q k hq hg)
        rcases he : staleF (askF E f (q :: on)) k.checked s k.asked with ⟨s1, r1⟩
        rw [he] at h0 h1 h2 h3 h4 hsg
        have hgq : s1.get q = some k := (hsg.fix q List.mem_cons_self).trans hg
        rcases r1 with e | b
        · intro v ch h; cases h
        · have h0 := h0 b rfl
          cases b with
          | true =>
            obtain ⟨a, ham, v2, ch2, hc2, hlt⟩ := h4 rfl
            have hw := workF_o hE hG hA hO hq hk hgq hsg.inv h1 hl (.inr ⟨k, rfl, a, ham, hs.asked q k hq hg a ham, v2, ch2, hc2, hlt⟩)
            have hw2 := (workF_h hE hG hA hq hk hgq hsg.inv hsg.inv h1 (Stay.refl s1) hl).2.1
            intro v ch h
            exact h0.trans (hw v ch h) hw2
          | false =>
            have hlt : q.toNat < s1.ans.length := by rw [hsg.inv.alen]; have := hq.1; have := hq.2; omega
            intro v ch h
            exact h0.trans (OnlyS.put hq hlt rfl) ((Stay.refl s1).put hsg.inv hlt s1.done)
end Go.Proofs.QM

/-
  A kept answer that must be there (found), what it asked (Asked) and when (When), of an engine that lives, in memory. Condition: the engine lies.
-/
namespace Go.Proofs.QW
open Go.RowKit Go.Proofs.KL Go.Proofs.QM
set_option maxRecDepth 100000
set_option linter.unusedSimpArgs false
set_option linter.unusedVariables false

def foundF (E : Env) (ans : List (Option KeptR)) (q : Int) : KeptR × Int :=
  if isErr E.rules.length q ≠ 0 then (k0, 5)
  else if (E.rule q).kind = 1 then (⟨E.inp.getD q.toNat 0, [], E.rev, E.inpCh.getD q.toNat 0⟩, 0)
  else match ans.getD q.toNat none with
    | none => (k0, 8)
    | some k => (k, 0)
set_option maxHeartbeats 4000000 in
/-- FOUND. -/
theorem Found_any (X : Nat → Prop) (eb ib mb : Nat) (E : Env) (ans : List (Option KeptR)) (q : Int) (w : World) (h : EngAt w X eb ib mb E ans) (hl : E.rules.length ≤ 200) :
    Calls Tryd.prog 41 #[.pointer (some ⟨eb, 0, none⟩), .int .i64 q] w fun e w' => ∃ u, e = .returned (.tuple #[.agg #[.int .i64 (foundF E ans q).1.value, u, .int .i64 (foundF E ans q).1.checked, .int .i64 (foundF E ans q).1.changed], .int .i64 (foundF E ans q).2]) ∧ Keeps Nob w w' ∧ IntsX w' X u (foundF E ans q).1.asked := by
  obtain ⟨R, hR⟩ : ∃ r, foundF E ans q = r := ⟨_, rfl⟩
  rw [hR]
  unfold foundF at hR
  obtain ⟨⟨rv, c, hb, hr⟩, ⟨cs, hib, hinp⟩, ⟨es, cl, hmb, hkey, hout, hans⟩, _, _, _⟩ := h
  have hr0 := hr
  obtain ⟨A, cc, rfl, hcc, hrx⟩ := hr0
  have e0 := (blk_cell hb 0).trans rfl
  have e1 := (blk_cell hb 1).trans rfl
  have e2 := (blk_cell hb 2).trans rfl
  have e3 := (blk_cell hb 3).trans rfl
  have Hr := Lib.hid hr
  have Hmb := Lib.hid hmb
  have Hkey := Lib.hid hkey
  have Hans := Lib.hid hans
  have Hinp := Lib.hid hinp
  have Hib := Lib.hid hib
  obtain ⟨i85, hi85, hs85⟩ := info85
  obtain ⟨i3, hi3, hs3⟩ := infoS3
  have HJ := Lib.hid (And.intro (And.intro hi85 hs85) (And.intro hi3 hs3))
  clear hr hb hrx hmb hinp hib hkey hans hout hi85 hs85 hi3 hs3
  by_cases hq : isErr E.rules.length q ≠ 0
  · have hE : isErr E.rules.length q = 5 := by unfold isErr at hq ⊢; split at hq; rw [if_pos (by assumption)]; exact absurd rfl hq
    rw [if_pos hq] at hR
    have HR := Lib.hid hR
    have HEr := Lib.hid hE
    clear hE hq hR
    go_enter Tryd.func41, Tryd.ntmps41
    go_wp2_with (first
      | ((with_reducible refine at_dst (N := 4) rfl ?_); go_must (refine ev_alloc rfl rfl zero85 rfl ?_; intro g4 w1 hg4 hl4 hb4 hk1)
         have Hb4 := Lib.hid hb4
         have e0 := hk1.cell e0 id
         have e1 := hk1.cell e1 id
         have e2 := hk1.cell e2 id
         have e3 := hk1.cell e3 id
         have HK1 := Lib.hid hk1
         have Hrr := Lib.hid (Hr.out.keep (X' := X) hk1 (fun _ _ _ => id) (fun _ _ h => h))
         clear hb4
         (try simp only [Act.put, List.setIfInBounds_toArray, List.set_cons_zero, List.set_cons_succ]))
      | (go_at_call 38; go_must (refine (is_some _ _ _ _ _ _ _ (by assumption) (by assumption) hl).mono ?_; rintro e w' ⟨rfl, rfl⟩; rw [HEr.out]))
      | ((with_reducible refine at_store (t := 85) (p := 4) rfl ?_); go_must (refine ev_store (cs' := #[.int .i64 0, .slice none 0 0, .int .i64 0, .int .i64 0]) rfl rfl rfl rfl rfl rfl HJ.out.1.1 HJ.out.1.2 rfl Hb4.out (Nat.le_of_ble_eq_true rfl) rfl ?_; intro w2 hbz hk2); (try simp only [Act.put, List.setIfInBounds_toArray, List.set_cons_zero, List.set_cons_succ])))
    have r0 := (blk_cell hbz 0).trans rfl
    have r1 := (blk_cell hbz 1).trans rfl
    have r2 := (blk_cell hbz 2).trans rfl
    have r3 := (blk_cell hbz 3).trans rfl
    refine bodyPost_ret (v := .tuple #[.agg #[.int .i64 0, .slice none 0 0, .int .i64 0, .int .i64 0], .int .i64 5]) (by rw [results_cell_tmp rfl]; go_simp; try rfl) rfl ?_
    rw [← HR.out]
    exact ⟨.slice none 0 0, rfl, hk1.own hk2 hg4, nil_ints _ _⟩
  · have hE : isErr E.rules.length q = 0 := by omega
    obtain ⟨hq0, hq1⟩ := isErr_in hq
    rw [if_neg hq] at hR
    have HEr := Lib.hid hE
    clear hE hq
    have hin : (E.rules.getD q.toNat default).kind = (E.rule q).kind := rfl
    by_cases hk : (E.rule q).kind = 1
    · rw [if_pos hk] at hR
      have HR := Lib.hid hR
      have hkb : ((E.rule q).kind == 1) = true := by rw [hk]; rfl
      have HI := Lib.hid (And.intro hin hkb)
      obtain ⟨i, rfl⟩ := Int.eq_ofNat_of_zero_le hq0
      have hqi : i < E.rules.length := by omega
      obtain ⟨d0, d1, d2, d3⟩ := Hinp.out i hqi
      have d0 := (blk_cell Hib.out (i * 4)).trans d0
      have d1 := (blk_cell Hib.out (i * 4 + 1)).trans d1
      have d2 := (blk_cell Hib.out (i * 4 + 2)).trans d2
      have d3 := (blk_cell Hib.out (i * 4 + 3)).trans d3
      have hR2 := HR.out
      simp only [Int.toNat_natCast] at hR2
      have HR2 := Lib.hid hR2
      generalize E.inp.getD i 0 = iv at *
      generalize E.inpCh.getD i 0 = ic at *
      clear hin hkb hk hR HR hR2
      go_enter Tryd.func41, Tryd.ntmps41
      go_wp2_with (first
        | ((with_reducible refine at_dst (N := 4) rfl ?_); go_must (refine ev_alloc rfl rfl zero85 rfl ?_; intro g4 w1 hg4 hl4 hb4 hk1)
           have Hb4 := Lib.hid hb4
           have e0 := hk1.cell e0 id
           have e1 := hk1.cell e1 id
           have e2 := hk1.cell e2 id
           have e3 := hk1.cell e3 id
           have d0 := hk1.cell d0 id
           have d1 := hk1.cell d1 id
           have d2 := hk1.cell d2 id
           have d3 := hk1.cell d3 id
           have HK1 := Lib.hid hk1
           have Hrr := Lib.hid (Hr.out.keep (X' := X) hk1 (fun _ _ _ => id) (fun _ _ h => h))
           clear hb4
           (try simp only [Act.put, List.setIfInBounds_toArray, List.set_cons_zero, List.set_cons_succ]))
        | (go_at_call 38; go_must (refine (is_some _ _ _ _ _ _ _ (by assumption) (by assumption) hl).mono ?_; rintro e w' ⟨rfl, rfl⟩; rw [HEr.out]))
        | (go_at_call 37; go_must (refine (input_any _ _ E.rules X _ _ (by assumption) Hrr.out hq0 hq1 hl).mono ?_; rintro e w' ⟨rfl, rfl⟩; rw [HI.out.1, HI.out.2]))
        | ((with_reducible refine at_dst (N := 7) rfl ?_); go_must (refine ev_alloc rfl rfl zero85 rfl ?_; intro g7 w2 hg7 hl7 hb7 hk2); have Hb7 := Lib.hid hb7; clear hb7; (try simp only [Act.put, List.setIfInBounds_toArray, List.set_cons_zero, List.set_cons_succ]))
        | ((with_reducible refine at_store (t := 85) (p := 7) rfl ?_); go_must (refine ev_store (cs' := #[.int .i64 iv, .slice none 0 0, .int .i64 0, .int .i64 ic]) rfl rfl rfl rfl rfl rfl HJ.out.1.1 HJ.out.1.2 rfl Hb7.out (Nat.le_of_ble_eq_true rfl) rfl ?_; intro w3 hb3 hk3)
           have Hb3 := Lib.hid hb3
           have HK3 := Lib.hid (hk2.own hk3 hg7)
           have e3 := HK3.out.cell e3 id
           clear hb3
           (try simp only [Act.put, List.setIfInBounds_toArray, List.set_cons_zero, List.set_cons_succ]))
        | ((with_reducible refine at_store (t := 3) rfl ?_); go_must (refine ev_store (cs' := #[.int .i64 iv, .slice none 0 0, .int .i64 E.rev, .int .i64 ic]) rfl rfl rfl rfl rfl rfl HJ.out.2.1 HJ.out.2.2 rfl Hb3.out (Nat.le_of_ble_eq_true rfl) rfl ?_; intro w4 hb4' hk4)
           have f0 := (blk_cell hb4' 0).trans rfl
           have f1 := (blk_cell hb4' 1).trans rfl
           have f2 := (blk_cell hb4' 2).trans rfl
           have f3 := (blk_cell hb4' 3).trans rfl
           clear hb4'
           (try simp only [Act.put, List.setIfInBounds_toArray, List.set_cons_zero, List.set_cons_succ]))
        | ((with_reducible refine at_store (t := 85) (p := 4) rfl ?_); go_must (refine ev_store (cs' := #[.int .i64 iv, .slice none 0 0, .int .i64 E.rev, .int .i64 ic]) rfl rfl rfl rfl rfl rfl HJ.out.1.1 HJ.out.1.2 rfl (hk4.blk (HK3.out.blk Hb4.out id) (by show ¬ g4 = g7; omega)) (Nat.le_of_ble_eq_true rfl) rfl ?_; intro w5 hbz hk5); (try simp only [Act.put, List.setIfInBounds_toArray, List.set_cons_zero, List.set_cons_succ])))
      have r0 := (blk_cell hbz 0).trans rfl
      have r1 := (blk_cell hbz 1).trans rfl
      have r2 := (blk_cell hbz 2).trans rfl
      have r3 := (blk_cell hbz 3).trans rfl
      refine bodyPost_ret (v := .tuple #[.agg #[.int .i64 iv, .slice none 0 0, .int .i64 E.rev, .int .i64 ic], .int .i64 0]) (by rw [results_cell_tmp rfl]; go_simp; try rfl) rfl ?_
      rw [← HR2.out]
      exact ⟨.slice none 0 0, rfl, ((HK1.out.trans HK3.out (fun _ _ h => h)).own hk4 (by have := HK1.out.size; omega)).own hk5 hg4, nil_ints _ _⟩
    · rw [if_neg hk] at hR
      have hkb : ((E.rule q).kind == 1) = false := by simpa using hk
      have HI := Lib.hid (And.intro hin hkb)
      obtain ⟨u, hv, hui, hsm⟩ := AnsX.get hq0 hq1 Hans.out
      obtain ⟨uA, uc, rfl, _, _⟩ := id hui
      obtain ⟨was, hwas⟩ : ∃ x, ans.getD q.toNat none = x := ⟨_, rfl⟩
      rw [hwas] at hR hv hsm hui
      generalize hkd : was.getD k0 = k at *
      have Hv := Lib.hid hv
      have Hui := Lib.hid hui
      have HR := Lib.hid hR
      clear hv hR hin hkb hk hwas hui
      cases was with
      | none =>
        have Hsm := Lib.hid (show (mlook es.toList q).isSome = false from hsm)
        have HR2 := Lib.hid (show ((k0, 8) : KeptR × Int) = R from HR.out)
        clear hsm HR hkd
        go_enter Tryd.func41, Tryd.ntmps41
        go_wp2_with (first
          | ((with_reducible refine at_dst (N := 4) rfl ?_); go_must (refine ev_alloc rfl rfl zero85 rfl ?_; intro g4 w1 hg4 hl4 hb4 hk1)
             have Hb4 := Lib.hid hb4
             have e0 := hk1.cell e0 id
             have e1 := hk1.cell e1 id
             have e2 := hk1.cell e2 id
             have e3 := hk1.cell e3 id
             have HK1 := Lib.hid hk1
             have Hrr := Lib.hid (Hr.out.keep (X' := X) hk1 (fun _ _ _ => id) (fun _ _ h => h))
             clear hb4
             (try simp only [Act.put, List.setIfInBounds_toArray, List.set_cons_zero, List.set_cons_succ]))
          | (go_at_call 38; go_must (refine (is_some _ _ _ _ _ _ _ (by assumption) (by assumption) hl).mono ?_; rintro e w' ⟨rfl, rfl⟩; rw [HEr.out]))
          | (go_at_call 37; go_must (refine (input_any _ _ E.rules X _ _ (by assumption) Hrr.out hq0 hq1 hl).mono ?_; rintro e w' ⟨rfl, rfl⟩; rw [HI.out.1, HI.out.2]))
          | ((with_reducible refine at_dst (N := 39) rfl ?_); go_must (refine ev_lookup_ok rfl rfl Tryd.underlying61 Tryd.underlying3 zero85 rfl rfl (HK1.out.blk Hmb.out id) Hkey.out ?_; rw [Hv.out, Hsm.out]); (try simp only [Act.put, List.setIfInBounds_toArray, List.set_cons_zero, List.set_cons_succ]))
          | ((with_reducible refine at_dst (N := 8) rfl ?_); go_must (refine ev_alloc rfl rfl zero85 rfl ?_; intro g8 w2 hg8 hl8 hb8 hk2); have Hb8 := Lib.hid hb8; clear hb8; (try simp only [Act.put, List.setIfInBounds_toArray, List.set_cons_zero, List.set_cons_succ]))
          | ((with_reducible refine at_store (t := 85) (p := 8) rfl ?_); go_must (refine ev_store (cs' := #[.int .i64 k.value, .slice uA k.asked.length uc, .int .i64 k.checked, .int .i64 k.changed]) rfl rfl rfl rfl rfl rfl HJ.out.1.1 HJ.out.1.2 rfl Hb8.out (Nat.le_of_ble_eq_true rfl) rfl ?_; intro w3 hb3 hk3)
             have f0 := (blk_cell hb3 0).trans rfl
             have f1 := (blk_cell hb3 1).trans rfl
             have f2 := (blk_cell hb3 2).trans rfl
             have f3 := (blk_cell hb3 3).trans rfl
             clear hb3
             (try simp only [Act.put, List.setIfInBounds_toArray, List.set_cons_zero, List.set_cons_succ]))
          | ((with_reducible refine at_store (t := 85) (p := 4) rfl ?_); go_must (refine ev_store (cs' := #[.int .i64 0, .slice none 0 0, .int .i64 0, .int .i64 0]) rfl rfl rfl rfl rfl rfl HJ.out.1.1 HJ.out.1.2 rfl (hk3.blk (hk2.blk Hb4.out id) (by show ¬ g4 = g8; omega)) (Nat.le_of_ble_eq_true rfl) rfl ?_; intro w5 hbz hk5); (try simp only [Act.put, List.setIfInBounds_toArray, List.set_cons_zero, List.set_cons_succ])))
        have r0 := (blk_cell hbz 0).trans rfl
        have r1 := (blk_cell hbz 1).trans rfl
        have r2 := (blk_cell hbz 2).trans rfl
        have r3 := (blk_cell hbz 3).trans rfl
        refine bodyPost_ret (v := .tuple #[.agg #[.int .i64 0, .slice none 0 0, .int .i64 0, .int .i64 0], .int .i64 8]) (by rw [results_cell_tmp rfl]; go_simp; try rfl) rfl ?_
        rw [← HR2.out]
        exact ⟨.slice none 0 0, rfl, ((HK1.out.trans hk2 (fun _ _ h => h)).own hk3 (by have := HK1.out.size; omega)).own hk5 hg4, nil_ints _ _⟩
      | some kk =>
        have Hsm := Lib.hid (show (mlook es.toList q).isSome = true from hsm)
        obtain rfl : kk = k := hkd
        have HR2 := Lib.hid (show ((kk, 0) : KeptR × Int) = R from HR.out)
        clear hsm HR
        go_enter Tryd.func41, Tryd.ntmps41
        go_wp2_with (first
          | ((with_reducible refine at_dst (N := 4) rfl ?_); go_must (refine ev_alloc rfl rfl zero85 rfl ?_; intro g4 w1 hg4 hl4 hb4 hk1)
             have Hb4 := Lib.hid hb4
             have e0 := hk1.cell e0 id
             have e1 := hk1.cell e1 id
             have e2 := hk1.cell e2 id
             have e3 := hk1.cell e3 id
             have HK1 := Lib.hid hk1
             have Hrr := Lib.hid (Hr.out.keep (X' := X) hk1 (fun _ _ _ => id) (fun _ _ h => h))
             clear hb4
             (try simp only [Act.put, List.setIfInBounds_toArray, List.set_cons_zero, List.set_cons_succ]))
          | (go_at_call 38; go_must (refine (is_some _ _ _ _ _ _ _ (by assumption) (by assumption) hl).mono ?_; rintro e w' ⟨rfl, rfl⟩; rw [HEr.out]))
          | (go_at_call 37; go_must (refine (input_any _ _ E.rules X _ _ (by assumption) Hrr.out hq0 hq1 hl).mono ?_; rintro e w' ⟨rfl, rfl⟩; rw [HI.out.1, HI.out.2]))
          | ((with_reducible refine at_dst (N := 39) rfl ?_); go_must (refine ev_lookup_ok rfl rfl Tryd.underlying61 Tryd.underlying3 zero85 rfl rfl (HK1.out.blk Hmb.out id) Hkey.out ?_; rw [Hv.out, Hsm.out]); (try simp only [Act.put, List.setIfInBounds_toArray, List.set_cons_zero, List.set_cons_succ]))
          | ((with_reducible refine at_dst (N := 8) rfl ?_); go_must (refine ev_alloc rfl rfl zero85 rfl ?_; intro g8 w2 hg8 hl8 hb8 hk2); have Hb8 := Lib.hid hb8; clear hb8; (try simp only [Act.put, List.setIfInBounds_toArray, List.set_cons_zero, List.set_cons_succ]))
          | ((with_reducible refine at_store (t := 85) (p := 8) rfl ?_); go_must (refine ev_store (cs' := #[.int .i64 kk.value, .slice uA kk.asked.length uc, .int .i64 kk.checked, .int .i64 kk.changed]) rfl rfl rfl rfl rfl rfl HJ.out.1.1 HJ.out.1.2 rfl Hb8.out (Nat.le_of_ble_eq_true rfl) rfl ?_; intro w3 hb3 hk3)
             have f0 := (blk_cell hb3 0).trans rfl
             have f1 := (blk_cell hb3 1).trans rfl
             have f2 := (blk_cell hb3 2).trans rfl
             have f3 := (blk_cell hb3 3).trans rfl
             clear hb3
             (try simp only [Act.put, List.setIfInBounds_toArray, List.set_cons_zero, List.set_cons_succ]))
          | ((with_reducible refine at_store (t := 85) (p := 4) rfl ?_); go_must (refine ev_store (cs' := #[.int .i64 kk.value, .slice uA kk.asked.length uc, .int .i64 kk.checked, .int .i64 kk.changed]) rfl rfl rfl rfl rfl rfl HJ.out.1.1 HJ.out.1.2 rfl (hk3.blk (hk2.blk Hb4.out id) (by show ¬ g4 = g8; omega)) (Nat.le_of_ble_eq_true rfl) rfl ?_; intro w5 hbz hk5); (try simp only [Act.put, List.setIfInBounds_toArray, List.set_cons_zero, List.set_cons_succ])))
        have r0 := (blk_cell hbz 0).trans rfl
        have r1 := (blk_cell hbz 1).trans rfl
        have r2 := (blk_cell hbz 2).trans rfl
        have r3 := (blk_cell hbz 3).trans rfl
        refine bodyPost_ret (v := .tuple #[.agg #[.int .i64 kk.value, .slice uA kk.asked.length uc, .int .i64 kk.checked, .int .i64 kk.changed], .int .i64 0]) (by rw [results_cell_tmp rfl]; go_simp; try rfl) rfl ?_
        rw [← HR2.out]
        have hkz : Keeps Nob w w5 := ((HK1.out.trans hk2 (fun _ _ h => h)).own hk3 (by have := HK1.out.size; omega)).own hk5 hg4
        exact ⟨_, rfl, hkz, Hui.out.keep hkz (fun _ _ _ => id) (fun _ _ h => h)⟩
set_option maxHeartbeats 1000000 in
/-- ASKED. -/
theorem Asked_any (X : Nat → Prop) (eb ib mb : Nat) (E : Env) (ans : List (Option KeptR)) (q : Int) (w : World) (h : EngAt w X eb ib mb E ans) (hl : E.rules.length ≤ 200) (hal : (foundF E ans q).1.asked.length ≤ 1000000) :
    Calls Tryd.prog 20 #[.pointer (some ⟨eb, 0, none⟩), .int .i64 q] w fun e w' => ∃ v', e = .returned (.tuple #[v', .int .i64 (foundF E ans q).2]) ∧ Keeps Nob w w' ∧ IntsX w' (fun k => w.heap.size ≤ k ∧ k < w'.heap.size) v' (foundF E ans q).1.asked := by
  obtain ⟨i85, hi85, hs85⟩ := info85
  have HI := Lib.hid (And.intro hi85 hs85)
  have H := Lib.hid (Found_any X eb ib mb E ans q w h hl)
  generalize foundF E ans q = R at *
  obtain ⟨k, code⟩ := R
  simp only at hal ⊢
  clear h hi85 hs85
  go_enter Tryd.func20, Tryd.ntmps20
  go_wp2_with (first
    | (go_at_call 41; go_must (refine H.out.mono ?_; rintro e w1 ⟨u, rfl, hk1, hu⟩; obtain ⟨uA, uc, rfl, -, -⟩ := id hu); have Hu := Lib.hid hu; clear hu; (try simp only [Act.put, List.setIfInBounds_toArray, List.set_cons_zero, List.set_cons_succ]))
    | ((with_reducible refine at_dst (N := 6) rfl ?_); go_must (refine ev_alloc rfl rfl zero85 rfl ?_; intro g6 w2 hg6 hl6 hb6 hk2); have Hb6 := Lib.hid hb6; clear hb6; (try simp only [Act.put, List.setIfInBounds_toArray, List.set_cons_zero, List.set_cons_succ]))
    | ((with_reducible refine at_store (t := 85) rfl ?_); go_must (refine ev_store (cs' := #[.int .i64 k.value, .slice uA k.asked.length uc, .int .i64 k.checked, .int .i64 k.changed]) rfl rfl rfl rfl rfl rfl HI.out.1 HI.out.2 rfl Hb6.out (Nat.le_of_ble_eq_true rfl) rfl ?_; intro w3 hb3 hk3)
       have q1 := (blk_cell hb3 1).trans rfl
       have HK3 := Lib.hid (show Keeps Nob w1 w3 from hk2.own hk3 hg6)
       clear hb3
       (try simp only [Act.put, List.setIfInBounds_toArray, List.set_cons_zero, List.set_cons_succ]))
    | (go_at_call 42; go_must (refine (clone_any k.asked w3 X _ (Hu.out.keep HK3.out (fun _ _ _ => id) (fun _ _ h => h)) hal).mono ?_; rintro e w4 ⟨v', rfl, hk4, hv4⟩); have Hv4 := Lib.hid hv4; clear hv4; (try simp only [Act.put, List.setIfInBounds_toArray, List.set_cons_zero, List.set_cons_succ])))
  go_ret2
  have hz := hk1.size
  have hz3 := HK3.out.size
  exact ⟨v', rfl, (hk1.trans HK3.out (fun _ _ h => h)).trans hk4 (fun _ _ h => h), Hv4.out.keep (X' := fun k => w.heap.size ≤ k ∧ k < w4.heap.size) (Keeps.refl Nob w4) (fun _ _ _ => id) (fun b _ h => ⟨by have := h.1; omega, h.2⟩)⟩
set_option maxHeartbeats 1000000 in
/-- WHEN. -/
theorem When_any (X : Nat → Prop) (eb ib mb : Nat) (E : Env) (ans : List (Option KeptR)) (q : Int) (w : World) (h : EngAt w X eb ib mb E ans) (hl : E.rules.length ≤ 200) :
    Calls Tryd.prog 21 #[.pointer (some ⟨eb, 0, none⟩), .int .i64 q] w fun e w' => e = .returned (.tuple #[.int .i64 (foundF E ans q).1.checked, .int .i64 (foundF E ans q).1.changed, .int .i64 (foundF E ans q).2]) ∧ Keeps Nob w w' := by
  obtain ⟨i85, hi85, hs85⟩ := info85
  have HI := Lib.hid (And.intro hi85 hs85)
  have H := Lib.hid (Found_any X eb ib mb E ans q w h hl)
  generalize foundF E ans q = R at *
  obtain ⟨k, code⟩ := R
  simp only
  clear h hi85 hs85
  go_enter Tryd.func21, Tryd.ntmps21
  go_wp2_with (first
    | (go_at_call 41; go_must (refine H.out.mono ?_; rintro e w1 ⟨u, rfl, hk1, hu⟩; obtain ⟨uA, uc, rfl, -, -⟩ := id hu); clear hu; (try simp only [Act.put, List.setIfInBounds_toArray, List.set_cons_zero, List.set_cons_succ]))
    | ((with_reducible refine at_dst (N := 7) rfl ?_); go_must (refine ev_alloc rfl rfl zero85 rfl ?_; intro g7 w2 hg7 hl7 hb7 hk2); have Hb7 := Lib.hid hb7; clear hb7; (try simp only [Act.put, List.setIfInBounds_toArray, List.set_cons_zero, List.set_cons_succ]))
    | ((with_reducible refine at_store (t := 85) rfl ?_); go_must (refine ev_store (cs' := #[.int .i64 k.value, .slice uA k.asked.length uc, .int .i64 k.checked, .int .i64 k.changed]) rfl rfl rfl rfl rfl rfl HI.out.1 HI.out.2 rfl Hb7.out (Nat.le_of_ble_eq_true rfl) rfl ?_; intro w3 hb3 hk3); have q2 := (blk_cell hb3 2).trans rfl; have q3 := (blk_cell hb3 3).trans rfl; clear hb3; (try simp only [Act.put, List.setIfInBounds_toArray, List.set_cons_zero, List.set_cons_succ])))
  refine wp_region_perm [(0, true), (1, true), (2, true), (3, true), (4, true), (5, true), (6, true), (7, true)] (fun w' => w'.cell? ⟨g7, 2, none⟩ = some (.int .i64 k.checked) ∧ w'.cell? ⟨g7, 3, none⟩ = some (.int .i64 k.changed)) rfl (by kernel_rfl) (by kernel_rfl) (by decide) (fun c a d v w h => by cases d <;> exact h) ⟨q2, q3⟩ ?_
  refine perm_q (v := ?v1_0) (some 15) rfl rfl rfl ?q1_0 ?h1_0; (case q1_0 => (intro w' hS; obtain ⟨s1, s2⟩ := hS; first | (go_simp; done) | (go_simp; rfl))); (try simp only [Act.put, List.setIfInBounds_toArray, List.set_cons_zero, List.set_cons_succ])
  refine perm_q (v := ?v1_1) (some 16) rfl rfl rfl ?q1_1 ?h1_1; (case q1_1 => (intro w' hS; obtain ⟨s1, s2⟩ := hS; first | (go_simp; done) | (go_simp; rfl))); (try simp only [Act.put, List.setIfInBounds_toArray, List.set_cons_zero, List.set_cons_succ])
  refine perm_q (v := ?v1_2) (some 17) rfl rfl rfl ?q1_2 ?h1_2; (case q1_2 => (intro w' hS; obtain ⟨s1, s2⟩ := hS; first | (go_simp; done) | (go_simp; rfl))); (try simp only [Act.put, List.setIfInBounds_toArray, List.set_cons_zero, List.set_cons_succ])
  refine perm_q (v := ?v1_3) (some 18) rfl rfl rfl ?q1_3 ?h1_3; (case q1_3 => (intro w' hS; obtain ⟨s1, s2⟩ := hS; first | (go_simp; done) | (go_simp; rfl))); (try simp only [Act.put, List.setIfInBounds_toArray, List.set_cons_zero, List.set_cons_succ])
  refine perm_q (v := ?v1_4) (some 19) rfl rfl rfl ?q1_4 ?h1_4; (case q1_4 => (intro w' hS; obtain ⟨s1, s2⟩ := hS; first | (go_simp; done) | (go_simp; rfl))); (try simp only [Act.put, List.setIfInBounds_toArray, List.set_cons_zero, List.set_cons_succ])
  refine perm_q (v := ?v1_5) (some 4) rfl rfl rfl ?q1_5 ?h1_5; (case q1_5 => (intro w' hS; obtain ⟨s1, s2⟩ := hS; first | (go_simp; done) | (go_simp; rfl))); (try simp only [Act.put, List.setIfInBounds_toArray, List.set_cons_zero, List.set_cons_succ])
  refine perm_q (v := ?v1_6) (some 5) rfl rfl rfl ?q1_6 ?h1_6; (case q1_6 => (intro w' hS; obtain ⟨s1, s2⟩ := hS; first | (go_simp; done) | (go_simp; rfl))); (try simp only [Act.put, List.setIfInBounds_toArray, List.set_cons_zero, List.set_cons_succ])
  refine perm_q (v := ?v1_7) (some 6) rfl rfl rfl ?q1_7 ?h1_7; (case q1_7 => (intro w' hS; obtain ⟨s1, s2⟩ := hS; first | (go_simp; done) | (go_simp; rfl))); (try simp only [Act.put, List.setIfInBounds_toArray, List.set_cons_zero, List.set_cons_succ])
  refine perm_nil ?_
  go_wp2
  go_ret3
  exact ⟨rfl, ((hk1.trans hk2 (fun _ _ h => h)).own hk3 (by have := hk1.size; omega)).drew⟩
end Go.Proofs.QW

/-
  QueryOnly, in memory: the law returns true. Condition: rules and calls lie, and the table of kinds is as laid.
-/
namespace Go.Proofs.QW
open Go.RowKit Go.Proofs.KL Go.Proofs.QM
set_option maxRecDepth 100000
set_option linter.unusedSimpArgs false
set_option linter.unusedVariables false

/-- Whether a question shows a change since c. -/
def hit (E : Env) (ans : List (Option KeptR)) (c : Int) (a : Int) : Bool := decide ((foundF E ans a).2 = 0) && decide (c < (foundF E ans a).1.changed)
theorem only_hit {rs : List QRule} {n : Int} {E : Env} {ans : List (Option KeptR)} (h : SInv rs n (E, ans)) {q m : Int} (h1 : m ≤ 9223372036854775807) (he : (askR E ans q m).e = 0) :
    ∀ p ∈ (askR E ans q m).worked, InQ E p ∧ (!(keptVal E ans p).2 || ((foundF E ans p).1.asked).any (hit E (askR E ans q m).ans (foundF E ans p).1.checked)) = true := by
  obtain ⟨hin, h0, -⟩ := askR_cur h h1 he
  have hq0 : ∀ x, InQ E x → ¬ isErr E.rules.length x ≠ 0 := fun x hx => by unfold isErr; rw [if_neg (by have := hx.1; have := hx.2; omega)]; decide
  unfold askR at he ⊢
  rw [if_neg (hq0 q hin), if_neg (by omega)] at he ⊢
  obtain ⟨hist, hh⟩ := h.his
  have hE := h.env h0 h1
  have ho := askF_o hE (hist := hist) (E.rules.length + 1) [] (by simp [Env.bound]) ⟨ans, []⟩ q (h.pinv h0) (HInv.bound hh rfl) hin (fun p hp => by cases hp)
  have hh4 := (askF_h hE (hist := hist) (E.rules.length + 1) [] (by simp [Env.bound]) ⟨ans, []⟩ q (h.pinv h0) (HInv.bound hh rfl) hin (fun p hp => by cases hp)).2.2.2
  rcases ha : askF (Env.bound E m) (E.rules.length + 1) [] ⟨ans, []⟩ q with ⟨s1, r1⟩
  rw [ha] at ho hh4 he
  cases r1 with
  | error e =>
    have he : e = 0 := he
    rcases hh4 e rfl with h | ⟨h, _⟩ <;> omega
  | ok x =>
    obtain ⟨v, ch⟩ := x
    obtain ⟨l, hl, hx⟩ := (ho v ch rfl).new
    intro p hp
    have hl : s1.done = l := by rw [hl]; rfl
    have hp : p ∈ l := by rw [← hl]; exact hp
    obtain ⟨hpi, hpk, -, hev⟩ := hx p hp
    have hpi : InQ E p := hpi
    have hpk : ¬ (E.rule p).kind = 1 := hpk
    refine ⟨hpi, ?_⟩
    rcases hev with hev | ⟨k, hev, a, ham, hai, v2, ch2, hc, hlt⟩
    · have hev : ans.getD p.toNat none = none := hev
      have hkv : keptVal E ans p = (0, false) := by unfold keptVal; rw [if_neg (hq0 p hpi), if_neg hpk, hev]
      rw [hkv]; rfl
    · have hev : ans.getD p.toNat none = some k := hev
      have hkv : keptVal E ans p = (k.value, true) := by unfold keptVal; rw [if_neg (hq0 p hpi), if_neg hpk, hev]
      have hfo : foundF E ans p = (k, 0) := by unfold foundF; rw [if_neg (hq0 p hpi), if_neg hpk, hev]
      rw [hkv, hfo]
      simp only [Bool.not_true, Bool.false_or]
      rw [List.any_eq_true]
      refine ⟨a, ham, ?_⟩
      have hai : InQ E a := hai
      unfold hit
      have hfa : foundF E s1.ans a = (⟨(foundF E s1.ans a).1.value, (foundF E s1.ans a).1.asked, (foundF E s1.ans a).1.checked, ch2⟩, 0) := by
        unfold foundF
        rw [if_neg (hq0 a hai)]
        rcases hc with ⟨hk, _, hch⟩ | ⟨hk, kk, hg, _, _, hch⟩
        · rw [if_pos (show (E.rule a).kind = 1 from hk), hch]; rfl
        · rw [if_neg (show ¬ (E.rule a).kind = 1 from hk)]
          have hg : s1.ans.getD a.toNat none = some kk := hg
          rw [hg, ← hch]
      rw [hfa]
      simp [hlt]
def Z45 : Value := .agg #[.bool false, .slice none 0 0, .int .i64 0]
theorem info45b : (Tryd.prog.info? 45).map (fun i => (i.zero, i.size, i.bytes)) = some (some Z45, 3, 40) := by kernel_rfl
theorem made45_size (n : Nat) : (madeCells Z45.cells (n * 3)).size = n * 3 := by
  simp [madeCells]
/-- What was kept of a question before. -/
def BRow (E : Env) (ans : List (Option KeptR)) (lo gb : Nat) (w : World) (cs : Array Value) (i : Nat) : Prop :=
  cs[i * 3]? = some (.bool (keptVal E ans i).2) ∧ (∃ u, cs[i * 3 + 1]? = some u ∧ IntsX w (fun b => lo ≤ b ∧ b ≠ gb) u (foundF E ans i).1.asked) ∧ cs[i * 3 + 2]? = some (.int .i64 (foundF E ans i).1.checked)
theorem BRow.keep {E : Env} {ans : List (Option KeptR)} {lo gb : Nat} {w w' : World} {cs cs' : Array Value} {i : Nat} {M : Nat → Prop} (h : BRow E ans lo gb w cs i) (hk : Keeps M w w') (hM : ∀ b, b < w.heap.size → M b → b = gb ∨ b < lo) (hc : ∀ j, j < 3 → cs'[i * 3 + j]? = cs[i * 3 + j]?) : BRow E ans lo gb w' cs' i := by
  obtain ⟨h1, ⟨u, h2, h3⟩, h4⟩ := h
  exact ⟨(hc 0 (by omega)).trans h1, ⟨u, (hc 1 (by omega)).trans h2, h3.keep hk (fun b hb hx hm => (hM b hb hm).elim hx.2 (fun h => by have := hx.1; omega)) (fun _ _ h => h)⟩, (hc 2 (by omega)).trans h4⟩
set_option maxHeartbeats 40000000 in
/-- QUERYONLY. -/
theorem QueryOnly_any (rs : List QRule) (acts : List ActR) (q : Int) (w : World) (X Y : Nat → Prop) (rv av : Value) (hr : RulesX w X rv rs) (ha : ActsX w Y av acts) (ht : Tab w) :
    Calls Tryd.prog 6 #[rv, av, .int .i64 q] w fun e w' => e = .returned (.bool true) ∧ Keeps Nob w w' := by
  have HC := Lib.hid (cut_any rs w X rv hr)
  have HT := Lib.hid ht
  have HT0 := Lib.hid (show 0 < w.heap.size from World.block_lt_of_cell? _ _ (ht 1 (by omega) (by omega)).1)
  have HA := Lib.hid ha
  have Hvm := Lib.hid ha.vmax
  obtain ⟨rA, rc, rfl, -, -⟩ := id hr
  obtain ⟨aA, ac, rfl, -, -⟩ := id ha
  have hpn : ∀ (n : Nat) (w : World), (binOp .eql 35 (.pointer (some ⟨n, 0, none⟩)) (.pointer none)).run Tryd.prog w = .ok (.bool false) w := fun _ _ => by kernel_rfl
  have hp0 : ∀ (w : World), (binOp .eql 35 (.pointer none) (.pointer none)).run Tryd.prog w = .ok (.bool true) w := fun _ => by kernel_rfl
  generalize cutM rs = own at *
  clear hr ha ht
  by_cases hc : (check own).2 = 0
  · have Hc := Lib.hid hc
    have hinv := playedTo_inv hc Hvm.out 60 (by decide)
    obtain ⟨E, ans, hS⟩ : ∃ E ans, playedF own acts = (E, ans) := ⟨_, _, rfl⟩
    have HS := Lib.hid hS
    rw [show playedTo own acts 60 = (E, ans) from hS] at hinv
    have Hinv := Lib.hid hinv
    have Hinv2 := Lib.hid (hinv.ask q 1073741824 (by decide))
    have hon := only_hit hinv (q := q) (m := 1073741824) (by decide)
    have hlenw : (askR E ans q 1073741824).worked.length ≤ 200 := by
      unfold askR
      split
      · simp
      split
      · simp
      · rename_i hq hm
        have h1 := (askF_good (hinv.env (m := 1073741824) (by decide) (by decide)) (E.rules.length + 1) [] ⟨ans, []⟩ q (hinv.pinv (by decide)) (isErr_in hq)).1.inv.dlen
        have h2 : E.rules.length ≤ 200 := hinv.ok.len
        have h3 : (askF (Env.bound E 1073741824) (E.rules.length + 1) [] ⟨ans, []⟩ q).1.done.length ≤ E.rules.length := h1
        exact Nat.le_trans h3 h2
    have hal : ∀ p, (foundF E ans p).1.asked.length ≤ 12 := fun p => by
      unfold foundF
      split
      · decide
      rename_i hp
      split
      · exact Nat.zero_le _
      · split
        · decide
        · rename_i k hk
          exact (hinv.inv.kok p k (isErr_in hp) hk).alen
    have hEr : E.rules = own := hinv.rules
    have hrl : E.rules.length = own.length := by rw [hEr]
    obtain ⟨h200, -⟩ := check_ok hc
    obtain ⟨R, hR⟩ : ∃ R, askR E ans q 1073741824 = R := ⟨_, rfl⟩
    rw [hR] at hon hlenw
    obtain ⟨Ra, Rw, Rv, Re⟩ := R
    simp only at hon hlenw
    have Hon := Lib.hid hon
    have HR := Lib.hid hR
    have Hal := Lib.hid hal
    have Hrl := Lib.hid hrl
    have HEr := Lib.hid hEr
    obtain ⟨i4, hi4, hs4⟩ := infoS4
    obtain ⟨i23, hi23, hs23⟩ := info23
    obtain ⟨i3, hi3, hs3⟩ := infoS3
    have HJ := Lib.hid (And.intro (And.intro hi4 hs4) (And.intro (And.intro hi23 hs23) (And.intro hi3 hs3)))
    clear hc hS hinv hon hR hal hrl hEr hi4 hs4 hi23 hs23 hi3 hs3
    go_enter Tryd.func6, Tryd.ntmps6
    go_wp2_with (first
      | (go_at_call 10; go_must (refine HC.out.mono ?_; rintro e w1 ⟨ov, rfl, hk1, hr1⟩; obtain ⟨oA, oc, rfl, _, _⟩ := id hr1)
         have HK1 := Lib.hid hk1
         have Hr1 := Lib.hid hr1
         have Ha1 := Lib.hid (HA.out.keep (X' := Y) hk1 (fun _ _ _ => id) (fun _ _ h => h))
         clear hk1 hr1
         (try simp only [Act.put, List.setIfInBounds_toArray, List.set_cons_zero, List.set_cons_succ]))
      | (go_at_call 16; go_must (refine (played_any own acts w1 _ _ _ _ Hr1.out Ha1.out (fun _ => HT.out.keep HK1.out id)).mono ?_; rintro e w2 ⟨hk2, -, hx2⟩; obtain ⟨eb, ib, mb, Xe, rfl, he2, hxe2, be1, be2, be3⟩ := hx2 Hc.out)
         have HK2 := Lib.hid (HK1.out.trans hk2 (fun _ _ h => h))
         have Hr2 := Lib.hid (Hr1.out.keep (X' := fun k => w.heap.size ≤ k ∧ k < w1.heap.size) hk2 (fun _ _ _ => id) (fun _ _ h => h))
         rw [HS.out] at he2
         have He2 := Lib.hid he2
         have Hbe := Lib.hid (show (w1.heap.size ≤ eb ∧ w1.heap.size ≤ ib ∧ w1.heap.size ≤ mb) ∧ (∀ k, Xe k → w1.heap.size ≤ k ∧ k < w2.heap.size) from ⟨⟨be1, be2, be3⟩, hxe2⟩)
         clear hk2 hx2 he2 hxe2 be1 be2 be3
         (try simp only [Act.put, List.setIfInBounds_toArray, List.set_cons_zero, List.set_cons_succ]))
      | ((with_reducible refine at_dst (N := 32) rfl ?_); go_must (refine ev_makeSlice rfl rfl own.length rfl rfl Tryd.underlying41 info45b rfl (by decide) (by omega) (by omega) ?_; intro gb w3 hgb hlb hbb hkb)
         have Hbb := Lib.hid hbb
         have Hkb := Lib.hid hkb
         have Hgb := Lib.hid (show w2.heap.size ≤ gb ∧ gb < w3.heap.size from ⟨hgb, hlb⟩)
         clear hbb hkb hgb hlb
         (try simp only [Act.put, List.setIfInBounds_toArray, List.set_cons_zero, List.set_cons_succ]))
    )
    go_loopw [35] (fun v wr => ∃ (k : Nat) (cs : Array Value), v = .int .i64 k ∧ k ≤ own.length ∧ Hid (Keeps Nob w2 wr) ∧ Hid (wr.heap[gb]? = some (.cells cs 45 (0, 0))) ∧ Hid (cs.size = own.length * 3) ∧ Hid (∀ i, i < k → BRow E ans w2.heap.size gb wr cs i))
      (fun v _ => own.length - (intOf v).toNat)
    case atStart => exact ⟨0, _, rfl, Nat.zero_le _, Hkb, Hbb, Lib.hid (made45_size _), Lib.hid (fun i hi => absurd hi (by omega))⟩
    case round =>
      obtain ⟨k, cs, rfl, hk, hkeep, hblk, hsz, hrows⟩ := hrel
      by_cases hlt : k < own.length
      · have ho1 : k * 3 + 2 < cs.size := by rw [hsz.out]; omega
        have Ho1 := Lib.hid ho1
        have HEw := Lib.hid (He2.out.after hkeep.out)
        have hgl := Lib.hid (blk_lt hblk.out)
        clear ho1
        obtain ⟨fk, fe, hfo⟩ : ∃ a b, foundF E ans (k : Int) = (a, b) := ⟨_, _, rfl⟩
        obtain ⟨kvv, kvb, hkv⟩ : ∃ a b, keptVal E ans (k : Int) = (a, b) := ⟨_, _, rfl⟩
        have hfl := Hal.out k
        rw [hfo] at hfl
        simp only at hfl
        have Hfo := Lib.hid hfo
        have Hkv := Lib.hid hkv
        clear hfo hkv
        go_wp2_with (first
          | (go_at_call 19
             have hrun := Kept_any Xe eb ib mb E ans k wr HEw.out (by rw [Hrl.out]; exact h200)
             rw [Hkv.out] at hrun
             go_must (refine hrun.mono ?_; rintro e wa ⟨rfl, hka⟩)
             have HKa := Lib.hid hka
             have Hba := Lib.hid (hka.blk hblk.out id)
             clear hrun hka
             (try simp only [Act.put, List.setIfInBounds_toArray, List.set_cons_zero, List.set_cons_succ]))
          | ((with_reducible refine at_store (t := 4) rfl ?_)
             go_must (refine ev_store (x := .bool kvb) (vs := [.bool kvb]) (off := k * 3) (cs' := splice cs (k * 3) (.bool kvb)) rfl rfl rfl rfl rfl rfl HJ.out.1.1 HJ.out.1.2 rfl Hba.out (by have := Ho1.out; show k * 3 + 1 ≤ cs.size; omega) rfl ?_; intro wb hbb1 hkb1)
             go_must (have HKb := Lib.hid ((hkeep.out.trans HKa.out (fun _ _ h => h)).own hkb1 Hgb.out.1))
             go_must (have HGb := Lib.hid ((HKa.out.mono (M' := (· = gb)) (fun _ _ h => h.elim)).into hkb1 rfl))
             have Hbb1 := Lib.hid hbb1
             go_must (have Hs1 := Lib.hid (splice_size (cs := cs) (off := k * 3) (v := .bool kvb) (by have := Ho1.out; omega)))
             clear hbb1 hkb1
             (try simp only [Act.put, List.setIfInBounds_toArray, List.set_cons_zero, List.set_cons_succ]))
          | (go_at_call 20
             have hrun := Asked_any Xe eb ib mb E ans k wb (He2.out.after HKb.out) (by rw [Hrl.out]; exact h200) (by rw [Hfo.out]; simp only; omega)
             rw [Hfo.out] at hrun
             go_must (refine hrun.mono ?_; rintro e wc ⟨uv, rfl, hkc, huv⟩; obtain ⟨uA, uc, rfl, -, -⟩ := id huv)
             have HKc := Lib.hid (HKb.out.trans hkc (fun _ _ h => h))
             have HGc := Lib.hid (HGb.out.then hkc)
             have Hbc := Lib.hid (hkc.blk Hbb1.out id)
             have Huc := Lib.hid (huv.keep (X' := fun b => w2.heap.size ≤ b ∧ b ≠ gb) (Keeps.refl Nob wc) (fun _ _ _ => id) (fun b _ hx => by have h1 := hx.1; have h2 := blk_lt Hbb1.out; have h3 := HKb.out.size; exact ⟨by omega, fun e => by omega⟩))
             clear hrun hkc huv
             (try simp only [Act.put, List.setIfInBounds_toArray, List.set_cons_zero, List.set_cons_succ]))
          | ((with_reducible refine at_store (t := 23) rfl ?_)
             go_must (refine ev_store (x := .slice uA fk.asked.length uc) (vs := [.slice uA fk.asked.length uc]) (off := k * 3 + 1) (cs' := splice (splice cs (k * 3) (.bool kvb)) (k * 3 + 1) (.slice uA fk.asked.length uc)) rfl rfl rfl rfl rfl rfl HJ.out.2.1.1 HJ.out.2.1.2 rfl Hbc.out (by have := Ho1.out; have := Hs1.out; show k * 3 + 1 + 1 ≤ (splice cs (k * 3) (.bool kvb)).size; omega) rfl ?_; intro wd hbd1 hkd1)
             go_must (have HKd := Lib.hid (HKc.out.own hkd1 Hgb.out.1))
             go_must (have HGd := Lib.hid (HGc.out.into hkd1 rfl))
             have Hbd1 := Lib.hid hbd1
             go_must (have Hud := Lib.hid (Huc.out.keep (X' := fun b => w2.heap.size ≤ b ∧ b ≠ gb) hkd1 (fun b _ hx e => hx.2 e) (fun _ _ h => h)))
             go_must (have Hs2 := Lib.hid (splice_size (cs := splice cs (k * 3) (.bool kvb)) (off := k * 3 + 1) (v := .slice uA fk.asked.length uc) (by have := Ho1.out; have := Hs1.out; omega)))
             clear hbd1 hkd1
             (try simp only [Act.put, List.setIfInBounds_toArray, List.set_cons_zero, List.set_cons_succ]))
          | (go_at_call 21
             have hrun := When_any Xe eb ib mb E ans k wd (He2.out.after HKd.out) (by rw [Hrl.out]; exact h200)
             rw [Hfo.out] at hrun
             go_must (refine hrun.mono ?_; rintro e we ⟨rfl, hke⟩)
             have HKe := Lib.hid (HKd.out.trans hke (fun _ _ h => h))
             have HGe := Lib.hid (HGd.out.then hke)
             have Hbe1 := Lib.hid (hke.blk Hbd1.out id)
             have Hue := Lib.hid (Hud.out.keep (X' := fun b => w2.heap.size ≤ b ∧ b ≠ gb) hke (fun _ _ _ => id) (fun _ _ h => h))
             clear hrun hke
             (try simp only [Act.put, List.setIfInBounds_toArray, List.set_cons_zero, List.set_cons_succ]))
          | ((with_reducible refine at_store (t := 3) rfl ?_)
             go_must (refine ev_store (x := .int .i64 fk.checked) (vs := [.int .i64 fk.checked]) (off := k * 3 + 2) (cs' := splice (splice (splice cs (k * 3) (.bool kvb)) (k * 3 + 1) (.slice uA fk.asked.length uc)) (k * 3 + 2) (.int .i64 fk.checked)) rfl rfl rfl rfl rfl rfl HJ.out.2.2.1 HJ.out.2.2.2 rfl Hbe1.out (by have := Ho1.out; have := Hs1.out; have := Hs2.out; show k * 3 + 2 + 1 ≤ (splice (splice cs (k * 3) (.bool kvb)) (k * 3 + 1) (.slice uA fk.asked.length uc)).size; omega) rfl ?_; intro wf hbf1 hkf1)
             (try simp only [Act.put, List.setIfInBounds_toArray, List.set_cons_zero, List.set_cons_succ]))
        )
        have h1 := Ho1.out
        have h2 := Hs1.out
        have h3 := Hs2.out
        have hget : ∀ j, (splice (splice (splice cs (k * 3) (.bool kvb)) (k * 3 + 1) (.slice uA fk.asked.length uc)) (k * 3 + 2) (.int .i64 fk.checked))[j]? = if j = k * 3 + 2 then some (.int .i64 fk.checked) else if j = k * 3 + 1 then some (.slice uA fk.asked.length uc) else if j = k * 3 then some (.bool kvb) else cs[j]? := fun j => by
          rw [splice_get (by omega), splice_get (by omega), splice_get (by omega)]
        refine ⟨⟨k + 1, _, by go_num, by omega, Lib.hid (HKe.out.own hkf1 Hgb.out.1), Lib.hid hbf1, Lib.hid ?_, Lib.hid (fun i hi => ?_)⟩, by simp [intOf]; omega⟩
        · rw [splice_size (by omega), h3, h2, hsz.out]
        · by_cases e : i = k
          · subst e
            refine ⟨?_, ⟨.slice uA fk.asked.length uc, ?_, ?_⟩, ?_⟩
            · rw [hget, if_neg (by omega), if_neg (by omega), if_pos rfl, Hkv.out]
            · rw [hget, if_neg (by omega), if_pos rfl]
            · rw [Hfo.out]
              exact Hue.out.keep hkf1 (fun b _ hx e => hx.2 e) (fun _ _ h => h)
            · rw [hget, if_pos rfl, Hfo.out]
          · exact (hrows.out i (by omega)).keep (HGe.out.into hkf1 rfl) (fun b _ h => .inl h) (fun j hj => by rw [hget, if_neg (by omega), if_neg (by omega), if_neg (by omega)])
      · obtain rfl : k = own.length := by omega
        have HKw := Lib.hid (HK2.out.trans hkeep.out (fun _ _ h => h))
        by_cases hRe : Re = 0
        · have Hon2 := Lib.hid (Hon.out hRe)
          have hre : (Re != 0) = false := by simp [hRe]
          clear hRe
          go_wp2_with (first
            | (go_at_call 18
               have hask := AskR_any Hinv.out wr Xe eb ib mb q 1073741824 (by decide) (He2.out.after hkeep.out) (fun b hb => Nat.lt_of_lt_of_le (Hbe.out.2 b hb).2 hkeep.out.size)
               rw [HR.out] at hask
               go_must (refine hask.mono ?_; rintro e w5 ⟨X5, wl5, rfl, hx5, hxl5, hk5, he5, hw5, -⟩; obtain ⟨wA, wc, rfl⟩ := own_slice hw5)
               have hmb := He2.out.lts.2.2
               go_must (have HK5 := Lib.hid (HKw.out.trans hk5 (fun i hi e => by have h1 := Hbe.out.1.2.2; have h2 := HK1.out.size; omega)))
               have He5 := Lib.hid he5
               have Hw5 := Lib.hid (IntsX.own (xs := Rw) hw5 (fun _ => True) (fun _ _ => trivial))
               go_must (have Hblk5 := Lib.hid (hk5.blk hblk.out (by have h1 := Hgb.out; show ¬ gb = mb; omega)))
               go_must (have Hrows5 := Lib.hid (fun i (hi : i < own.length) => (hrows.out i hi).keep (cs' := cs) hk5 (fun b _ h => .inr (by rw [h]; exact hmb)) (fun _ _ => rfl)))
               clear hask hk5 hw5 he5 hxl5 hx5 hmb
               (try simp only [Act.put, List.setIfInBounds_toArray, List.set_cons_zero, List.set_cons_succ]))
          )
          go_loopw [82] (fun v wr5 => ∃ j : Nat, v = .int .i64 j ∧ j ≤ Rw.length ∧ Hid (Keeps Nob w5 wr5)) (fun v _ => Rw.length - (intOf v).toNat)
          case atStart => exact ⟨0, rfl, Nat.zero_le _, Lib.hid (Keeps.refl _ _)⟩
          case round =>
            obtain ⟨j, rfl, hj, hkj⟩ := hrel
            by_cases hjl : j < Rw.length
            · have hpm : Rw.getD j 0 ∈ Rw := getD_mem hjl
              obtain ⟨hpi, hchg⟩ := Hon2.out _ hpm
              have hx := Hw5.out.keep (X' := fun _ => True) hkj.out (fun _ _ _ => id) (fun _ _ h => h)
              have hsp : ∃ b o, wA = some ⟨b, o, none⟩ := by
                obtain ⟨A', c', h1, _, h3⟩ := hx
                injection h1 with h1 _ _
                subst h1
                obtain ⟨b, o, h, _⟩ := h3 j hjl
                exact ⟨b, o, h⟩
              obtain ⟨b, o, rfl⟩ := hsp
              have cj := hx.cellAt (k := j) hjl
              generalize Rw.getD j 0 = p at *
              obtain ⟨pi, rfl⟩ := Int.eq_ofNat_of_zero_le hpi.1
              have hpl : pi < own.length := by have h1 := hpi.2; have h2 := Hrl.out; omega
              obtain ⟨r0, ⟨u, r1, ru⟩, r2⟩ := Hrows5.out pi hpl
              have hblk6 := hkj.out.blk Hblk5.out id
              have r0 := (blk_cell hblk6 (pi * 3)).trans r0
              have r1 := (blk_cell hblk6 (pi * 3 + 1)).trans r1
              have r2 := (blk_cell hblk6 (pi * 3 + 2)).trans r2
              have ru := ru.keep (X' := fun _ => True) hkj.out (fun _ _ _ => id) (fun _ _ _ => trivial)
              obtain ⟨fk, fe, hfo⟩ : ∃ a b, foundF E ans (pi : Int) = (a, b) := ⟨_, _, rfl⟩
              obtain ⟨kvv, kvb, hkv⟩ : ∃ a b, keptVal E ans (pi : Int) = (a, b) := ⟨_, _, rfl⟩
              have hfl := Hal.out pi
              rw [hfo] at hchg r2 ru hfl
              rw [hkv] at hchg r0
              simp only at hchg r0 r2 ru hfl
              obtain ⟨uA, uc, rfl, -, -⟩ := id ru
              have Hru := Lib.hid ru
              have Hchg := Lib.hid hchg
              have Hwj := Lib.hid hkj.out
              have Hr2 := Lib.hid r2
              clear hfo hkv hx hblk6 hchg ru hpm hpi
              go_wp2_with fail
              go_loopw [16, 106] (fun cv v wr6 => ∃ (m : Nat) (c : Bool), v = .int .i64 m ∧ m ≤ fk.asked.length ∧ cv = .bool c ∧ Hid (c = (!kvb || (fk.asked.take m).any (hit E Ra fk.checked))) ∧ Hid (Keeps Nob wr wr6)) (fun _ v _ => fk.asked.length - (intOf v).toNat)
              case atStart => exact ⟨0, !kvb, rfl, Nat.zero_le _, rfl, Lib.hid (by simp), Lib.hid (Keeps.refl _ _)⟩
              case round =>
                obtain ⟨m, c, rfl, hm, rfl, hc, hkm⟩ := hrel
                by_cases hml : m < fk.asked.length
                · have hru2 := Hru.out.keep (X' := fun _ => True) hkm.out (fun _ _ _ => id) (fun _ _ h => h)
                  have hsp2 : ∃ b o, uA = some ⟨b, o, none⟩ := by
                    obtain ⟨A', c', h1, _, h3⟩ := hru2
                    injection h1 with h1 _ _
                    subst h1
                    obtain ⟨b, o, h, _⟩ := h3 m hml
                    exact ⟨b, o, h⟩
                  obtain ⟨b2, o2, rfl⟩ := hsp2
                  have ca := hru2.cellAt (k := m) hml
                  have htk := List.take_succ_eq_append_getElem hml
                  have hga : fk.asked.getD m 0 = fk.asked[m] := by rw [List.getD_eq_getElem?_getD, List.getElem?_eq_getElem hml]; rfl
                  rw [← hga] at htk
                  generalize fk.asked.getD m 0 = a at *
                  have hnext : (!kvb || (fk.asked.take (m + 1)).any (hit E Ra fk.checked)) = (c || hit E Ra fk.checked a) := by
                    rw [htk, List.any_append, hc.out]; simp [Bool.or_assoc]
                  obtain ⟨gk, ge, hgo⟩ : ∃ x y, foundF E Ra a = (x, y) := ⟨_, _, rfl⟩
                  have hhit : hit E Ra fk.checked a = (decide (ge = 0) && decide (fk.checked < gk.changed)) := by unfold hit; rw [hgo]
                  rw [hhit] at hnext
                  have Hnext := Lib.hid hnext
                  have Hgo := Lib.hid hgo
                  have HKm := Lib.hid (Hwj.out.trans hkm.out (fun _ _ h => h))
                  have e2 := hkm.out.cell Hr2.out id
                  clear hru2 htk hga hnext hhit hgo
                  cases c with
                  | true =>
                    have Hn2 := Lib.hid (show true = (!kvb || (fk.asked.take (m + 1)).any (hit E Ra fk.checked)) by rw [Hnext.out]; rfl)
                    go_wp2_with (first
                      | (go_at_call 21
                         have hrun := When_any X5 eb ib mb E Ra a wr (He5.out.after HKm.out) (by rw [Hrl.out]; exact h200)
                         rw [Hgo.out] at hrun
                         go_must (refine hrun.mono ?_; rintro e wq ⟨rfl, hkq⟩)
                         have e2 := hkq.cell e2 id
                         clear hrun
                         (try simp only [Act.put, List.setIfInBounds_toArray, List.set_cons_zero, List.set_cons_succ]))
                    )
                    exact ⟨⟨m + 1, true, by go_num, by omega, rfl, Hn2, Lib.hid (hkm.out.trans hkq (fun _ _ h => h))⟩, by simp [intOf]; omega⟩
                  | false =>
                    by_cases hge : ge = 0
                    · have hgeb : (ge == 0) = true := by simp [hge]
                      by_cases hck : fk.checked < gk.changed
                      · have Hn2 := Lib.hid (show true = (!kvb || (fk.asked.take (m + 1)).any (hit E Ra fk.checked)) by rw [Hnext.out, decide_eq_true hge, decide_eq_true hck]; rfl)
                        clear hge
                        go_wp2_with (first
                          | (go_at_call 21
                             have hrun := When_any X5 eb ib mb E Ra a wr (He5.out.after HKm.out) (by rw [Hrl.out]; exact h200)
                             rw [Hgo.out] at hrun
                             go_must (refine hrun.mono ?_; rintro e wq ⟨rfl, hkq⟩)
                             have e2 := hkq.cell e2 id
                             clear hrun
                             (try simp only [Act.put, List.setIfInBounds_toArray, List.set_cons_zero, List.set_cons_succ]))
                        )
                        exact ⟨⟨m + 1, true, by go_num, by omega, rfl, Hn2, Lib.hid (hkm.out.trans hkq (fun _ _ h => h))⟩, by simp [intOf]; omega⟩
                      · have Hn2 := Lib.hid (show false = (!kvb || (fk.asked.take (m + 1)).any (hit E Ra fk.checked)) by rw [Hnext.out, decide_eq_true hge, decide_eq_false hck]; rfl)
                        clear hge
                        go_wp2_with (first
                          | (go_at_call 21
                             have hrun := When_any X5 eb ib mb E Ra a wr (He5.out.after HKm.out) (by rw [Hrl.out]; exact h200)
                             rw [Hgo.out] at hrun
                             go_must (refine hrun.mono ?_; rintro e wq ⟨rfl, hkq⟩)
                             have e2 := hkq.cell e2 id
                             clear hrun
                             (try simp only [Act.put, List.setIfInBounds_toArray, List.set_cons_zero, List.set_cons_succ]))
                        )
                        exact ⟨⟨m + 1, false, by go_num, by omega, rfl, Hn2, Lib.hid (hkm.out.trans hkq (fun _ _ h => h))⟩, by simp [intOf]; omega⟩
                    · have hgeb : (ge == 0) = false := by simpa using hge
                      have Hn2 := Lib.hid (show false = (!kvb || (fk.asked.take (m + 1)).any (hit E Ra fk.checked)) by rw [Hnext.out, decide_eq_false hge]; rfl)
                      clear hge
                      go_wp2_with (first
                        | (go_at_call 21
                           have hrun := When_any X5 eb ib mb E Ra a wr (He5.out.after HKm.out) (by rw [Hrl.out]; exact h200)
                           rw [Hgo.out] at hrun
                           go_must (refine hrun.mono ?_; rintro e wq ⟨rfl, hkq⟩)
                           have e2 := hkq.cell e2 id
                           clear hrun
                           (try simp only [Act.put, List.setIfInBounds_toArray, List.set_cons_zero, List.set_cons_succ]))
                      )
                      exact ⟨⟨m + 1, false, by go_num, by omega, rfl, Hn2, Lib.hid (hkm.out.trans hkq (fun _ _ h => h))⟩, by simp [intOf]; omega⟩
                · obtain rfl : m = fk.asked.length := by omega
                  have hct : c = true := by rw [hc.out, List.take_of_length_le (Nat.le_refl _)]; exact Hchg.out
                  subst hct
                  have HKend := Lib.hid (Hwj.out.trans hkm.out (fun _ _ h => h))
                  go_wp2
                  exact ⟨⟨j + 1, by go_num, by omega, HKend⟩, by simp [intOf]; omega⟩
            · obtain rfl : j = Rw.length := by omega
              have HK6 := Lib.hid (HK5.out.trans hkj.out (fun _ _ h => h))
              go_wp2_with (first
                | (go_at_call 14; go_must (refine (alive_any wr (HT.out.keep HK6.out id)).mono ?_; rintro e w9 ⟨rfl, hk9⟩); (try simp only [Act.put, List.setIfInBounds_toArray, List.set_cons_zero, List.set_cons_succ]))
              )
              go_ret
              exact ⟨rfl, HK6.out.trans hk9 (fun _ _ h => h)⟩
        · have hre : (Re != 0) = true := by simpa using hRe
          clear hRe
          go_wp2_with (first
            | (go_at_call 18
               have hask := AskR_any Hinv.out wr Xe eb ib mb q 1073741824 (by decide) (He2.out.after hkeep.out) (fun b hb => Nat.lt_of_lt_of_le (Hbe.out.2 b hb).2 hkeep.out.size)
               rw [HR.out] at hask
               go_must (refine hask.mono ?_; rintro e w5 ⟨X5, wl5, rfl, hx5, hxl5, hk5, he5, hw5, -⟩; obtain ⟨wA, wc, rfl⟩ := own_slice hw5)
               have hmb := He2.out.lts.2.2
               go_must (have HK5 := Lib.hid (HKw.out.trans hk5 (fun i hi e => by have h1 := Hbe.out.1.2.2; have h2 := HK1.out.size; omega)))
               have He5 := Lib.hid he5
               have Hw5 := Lib.hid (IntsX.own (xs := Rw) hw5 (fun _ => True) (fun _ _ => trivial))
               go_must (have Hblk5 := Lib.hid (hk5.blk hblk.out (by have h1 := Hgb.out; show ¬ gb = mb; omega)))
               go_must (have Hrows5 := Lib.hid (fun i (hi : i < own.length) => (hrows.out i hi).keep (cs' := cs) hk5 (fun b _ h => .inr (by rw [h]; exact hmb)) (fun _ _ => rfl)))
               clear hask hk5 hw5 he5 hxl5 hx5 hmb
               (try simp only [Act.put, List.setIfInBounds_toArray, List.set_cons_zero, List.set_cons_succ]))
            | (go_at_call 14; go_must (refine (alive_any w5 (HT.out.keep HK5.out id)).mono ?_; rintro e w9 ⟨rfl, hk9⟩); (try simp only [Act.put, List.setIfInBounds_toArray, List.set_cons_zero, List.set_cons_succ]))
          )
          go_ret
          exact ⟨rfl, HK5.out.trans hk9 (fun _ _ h => h)⟩
  · have Hc := Lib.hid hc
    clear hc
    go_enter Tryd.func6, Tryd.ntmps6
    go_wp2_with (first
      | (go_at_call 10; go_must (refine HC.out.mono ?_; rintro e w1 ⟨ov, rfl, hk1, hr1⟩; obtain ⟨oA, oc, rfl, _, _⟩ := id hr1)
         have HK1 := Lib.hid hk1
         have Hr1 := Lib.hid hr1
         have Ha1 := Lib.hid (HA.out.keep (X' := Y) hk1 (fun _ _ _ => id) (fun _ _ h => h))
         clear hk1 hr1
         (try simp only [Act.put, List.setIfInBounds_toArray, List.set_cons_zero, List.set_cons_succ]))
      | (go_at_call 16; go_must (refine (played_any own acts w1 _ _ _ _ Hr1.out Ha1.out (fun _ => HT.out.keep HK1.out id)).mono ?_; rintro e w2 ⟨hk2, hx2, -⟩; obtain rfl := hx2 Hc.out)
         have HK2 := Lib.hid (HK1.out.trans hk2 (fun _ _ h => h))
         clear hk2 hx2
         (try simp only [Act.put, List.setIfInBounds_toArray, List.set_cons_zero, List.set_cons_succ]))
      | (go_at_call 14; go_must (refine (alive_any w2 (HT.out.keep HK2.out id)).mono ?_; rintro e w9 ⟨rfl, hk9⟩); (try simp only [Act.put, List.setIfInBounds_toArray, List.set_cons_zero, List.set_cons_succ]))
    )
    go_ret
    exact ⟨rfl, HK2.out.trans hk9 (fun _ _ h => h)⟩
end Go.Proofs.QW

/-
  From a row's list of laid variables to the table of kinds in memory. Condition: the list that the rows of this seat have.
-/
namespace Go.Proofs.QW
open Go.RowKit Go.Proofs.KL Go.Proofs.QM Go.Lib

theorem tab2_cell {H : Type} {enc : TypeId × Value → H} {P : Program} {w : World} {base : Nat} {sp : Nat → Bool} {held : Bool} {fuel : Nat} {t e ee : TypeId} {n m : Nat} {k : IntKind} {cs : List Value} {rows : List (List Int)} {p : List MemPlace}
    (ht : P.underlying t = some (.array n e)) (he : P.underlying e = some (.array m ee)) (hee : P.underlying ee = some (.int k)) (hcee : P.cellsOf ee = 1) (hce : P.cellsOf e = m)
    (h : DataW.trod enc P w base sp held fuel t cs = some (.agg (rows.map (tabData k)), p)) : ∀ i, i < n → ∀ row, rows[i]? = some row → ∀ j, j < m → cs[i * m + j]? = (row.map fun z => Value.int k z)[j]? := by
  intro i hi row hrow j hj
  cases fuel with
  | zero => simp [DataW.trod] at h
  | succ fuel =>
    simp only [DataW.trod, ht] at h
    split at h
    · obtain ⟨xs, hm, hx⟩ := Option.map_eq_some_iff.1 h
      obtain ⟨b, hb, hf⟩ := mapM_at hm i i (by simp [hi])
      have hxs : xs.map (·.1) = rows.map (tabData k) := by
        have := congrArg Prod.fst hx
        simpa using this
      have hb1 : b.1 = tabData k row := by
        have h2 := congrArg (·[i]?) hxs
        simpa [hb, hrow] using h2
      obtain ⟨b1, b2⟩ := b
      simp only at hb1
      subst hb1
      have := cells_of_tab he hee hcee hce hf
      rw [hce] at this
      rw [← this, List.getElem?_take, if_pos hj, List.getElem?_drop]
    · cases h
theorem gTab : Tryd.prog.globalNamed "marginalia/query.asksOf" = some 0 := by kernel_rfl
theorem gTabType : (Tryd.prog.globals[0]?).map (·.type) = some 110 := by kernel_rfl
theorem cells109 : Tryd.prog.cellsOf 109 = 4 := by kernel_rfl
theorem cells3 : Tryd.prog.cellsOf 3 = 1 := by kernel_rfl
def tabRows : List (List Int) := [[0, 0, 0, 0], [0, 0, 0, 0], [0, 12, 1, 1048576], [2, 12, 0, 0], [0, 12, 0, 0], [2, 2, 0, 0], [1, 1, -1000, 1000]]
theorem tab_of_laid {W : World} (h : laidMet Tryd.prog [("marginalia/query.asksOf", YtohpkolkagddiaaDoor.Rows.laid_marginalia_query_asksOf)] W) : Tab W := by
  obtain ⟨ps, ⟨g', t', cs, fuel, p, q, hg', ht', hvar, hd, _, _⟩, _⟩ := h
  obtain rfl := Option.some.inj (gTab.symm.trans hg')
  obtain rfl := Option.some.inj (gTabType.symm.trans ht')
  have key := tab2_cell (rows := tabRows) Tryd.underlying110 Tryd.underlying109 Tryd.underlying3 cells3 cells109 hd
  have cell : ∀ i j, i < 7 → j < 4 → ∀ row, tabRows[i]? = some row → W.cell? ⟨0, i * 4 + j, none⟩ = (row.map fun z => Value.int .i64 z)[j]? := fun i j hi hj row hrow => by
    rw [← key i hi row hrow j hj]
    have := World.var?_cell gTab hvar (i * 4 + j)
    simpa using this
  intro k h1 h7
  match k, h1, h7 with
  | 1, _, _ => exact ⟨cell 1 0 (by decide) (by decide) _ rfl, cell 1 1 (by decide) (by decide) _ rfl, cell 1 2 (by decide) (by decide) _ rfl, cell 1 3 (by decide) (by decide) _ rfl⟩
  | 2, _, _ => exact ⟨cell 2 0 (by decide) (by decide) _ rfl, cell 2 1 (by decide) (by decide) _ rfl, cell 2 2 (by decide) (by decide) _ rfl, cell 2 3 (by decide) (by decide) _ rfl⟩
  | 3, _, _ => exact ⟨cell 3 0 (by decide) (by decide) _ rfl, cell 3 1 (by decide) (by decide) _ rfl, cell 3 2 (by decide) (by decide) _ rfl, cell 3 3 (by decide) (by decide) _ rfl⟩
  | 4, _, _ => exact ⟨cell 4 0 (by decide) (by decide) _ rfl, cell 4 1 (by decide) (by decide) _ rfl, cell 4 2 (by decide) (by decide) _ rfl, cell 4 3 (by decide) (by decide) _ rfl⟩
  | 5, _, _ => exact ⟨cell 5 0 (by decide) (by decide) _ rfl, cell 5 1 (by decide) (by decide) _ rfl, cell 5 2 (by decide) (by decide) _ rfl, cell 5 3 (by decide) (by decide) _ rfl⟩
  | 6, _, _ => exact ⟨cell 6 0 (by decide) (by decide) _ rfl, cell 6 1 (by decide) (by decide) _ rfl, cell 6 2 (by decide) (by decide) _ rfl, cell 6 3 (by decide) (by decide) _ rfl⟩
end Go.Proofs.QW

/-
  What the claims of layer 22 share: the rule that joins a contract to a row's post, and a world for the witness. No condition.
-/
namespace Go.Proofs.YtohpkolkagddiaaDoor.base
open Go.ChangeShapes Go.WideShapes Go.ChangeAt Go.RowKit
set_option maxRecDepth 100000

/-- As 'post_of_same', where blocks that are new may be of any kind. -/
theorem post_of_old {H : Type} {enc : TypeId × Value → H} {P : Program} {f : Func} {s : ChangeSpec} {apart fresh handsOn again : Bool} {W W' : World} {args : Array Value} {v : Value} {ds gs : List (DataW H)} {before pa pv : List MemPlace}
    (hW : DataW.Whole enc P f.params.toList s.vars apart W args.toList ds gs before)
    (hres : ∀ (b : Nat) (sp : Nat → Bool) (hd : Bool), DataW.TrodAll enc P W' b sp hd f.resultTypes.toList (v.resultList f.resultTypes.size) (s.fn H (ds ++ gs)).results [])
    (hargs : ∀ sp : Nat → Bool, (∀ p ∈ before, sp p.block = true) → DataW.TrodAll enc P W' 0 sp true f.params.toList args.toList (s.fn H (ds ++ gs)).args pa)
    (hvars : ∀ sp : Nat → Bool, (∀ p ∈ before, sp p.block = true) → DataW.TrodVars enc P W' sp s.vars (s.fn H (ds ++ gs)).vars pv)
    (hps : before = pa ++ pv) (hb : Below W.heap.size W W')
    (hok : ∀ (j : Nat) (t : TypeId) (r : Value), f.resultTypes[j]? = some t → (v.resultList f.resultTypes.size)[j]? = some r → Value.okWide P W' .any 0 t r) :
    s.post enc P f apart fresh handsOn again W args v W' := by
  have hlt := hW.lt
  have hold : ∀ p ∈ before, (fun b => decide (b < W.heap.size)) p.block = true := fun p hp => by simpa using hlt p hp
  refine ⟨ds, gs, before, [], pa, pv, hW, hres _ _ _, hargs _ hold, hvars _ hold, World.keptBut_mono (fun p hp => ⟨hp, ?_⟩) (hb.frame (· ∈ before)), fun _ => ?_⟩
  · rw [hps, List.mem_append] at hp
    exact Or.inr hp
  · obtain ⟨_, _, _, _, _, hz, hn⟩ := hW
    refine ⟨hok, _, _, ([] ++ pa) ++ pv, ⟨[] ++ pa, pv, trodAll_append (hargs _ (fun _ _ => rfl)) (hres _ _ _), hvars _ (fun _ _ => rfl), rfl, ?_, ?_⟩, ?_⟩
    · intro b off hp
      have hp' : MemPlace.cell b off ∈ before := by rw [hps]; simpa using hp
      rw [hb.frozen (p := ⟨b, off, none⟩) (hlt _ hp')]
      exact hz b off hp'
    · intro ha
      have := hn ha
      rw [hps] at this
      simpa using this
    · intro p hp _
      rw [hps]
      simpa using hp
theorem own : ownKnob Tryd.prog.godebug = none := by kernel_rfl

/-- A world for the witness: the table (block 0) holds what its initialiser lays. -/
noncomputable def laidWorld (os : Os) : World :=
  { World.holding Tryd.prog os ⟨#[], #[], []⟩ with heap := (World.holding Tryd.prog os ⟨#[], #[], []⟩).heap.modify 0 fun
      | .cells _ t frozen => .cells #[.int .i64 0, .int .i64 0, .int .i64 0, .int .i64 0, .int .i64 0, .int .i64 0, .int .i64 0, .int .i64 0, .int .i64 0, .int .i64 12, .int .i64 1, .int .i64 1048576, .int .i64 2, .int .i64 12, .int .i64 0, .int .i64 0, .int .i64 0, .int .i64 12, .int .i64 0, .int .i64 0, .int .i64 2, .int .i64 2, .int .i64 0, .int .i64 0, .int .i64 1, .int .i64 1, .int .i64 (-1000), .int .i64 1000] t frozen
      | o => o }
end Go.Proofs.YtohpkolkagddiaaDoor.base

/-
  How the statements' arguments lie in memory, out of their readings: lists of ints, and of rules; and that they read behind a call as before. No condition.
-/
namespace Go.Proofs.QW
open Go.RowKit Go.Proofs.KL Go.Proofs.QM Go.ChangeShapes
set_option maxRecDepth 100000

theorem laidOut : laidOutB Tryd.prog = true := by kernel_rfl
theorem spot_none {w : World} {a : Addr} {v : Value} (h : w.cell? a = some v) : ∃ b o, a = ⟨b, o, none⟩ := by
  obtain ⟨b, o, s⟩ := a
  cases s with
  | none => exact ⟨b, o, rfl⟩
  | some x => unfold World.cell? at h; simp only [Option.isSome_some, if_true] at h; split at h <;> cases h
theorem add_at (b o i : Nat) : (⟨b, o, none⟩ : Addr).add i = ⟨b, o + i, none⟩ := by
  unfold Addr.add
  split
  · rename_i h; subst h; rfl
  · rfl
section
variable {H : Type} {enc : TypeId × Value → H} {W : World} {base : Nat} {sp : Nat → Bool} {held : Bool}
theorem ints_of {fuel : Nat} {v : Value} {x : DataW H × List MemPlace} (h : DataW.trod enc Tryd.prog W base sp held fuel 23 [v] = some x) : ∃ zs, IntsX W (fun _ => True) v zs := by
  rcases open_ints Tryd.underlying23 Tryd.underlying3 cells3 h with ⟨hc, _⟩ | ⟨a, len, cap, zs, hc, _, hl, _, hz, _, hcell, _⟩
  · injection hc with hc _
    subst hc
    exact ⟨[], none, 0, rfl, Nat.le_refl _, fun i hi => absurd hi (by simp)⟩
  · injection hc with hc _
    subst hc
    have hle : len ≤ zs.length := by rw [hz]; split <;> omega
    have hlt : (zs.take len).length = len := by rw [List.length_take]; omega
    refine ⟨zs.take len, some a, cap, by rw [hlt], by omega, fun i hi => ?_⟩
    rw [hlt] at hi
    obtain ⟨b, o, rfl⟩ := spot_none (hcell 0 (by omega) : W.cell? (a.add 0) = _)
    refine ⟨b, o, rfl, trivial, ?_⟩
    have := hcell i (by omega)
    rw [add_at] at this
    rw [this, List.getD_eq_getElem?_getD, List.getD_eq_getElem?_getD, List.getElem?_take, if_pos hi]
theorem list_of {α : Type} [Inhabited α] {n : Nat} {p : Nat → α → Prop} (h : ∀ i, i < n → ∃ a, p i a) : ∃ l : List α, l.length = n ∧ ∀ i, i < n → p i (l.getD i default) := by
  induction n with
  | zero => exact ⟨[], rfl, fun i hi => absurd hi (by omega)⟩
  | succ n ih =>
    obtain ⟨l, hl, hp⟩ := ih (fun i hi => h i (by omega))
    obtain ⟨a, ha⟩ := h n (by omega)
    refine ⟨l ++ [a], by simp [hl], fun i hi => ?_⟩
    rw [List.getD_eq_getElem?_getD, List.getElem?_append]
    by_cases e : i < n
    · rw [if_pos (by omega), ← List.getD_eq_getElem?_getD]; exact hp i e
    · obtain rfl : i = n := by omega
      rw [if_neg (by omega), hl]; simpa using ha
theorem cells72 : Tryd.prog.cellsOf 72 = 3 := by kernel_rfl
theorem cells23 : Tryd.prog.cellsOf 23 = 1 := by kernel_rfl
theorem one_of {l : List Value} {i : Nat} {v : Value} (h : l[i]? = some v) : (l.drop i).take 1 = [v] := by
  obtain ⟨hi, hv⟩ := List.getElem?_eq_some_iff.1 h
  rw [List.drop_eq_getElem_cons hi, hv]; rfl
theorem rules_of {fuel : Nat} {v : Value} {x : DataW H × List MemPlace} (h : DataW.trod enc Tryd.prog W base sp held fuel 22 [v] = some x) : ∃ rs, RulesX W (fun _ => True) v rs := by
  rcases DataW.trod_slice Tryd.underlying22 h with ⟨hc, _⟩ | ⟨a, len, cap, elems, rest, n, _, hc, _, _, hl, _, hel, hget, _, _⟩
  · injection hc with hc _
    subst hc
    exact ⟨[], none, 0, rfl, Nat.le_refl _, fun i hi => absurd hi (by simp)⟩
  · injection hc with hc _
    subst hc
    have key : ∀ i, i < len → ∃ r : QRule, ∃ u b o, a = ⟨b, o, none⟩ ∧ W.cell? ⟨b, o + i * 3, none⟩ = some (.int .i64 r.kind) ∧ W.cell? ⟨b, o + i * 3 + 1, none⟩ = some (.int .i64 r.n) ∧ W.cell? ⟨b, o + i * 3 + 2, none⟩ = some u ∧ IntsX W (fun _ => True) u r.asks := by
      intro i hi
      have hg := hget i hi
      rw [List.getElem?_eq_getElem (by omega), cells72] at hg
      obtain ⟨cs, hcs, hst⟩ := Option.bind_eq_some_iff.1 hg
      obtain ⟨_, hlen, hcell⟩ := World.cells?_some hcs
      obtain ⟨xs, m, _, _, _, hxl, hf⟩ := DataW.trod_struct Tryd.underlying72 hst
      have e0 := hcell 0 (by omega)
      have e1 := hcell 1 (by omega)
      have e2 := hcell 2 (by omega)
      have f0 : DataW.trod enc Tryd.prog W base sp held m 3 ((cs.drop 0).take (Tryd.prog.cellsOf 3)) = xs[0]? := hf 0 _ rfl
      have f1 : DataW.trod enc Tryd.prog W base sp held m 3 ((cs.drop 1).take (Tryd.prog.cellsOf 3)) = xs[1]? := hf 1 _ rfl
      have f2 : DataW.trod enc Tryd.prog W base sp held m 23 ((cs.drop 2).take (Tryd.prog.cellsOf 23)) = xs[2]? := hf 2 _ rfl
      rw [cells3] at f0 f1
      rw [cells23] at f2
      have hxs : xs.length = 3 := hxl
      rw [one_of (List.getElem?_eq_getElem (by omega)), List.getElem?_eq_getElem (by omega)] at f0 f1 f2
      obtain ⟨k0, hk0, _, _⟩ := DataW.trod_int Tryd.underlying3 f0
      obtain ⟨k1, hk1, _, _⟩ := DataW.trod_int Tryd.underlying3 f1
      obtain ⟨zs, hzs⟩ := ints_of f2
      injection hk0 with hk0 _
      injection hk1 with hk1 _
      rw [List.getElem?_eq_getElem (by omega)] at e0 e1 e2
      rw [hk0] at e0
      rw [hk1] at e1
      have hadd : (a.add (i * 3)).add 0 = a.add (i * 3) := by simp [Addr.add]
      rw [hadd] at e0
      have hsp : ∃ b o, a = ⟨b, o, none⟩ := by
        by_cases h0 : i = 0
        · subst h0
          rw [show (0 * 3 : Nat) = 0 from rfl, show a.add 0 = a by simp [Addr.add]] at e0
          exact spot_none e0
        · have hg0 := hget 0 (by omega)
          rw [List.getElem?_eq_getElem (by omega), cells72] at hg0
          obtain ⟨cs0, hcs0, _⟩ := Option.bind_eq_some_iff.1 hg0
          obtain ⟨_, hlen0, hcell0⟩ := World.cells?_some hcs0
          have := hcell0 0 (by omega)
          rw [List.getElem?_eq_getElem (by omega), show (0 * 3 : Nat) = 0 from rfl, show (a.add 0).add 0 = a by simp [Addr.add]] at this
          exact spot_none this
      obtain ⟨b, o, rfl⟩ := hsp
      simp only [add_at] at e0 e1 e2
      exact ⟨⟨k0, k1, zs⟩, _, b, o, rfl, e0, e1, e2, hzs⟩
    obtain ⟨rs, hrl, hp⟩ := list_of key
    refine ⟨rs, some a, cap, by rw [hrl], by omega, fun i hi => ?_⟩
    obtain ⟨u, b, o, rfl, e0, e1, e2, hu⟩ := hp i (by omega)
    exact ⟨b, o, u, rfl, trivial, e0, e1, e2, hu⟩
/-- An argument reads behind a call that wrote nothing old as it did before. -/
theorem arg_stays {t : TypeId} (hr : Tryd.prog.readableRec t = true) (hrow : t < Tryd.prog.types.size) {W' : World} {sp' : Nat → Bool} {v : Value} {d : DataW H} {ps : List MemPlace} (h : DataW.Trod enc Tryd.prog W 0 (fun _ => true) true t v d ps) (hk : Keeps Nob W W')
    (hlt : ∀ p ∈ ps, p.block < W.heap.size) (hs : ∀ p ∈ ps, sp' p.block = true) : DataW.Trod enc Tryd.prog W' 0 sp' true t v d ps :=
  WideElems.Trod_stays laidOut hr hrow h (fun p hp => hk.below.same (hlt p hp)) hs
end
end Go.Proofs.QW

/-
  How the calls of the statements of layer 22 lie in memory, out of their readings. No condition.
-/
namespace Go.Proofs.QW
open Go.RowKit Go.Proofs.KL Go.Proofs.QM Go.ChangeShapes
set_option maxRecDepth 100000

theorem cells56 : Tryd.prog.cellsOf 56 = 3 := by kernel_rfl
theorem cells5 : Tryd.prog.cellsOf 5 = 1 := by kernel_rfl
section
variable {H : Type} {enc : TypeId × Value → H} {W : World} {base : Nat} {sp : Nat → Bool} {held : Bool}
theorem acts_of {fuel : Nat} {v : Value} {x : DataW H × List MemPlace} (h : DataW.trod enc Tryd.prog W base sp held fuel 34 [v] = some x) : ∃ acts, ActsX W (fun _ => True) v acts := by
  rcases DataW.trod_slice Tryd.underlying34 h with ⟨hc, _⟩ | ⟨a, len, cap, elems, rest, n, _, hc, _, _, hl, _, hel, hget, _, _⟩
  · injection hc with hc _
    subst hc
    exact ⟨[], none, 0, rfl, Nat.le_refl _, fun i hi => absurd hi (by simp)⟩
  · injection hc with hc _
    subst hc
    have key : ∀ i, i < len → ∃ r : ActR, ∃ b o, a = ⟨b, o, none⟩ ∧ W.cell? ⟨b, o + i * 3, none⟩ = some (.int .u8 r.kind) ∧ W.cell? ⟨b, o + i * 3 + 1, none⟩ = some (.int .i64 r.q) ∧ W.cell? ⟨b, o + i * 3 + 2, none⟩ = some (.int .i64 r.v) ∧ (0 ≤ r.kind ∧ r.kind ≤ 255) ∧ r.v ≤ 9223372036854775807 := by
      intro i hi
      have hg := hget i hi
      rw [List.getElem?_eq_getElem (by omega), cells56] at hg
      obtain ⟨cs, hcs, hst⟩ := Option.bind_eq_some_iff.1 hg
      obtain ⟨_, hlen, hcell⟩ := World.cells?_some hcs
      obtain ⟨xs, m, _, _, _, hxl, hf⟩ := DataW.trod_struct Tryd.underlying56 hst
      have e0 := hcell 0 (by omega)
      have e1 := hcell 1 (by omega)
      have e2 := hcell 2 (by omega)
      have f0 : DataW.trod enc Tryd.prog W base sp held m 5 ((cs.drop 0).take (Tryd.prog.cellsOf 5)) = xs[0]? := hf 0 _ rfl
      have f1 : DataW.trod enc Tryd.prog W base sp held m 3 ((cs.drop 1).take (Tryd.prog.cellsOf 3)) = xs[1]? := hf 1 _ rfl
      have f2 : DataW.trod enc Tryd.prog W base sp held m 3 ((cs.drop 2).take (Tryd.prog.cellsOf 3)) = xs[2]? := hf 2 _ rfl
      rw [cells5] at f0
      rw [cells3] at f1 f2
      have hxs : xs.length = 3 := hxl
      rw [one_of (List.getElem?_eq_getElem (by omega)), List.getElem?_eq_getElem (by omega)] at f0 f1 f2
      obtain ⟨k0, hk0, _, w0⟩ := DataW.trod_int Tryd.underlying5 f0
      obtain ⟨k1, hk1, _, _⟩ := DataW.trod_int Tryd.underlying3 f1
      obtain ⟨k2, hk2, _, w2⟩ := DataW.trod_int Tryd.underlying3 f2
      injection hk0 with hk0 _
      injection hk1 with hk1 _
      injection hk2 with hk2 _
      rw [List.getElem?_eq_getElem (by omega)] at e0 e1 e2
      rw [hk0] at e0
      rw [hk1] at e1
      rw [hk2] at e2
      have hadd : (a.add (i * 3)).add 0 = a.add (i * 3) := by simp [Addr.add]
      rw [hadd] at e0
      have hsp : ∃ b o, a = ⟨b, o, none⟩ := by
        by_cases h0 : i = 0
        · subst h0
          rw [show (0 * 3 : Nat) = 0 from rfl, show a.add 0 = a by simp [Addr.add]] at e0
          exact spot_none e0
        · have hg0 := hget 0 (by omega)
          rw [List.getElem?_eq_getElem (by omega), cells56] at hg0
          obtain ⟨cs0, hcs0, _⟩ := Option.bind_eq_some_iff.1 hg0
          obtain ⟨_, hlen0, hcell0⟩ := World.cells?_some hcs0
          have := hcell0 0 (by omega)
          rw [List.getElem?_eq_getElem (by omega), show (0 * 3 : Nat) = 0 from rfl, show (a.add 0).add 0 = a by simp [Addr.add]] at this
          exact spot_none this
      obtain ⟨b, o, rfl⟩ := hsp
      simp only [add_at] at e0 e1 e2
      simp only [Lit.wf, Bool.and_eq_true, decide_eq_true_eq] at w0 w2
      rw [show IntKind.u8.min = 0 by decide, show IntKind.u8.max = 255 by decide] at w0
      rw [show IntKind.i64.max = 9223372036854775807 by decide] at w2
      exact ⟨⟨k0, k1, k2⟩, b, o, rfl, e0, e1, e2, by simp only; omega, by simp only; omega⟩
    obtain ⟨acts, hrl, hp⟩ := list_of key
    refine ⟨acts, some a, cap, by rw [hrl], by omega, fun i hi => ?_⟩
    obtain ⟨b, o, rfl, e0, e1, e2, hu⟩ := hp i (by omega)
    exact ⟨b, o, rfl, trivial, e0, e1, e2, hu⟩
end
end Go.Proofs.QW
