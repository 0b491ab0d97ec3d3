/-
  QueryAnew, in memory: the law returns true. Condition: rules and calls lie, and the table of kinds is as laid.
-/
import Derived.Test.YtohpkolkagddiaaDoorParts4
import Derived.Laws.Externs
import Derived.MapKept
import Derived.Test.YtohpkolkagddiaaDoorRows
import Derived.Lib.LaidTab
import Derived.Test.YtohpkolkagddiaaDoorCards
import Derived.Test.YtohpkolkagddiaaDoorTie
import Derived.WalkKit
import Derived.ProofKit
import Derived.OpenShut
import Derived.Deep.DeepHandedRow
import Derived.ChangeSlices
import Derived.ChangeArms
import Derived.Carry
namespace Go.Proofs.QW
open Go.RowKit Go.Proofs.KL Go.Proofs.QM
set_option maxRecDepth 100000
set_option linter.unusedSimpArgs false
set_option linter.unusedVariables false

theorem ActsX.vmax {w : World} {X : Nat → Prop} {v : Value} {acts : List ActR} (h : ActsX w X v acts) : ∀ a ∈ acts, a.v ≤ 9223372036854775807 := fun a ham => by
  obtain ⟨A, c, _, _, hx⟩ := h
  obtain ⟨i, hi, rfl⟩ := List.mem_iff_getElem.1 ham
  obtain ⟨_, _, _, _, _, _, _, _, h⟩ := hx i hi
  rwa [List.getD_eq_getElem?_getD, List.getElem?_eq_getElem hi] at h
theorem EngAt.lts {w : World} {X : Nat → Prop} {eb ib mb : Nat} {E : Env} {ans : List (Option KeptR)} (h : EngAt w X eb ib mb E ans) : eb < w.heap.size ∧ ib < w.heap.size ∧ mb < w.heap.size := by
  obtain ⟨⟨rv, c, hb, _⟩, ⟨cs, hib, _⟩, ⟨es, cl, hmb, _⟩, _, _, _⟩ := h
  exact ⟨blk_lt hb, blk_lt hib, blk_lt hmb⟩
set_option maxHeartbeats 40000000 in
/-- QUERYANEW. -/
theorem QueryAnew_any (rs : List QRule) (acts : List ActR) (q : Int) (w : World) (X Y : Nat → Prop) (rv av : Value) (hr : RulesX w X rv rs) (ha : ActsX w Y av acts) (ht : Tab w) :
    Calls Tryd.prog 4 #[rv, av, .int .i64 q] w fun e w' => e = .returned (.bool true) ∧ Keeps Nob w w' := by
  have HC := Lib.hid (cut_any rs w X rv hr)
  have HT := Lib.hid ht
  have HT0 := Lib.hid (show 0 < w.heap.size from World.block_lt_of_cell? _ _ (ht 1 (by omega) (by omega)).1)
  have HA := Lib.hid ha
  have Hvm := Lib.hid ha.vmax
  obtain ⟨rA, rc, rfl, -, -⟩ := id hr
  obtain ⟨aA, ac, rfl, -, -⟩ := id ha
  have hpn : ∀ (n : Nat) (w : World), (binOp .eql 35 (.pointer (some ⟨n, 0, none⟩)) (.pointer none)).run Tryd.prog w = .ok (.bool false) w := fun _ _ => by kernel_rfl
  have hp0 : ∀ (w : World), (binOp .eql 35 (.pointer none) (.pointer none)).run Tryd.prog w = .ok (.bool true) w := fun _ => by kernel_rfl
  generalize cutM rs = own at *
  clear hr ha ht
  by_cases hc : (check own).2 = 0
  · have Hc := Lib.hid hc
    have hinv := playedTo_inv hc Hvm.out 60 (by decide)
    obtain ⟨E, ans, hS⟩ : ∃ E ans, playedF own acts = (E, ans) := ⟨_, _, rfl⟩
    have HS := Lib.hid hS
    rw [show playedTo own acts 60 = (E, ans) from hS] at hinv
    have Hinv := Lib.hid hinv
    obtain ⟨h200, -⟩ := check_ok hc
    have hEr : E.rules = own := hinv.rules
    have HEr := Lib.hid hEr
    clear hc hS hinv hEr
    by_cases hq0 : q < 0
    · go_enter Tryd.func4, Tryd.ntmps4
      go_wp2_with (first
        | (go_at_call 10; go_must (refine HC.out.mono ?_; rintro e w1 ⟨ov, rfl, hk1, hr1⟩; obtain ⟨oA, oc, rfl, _, _⟩ := id hr1)
           have HK1 := Lib.hid hk1
           have Hr1 := Lib.hid hr1
           have Ha1 := Lib.hid (HA.out.keep (X' := Y) hk1 (fun _ _ _ => id) (fun _ _ h => h))
           clear hk1 hr1
           (try simp only [Act.put, List.setIfInBounds_toArray, List.set_cons_zero, List.set_cons_succ]))
        | (go_at_call 16; go_must (refine (played_any own acts w1 _ _ _ _ Hr1.out Ha1.out (fun _ => HT.out.keep HK1.out id)).mono ?_; rintro e w2 ⟨hk2, -, hx2⟩; obtain ⟨eb, ib, mb, Xe, rfl, he2, hxe2, be1, be2, be3⟩ := hx2 Hc.out)
           have HK2 := Lib.hid (HK1.out.trans hk2 (fun _ _ h => h))
           have Hr2 := Lib.hid (Hr1.out.keep (X' := fun k => w.heap.size ≤ k ∧ k < w1.heap.size) hk2 (fun _ _ _ => id) (fun _ _ h => h))
           rw [HS.out] at he2
           have He2 := Lib.hid he2
           have Hbe := Lib.hid (show (w1.heap.size ≤ eb ∧ w1.heap.size ≤ ib ∧ w1.heap.size ≤ mb) ∧ (∀ k, Xe k → w1.heap.size ≤ k ∧ k < w2.heap.size) from ⟨⟨be1, be2, be3⟩, hxe2⟩)
           clear hk2 hx2 he2 hxe2 be1 be2 be3
           (try simp only [Act.put, List.setIfInBounds_toArray, List.set_cons_zero, List.set_cons_succ]))
        | (go_at_call 14; go_must (refine (alive_any w2 (HT.out.keep HK2.out id)).mono ?_; rintro e w9 ⟨rfl, hk9⟩); (try simp only [Act.put, List.setIfInBounds_toArray, List.set_cons_zero, List.set_cons_succ]))
      )
      go_ret
      exact ⟨rfl, HK2.out.trans hk9 (fun _ _ h => h)⟩
    · by_cases hq1 : (own.length : Int) ≤ q
      · go_enter Tryd.func4, Tryd.ntmps4
        go_wp2_with (first
          | (go_at_call 10; go_must (refine HC.out.mono ?_; rintro e w1 ⟨ov, rfl, hk1, hr1⟩; obtain ⟨oA, oc, rfl, _, _⟩ := id hr1)
             have HK1 := Lib.hid hk1
             have Hr1 := Lib.hid hr1
             have Ha1 := Lib.hid (HA.out.keep (X' := Y) hk1 (fun _ _ _ => id) (fun _ _ h => h))
             clear hk1 hr1
             (try simp only [Act.put, List.setIfInBounds_toArray, List.set_cons_zero, List.set_cons_succ]))
          | (go_at_call 16; go_must (refine (played_any own acts w1 _ _ _ _ Hr1.out Ha1.out (fun _ => HT.out.keep HK1.out id)).mono ?_; rintro e w2 ⟨hk2, -, hx2⟩; obtain ⟨eb, ib, mb, Xe, rfl, he2, hxe2, be1, be2, be3⟩ := hx2 Hc.out)
             have HK2 := Lib.hid (HK1.out.trans hk2 (fun _ _ h => h))
             have Hr2 := Lib.hid (Hr1.out.keep (X' := fun k => w.heap.size ≤ k ∧ k < w1.heap.size) hk2 (fun _ _ _ => id) (fun _ _ h => h))
             rw [HS.out] at he2
             have He2 := Lib.hid he2
             have Hbe := Lib.hid (show (w1.heap.size ≤ eb ∧ w1.heap.size ≤ ib ∧ w1.heap.size ≤ mb) ∧ (∀ k, Xe k → w1.heap.size ≤ k ∧ k < w2.heap.size) from ⟨⟨be1, be2, be3⟩, hxe2⟩)
             clear hk2 hx2 he2 hxe2 be1 be2 be3
             (try simp only [Act.put, List.setIfInBounds_toArray, List.set_cons_zero, List.set_cons_succ]))
          | (go_at_call 14; go_must (refine (alive_any w2 (HT.out.keep HK2.out id)).mono ?_; rintro e w9 ⟨rfl, hk9⟩); (try simp only [Act.put, List.setIfInBounds_toArray, List.set_cons_zero, List.set_cons_succ]))
        )
        go_ret
        exact ⟨rfl, HK2.out.trans hk9 (fun _ _ h => h)⟩
      · have hlb := Hinv.out.values
        have hanew := anew_same Hinv.out Hc.out (q := q) (by omega) (by omega)
        obtain ⟨l, hl⟩ : ∃ l, inputsF E = l := ⟨_, rfl⟩
        simp only at hlb hanew
        rw [hl] at hlb hanew
        have hvok : valuesOk own l = true := by unfold valuesOk; rw [hlb.1, decide_eq_true hlb.2]; rfl
        obtain ⟨P, hpf⟩ : ∃ P, plainF own l q = P := ⟨_, rfl⟩
        rw [hpf] at hanew
        obtain ⟨p1, p2⟩ := P
        obtain ⟨R, hR⟩ : ∃ R, askR E ans q 1073741824 = R := ⟨_, rfl⟩
        have hRve : R.v = p1 ∧ R.e = p2 := by
          rw [← hR]
          unfold askR
          rw [if_neg (by unfold isErr; rw [if_neg (by rw [HEr.out]; omega)]; decide), if_neg (by decide)]
          simp only [hanew]
          exact ⟨trivial, trivial⟩
        obtain ⟨Ra, Rw, Rv, Re⟩ := R
        simp only at hRve
        obtain ⟨rfl, rfl⟩ := hRve
        obtain ⟨ra, hra⟩ : ∃ a, refA own l q = a := ⟨_, rfl⟩
        obtain ⟨an, acost, ae⟩ := ra
        have Hq := Lib.hid (show InQ (envP own l own.length) q from ⟨by omega, by show q < own.length; omega⟩)
        have Hl := Lib.hid hl
        have Hlb := Lib.hid hlb
        have Hvok := Lib.hid hvok
        have Hpf := Lib.hid hpf
        have HR := Lib.hid hR
        have Hra := Lib.hid hra
        clear hl hlb hvok hpf hR hra hanew
        by_cases hcost : (3000 : Int) < acost
        · go_enter Tryd.func4, Tryd.ntmps4
          go_wp2_with (first
            | (go_at_call 10; go_must (refine HC.out.mono ?_; rintro e w1 ⟨ov, rfl, hk1, hr1⟩; obtain ⟨oA, oc, rfl, _, _⟩ := id hr1)
               have HK1 := Lib.hid hk1
               have Hr1 := Lib.hid hr1
               have Ha1 := Lib.hid (HA.out.keep (X' := Y) hk1 (fun _ _ _ => id) (fun _ _ h => h))
               clear hk1 hr1
               (try simp only [Act.put, List.setIfInBounds_toArray, List.set_cons_zero, List.set_cons_succ]))
            | (go_at_call 16; go_must (refine (played_any own acts w1 _ _ _ _ Hr1.out Ha1.out (fun _ => HT.out.keep HK1.out id)).mono ?_; rintro e w2 ⟨hk2, -, hx2⟩; obtain ⟨eb, ib, mb, Xe, rfl, he2, hxe2, be1, be2, be3⟩ := hx2 Hc.out)
               have HK2 := Lib.hid (HK1.out.trans hk2 (fun _ _ h => h))
               have Hr2 := Lib.hid (Hr1.out.keep (X' := fun k => w.heap.size ≤ k ∧ k < w1.heap.size) hk2 (fun _ _ _ => id) (fun _ _ h => h))
               rw [HS.out] at he2
               have He2 := Lib.hid he2
               have Hbe := Lib.hid (show (w1.heap.size ≤ eb ∧ w1.heap.size ≤ ib ∧ w1.heap.size ≤ mb) ∧ (∀ k, Xe k → w1.heap.size ≤ k ∧ k < w2.heap.size) from ⟨⟨be1, be2, be3⟩, hxe2⟩)
               clear hk2 hx2 he2 hxe2 be1 be2 be3
               (try simp only [Act.put, List.setIfInBounds_toArray, List.set_cons_zero, List.set_cons_succ]))
            | (go_at_call 17
               have hin := inputs_any E ans w2 Xe (fun k => w.heap.size ≤ k ∧ k < w1.heap.size) eb ib mb (.slice oA own.length oc) He2.out (by rw [HEr.out]; exact Hr2.out) (by rw [HEr.out]; exact h200)
               rw [Hl.out] at hin
               go_must (refine hin.mono ?_; rintro e w3 ⟨lv, rfl, hk3, hl3⟩; obtain ⟨lA, lc, rfl, -, -⟩ := id hl3)
               have HK3 := Lib.hid (HK2.out.trans hk3 (fun _ _ h => h))
               have Hr3 := Lib.hid (Hr2.out.keep (X' := fun k => w.heap.size ≤ k ∧ k < w1.heap.size) hk3 (fun _ _ _ => id) (fun _ _ h => h))
               have He3 := Lib.hid (He2.out.after hk3)
               have Hv3 := Lib.hid hl3
               have Hz3 := Lib.hid hk3.size
               clear hk3 hl3 hin
               (try simp only [Act.put, List.setIfInBounds_toArray, List.set_cons_zero, List.set_cons_succ]))
            | (go_at_call 12
               have hva := Values_any own l w3 _ _ _ _ Hr3.out Hv3.out h200
               rw [Hvok.out] at hva
               go_must (refine hva.mono ?_; rintro e w3' ⟨rfl, hw5⟩; obtain rfl := hw5.symm)
               clear hva
               (try simp only [Act.put, List.setIfInBounds_toArray, List.set_cons_zero, List.set_cons_succ]))
            | (go_at_call 13; go_must (refine (RefPlain_any (plain_env Hc.out Hlb.out.2 Hlb.out.1) w3 _ _ _ _ q Hr3.out Hv3.out Hq.out Hra.out).mono ?_; rintro e w4 ⟨rfl, hk4⟩)
               have HK4 := Lib.hid (HK3.out.trans hk4 (fun _ _ h => h))
               have Hr4 := Lib.hid (Hr3.out.keep (X' := fun k => w.heap.size ≤ k ∧ k < w1.heap.size) hk4 (fun _ _ _ => id) (fun _ _ h => h))
               have He4 := Lib.hid (He3.out.after hk4)
               have Hv4 := Lib.hid (Hv3.out.keep (X' := fun k => w2.heap.size ≤ k ∧ k < w3.heap.size) hk4 (fun _ _ _ => id) (fun _ _ h => h))
               have Hz4 := Lib.hid hk4.size
               clear hk4
               (try simp only [Act.put, List.setIfInBounds_toArray, List.set_cons_zero, List.set_cons_succ]))
            | (go_at_call 14; go_must (refine (alive_any w4 (HT.out.keep HK4.out id)).mono ?_; rintro e w9 ⟨rfl, hk9⟩); (try simp only [Act.put, List.setIfInBounds_toArray, List.set_cons_zero, List.set_cons_succ]))
          )
          go_ret
          exact ⟨rfl, HK4.out.trans hk9 (fun _ _ h => h)⟩
        · go_enter Tryd.func4, Tryd.ntmps4
          go_wp2_with (first
            | (go_at_call 10; go_must (refine HC.out.mono ?_; rintro e w1 ⟨ov, rfl, hk1, hr1⟩; obtain ⟨oA, oc, rfl, _, _⟩ := id hr1)
               have HK1 := Lib.hid hk1
               have Hr1 := Lib.hid hr1
               have Ha1 := Lib.hid (HA.out.keep (X' := Y) hk1 (fun _ _ _ => id) (fun _ _ h => h))
               clear hk1 hr1
               (try simp only [Act.put, List.setIfInBounds_toArray, List.set_cons_zero, List.set_cons_succ]))
            | (go_at_call 16; go_must (refine (played_any own acts w1 _ _ _ _ Hr1.out Ha1.out (fun _ => HT.out.keep HK1.out id)).mono ?_; rintro e w2 ⟨hk2, -, hx2⟩; obtain ⟨eb, ib, mb, Xe, rfl, he2, hxe2, be1, be2, be3⟩ := hx2 Hc.out)
               have HK2 := Lib.hid (HK1.out.trans hk2 (fun _ _ h => h))
               have Hr2 := Lib.hid (Hr1.out.keep (X' := fun k => w.heap.size ≤ k ∧ k < w1.heap.size) hk2 (fun _ _ _ => id) (fun _ _ h => h))
               rw [HS.out] at he2
               have He2 := Lib.hid he2
               have Hbe := Lib.hid (show (w1.heap.size ≤ eb ∧ w1.heap.size ≤ ib ∧ w1.heap.size ≤ mb) ∧ (∀ k, Xe k → w1.heap.size ≤ k ∧ k < w2.heap.size) from ⟨⟨be1, be2, be3⟩, hxe2⟩)
               clear hk2 hx2 he2 hxe2 be1 be2 be3
               (try simp only [Act.put, List.setIfInBounds_toArray, List.set_cons_zero, List.set_cons_succ]))
            | (go_at_call 17
               have hin := inputs_any E ans w2 Xe (fun k => w.heap.size ≤ k ∧ k < w1.heap.size) eb ib mb (.slice oA own.length oc) He2.out (by rw [HEr.out]; exact Hr2.out) (by rw [HEr.out]; exact h200)
               rw [Hl.out] at hin
               go_must (refine hin.mono ?_; rintro e w3 ⟨lv, rfl, hk3, hl3⟩; obtain ⟨lA, lc, rfl, -, -⟩ := id hl3)
               have HK3 := Lib.hid (HK2.out.trans hk3 (fun _ _ h => h))
               have Hr3 := Lib.hid (Hr2.out.keep (X' := fun k => w.heap.size ≤ k ∧ k < w1.heap.size) hk3 (fun _ _ _ => id) (fun _ _ h => h))
               have He3 := Lib.hid (He2.out.after hk3)
               have Hv3 := Lib.hid hl3
               have Hz3 := Lib.hid hk3.size
               clear hk3 hl3 hin
               (try simp only [Act.put, List.setIfInBounds_toArray, List.set_cons_zero, List.set_cons_succ]))
            | (go_at_call 12
               have hva := Values_any own l w3 _ _ _ _ Hr3.out Hv3.out h200
               rw [Hvok.out] at hva
               go_must (refine hva.mono ?_; rintro e w3' ⟨rfl, hw5⟩; obtain rfl := hw5.symm)
               clear hva
               (try simp only [Act.put, List.setIfInBounds_toArray, List.set_cons_zero, List.set_cons_succ]))
            | (go_at_call 13; go_must (refine (RefPlain_any (plain_env Hc.out Hlb.out.2 Hlb.out.1) w3 _ _ _ _ q Hr3.out Hv3.out Hq.out Hra.out).mono ?_; rintro e w4 ⟨rfl, hk4⟩)
               have HK4 := Lib.hid (HK3.out.trans hk4 (fun _ _ h => h))
               have Hr4 := Lib.hid (Hr3.out.keep (X' := fun k => w.heap.size ≤ k ∧ k < w1.heap.size) hk4 (fun _ _ _ => id) (fun _ _ h => h))
               have He4 := Lib.hid (He3.out.after hk4)
               have Hv4 := Lib.hid (Hv3.out.keep (X' := fun k => w2.heap.size ≤ k ∧ k < w3.heap.size) hk4 (fun _ _ _ => id) (fun _ _ h => h))
               have Hz4 := Lib.hid hk4.size
               clear hk4
               (try simp only [Act.put, List.setIfInBounds_toArray, List.set_cons_zero, List.set_cons_succ]))
            | (go_at_call 18
               have hask := AskR_any Hinv.out w4 Xe eb ib mb q 1073741824 (by decide) He4.out (fun b hb => by have h1 := (Hbe.out.2 b hb).2; have h2 := Hz3.out; have h3 := Hz4.out; omega)
               rw [HR.out] at hask
               go_must (refine hask.mono ?_; rintro e w5 ⟨X5, wl5, rfl, -, -, hk5, -, hw5, -⟩; obtain ⟨wA, wc, rfl⟩ := own_slice hw5)
               have hmb : w1.heap.size ≤ mb ∧ mb < w2.heap.size := ⟨Hbe.out.1.2.2, He2.out.lts.2.2⟩
               have hz1 : w.heap.size ≤ w1.heap.size := HK1.out.size
               have HK5 := Lib.hid (HK4.out.trans hk5 (fun i hi e => by omega))
               have Hr5 := Lib.hid (Hr4.out.keep (X' := fun k => w.heap.size ≤ k ∧ k < w1.heap.size) hk5 (fun b _ hx e => by have h1 := hx.2; omega) (fun _ _ h => h))
               have Hv5 := Lib.hid (Hv4.out.keep (X' := fun k => w2.heap.size ≤ k ∧ k < w3.heap.size) hk5 (fun b _ hx e => by have h1 := hx.1; omega) (fun _ _ h => h))
               clear hask hk5 hw5 hmb hz1
               (try simp only [Act.put, List.setIfInBounds_toArray, List.set_cons_zero, List.set_cons_succ]))
            | (go_at_call 15
               have hpl := Plain_any own l q w5 _ _ _ _ Hr5.out Hv5.out (fun _ => HT.out.keep HK5.out id)
               rw [Hpf.out] at hpl
               go_must (refine hpl.mono ?_; rintro e w6 ⟨rfl, hk6⟩)
               have HK6 := Lib.hid (HK5.out.trans hk6 (fun _ _ h => h))
               clear hpl hk6
               (try simp only [Act.put, List.setIfInBounds_toArray, List.set_cons_zero, List.set_cons_succ]))
            | (go_at_call 14; go_must (refine (alive_any w6 (HT.out.keep HK6.out id)).mono ?_; rintro e w9 ⟨rfl, hk9⟩); (try simp only [Act.put, List.setIfInBounds_toArray, List.set_cons_zero, List.set_cons_succ]))
          )
          go_ret
          exact ⟨rfl, HK6.out.trans hk9 (fun _ _ h => h)⟩
  · have Hc := Lib.hid hc
    clear hc
    go_enter Tryd.func4, Tryd.ntmps4
    go_wp2_with (first
      | (go_at_call 10; go_must (refine HC.out.mono ?_; rintro e w1 ⟨ov, rfl, hk1, hr1⟩; obtain ⟨oA, oc, rfl, _, _⟩ := id hr1)
         have HK1 := Lib.hid hk1
         have Hr1 := Lib.hid hr1
         have Ha1 := Lib.hid (HA.out.keep (X' := Y) hk1 (fun _ _ _ => id) (fun _ _ h => h))
         clear hk1 hr1
         (try simp only [Act.put, List.setIfInBounds_toArray, List.set_cons_zero, List.set_cons_succ]))
      | (go_at_call 16; go_must (refine (played_any own acts w1 _ _ _ _ Hr1.out Ha1.out (fun _ => HT.out.keep HK1.out id)).mono ?_; rintro e w2 ⟨hk2, hx2, -⟩; obtain rfl := hx2 Hc.out)
         have HK2 := Lib.hid (HK1.out.trans hk2 (fun _ _ h => h))
         clear hk2 hx2
         (try simp only [Act.put, List.setIfInBounds_toArray, List.set_cons_zero, List.set_cons_succ]))
      | (go_at_call 14; go_must (refine (alive_any w2 (HT.out.keep HK2.out id)).mono ?_; rintro e w9 ⟨rfl, hk9⟩); (try simp only [Act.put, List.setIfInBounds_toArray, List.set_cons_zero, List.set_cons_succ]))
    )
    go_ret
    exact ⟨rfl, HK2.out.trans hk9 (fun _ _ h => h)⟩
end Go.Proofs.QW

/-
  QueryTwice, in memory: the law returns true. Condition: rules and calls lie, and the table of kinds is as laid.
-/
namespace Go.Proofs.QW
open Go.RowKit Go.Proofs.KL Go.Proofs.QM
set_option maxRecDepth 100000
set_option linter.unusedSimpArgs false
set_option linter.unusedVariables false

/-- What an Ask without an error leaves of its question. -/
theorem askR_cur {rs : List QRule} {n : Int} {E : Env} {ans : List (Option KeptR)} (h : SInv rs n (E, ans)) {q m : Int} (h1 : m ≤ 9223372036854775807) (he : (askR E ans q m).e = 0) :
    InQ E q ∧ 0 ≤ m ∧ ∃ ch, Cur E ⟨askS E ans q m, []⟩ q (askR E ans q m).v ch := by
  unfold askR at he ⊢
  unfold askS
  by_cases hq : isErr E.rules.length q ≠ 0
  · rw [if_pos hq] at he; exact absurd (show (5 : Int) = 0 from he) (by decide)
  · rw [if_neg hq] at he ⊢
    by_cases hm : m < 0
    · rw [if_pos hm] at he; exact absurd (show (2 : Int) = 0 from he) (by decide)
    · rw [if_neg hm] at he ⊢
      have hin : InQ E q := isErr_in hq
      have h0 : 0 ≤ m := by omega
      refine ⟨hin, h0, ?_⟩
      rw [if_neg (by simp only [not_or]; exact ⟨hq, hm⟩)]
      obtain ⟨hist, hh⟩ := h.his
      obtain ⟨_, _, h3, h4⟩ := askF_h (h.env h0 h1) (hist := hist) (E.rules.length + 1) [] (by simp [Env.bound]) ⟨ans, []⟩ q (h.pinv h0) (HInv.bound hh rfl) hin (fun p hp => by cases hp)
      rcases ha : askF (Env.bound E m) (E.rules.length + 1) [] ⟨ans, []⟩ q with ⟨s1, r1⟩
      rw [ha] at h3 h4 he
      cases r1 with
      | error e =>
        have he : e = 0 := he
        rcases h4 e rfl with h | ⟨h, _⟩ <;> omega
      | ok x =>
        obtain ⟨v, ch⟩ := x
        exact ⟨ch, (h3 v ch rfl).2⟩
theorem askR_nodup {rs : List QRule} {n : Int} {E : Env} {ans : List (Option KeptR)} (h : SInv rs n (E, ans)) {q m : Int} (h1 : m ≤ 9223372036854775807) : (askR E ans q m).worked.Nodup := by
  unfold askR
  split
  · exact List.nodup_nil
  split
  · exact List.nodup_nil
  · rename_i hq hm
    have h0 : 0 ≤ m := by omega
    exact (askF_good (h.env h0 h1) (E.rules.length + 1) [] ⟨ans, []⟩ q (h.pinv h0) (isErr_in hq)).1.inv.dnd
theorem askR_twice {rs : List QRule} {n : Int} {E : Env} {ans : List (Option KeptR)} (h : SInv rs n (E, ans)) {q m : Int} (h1 : m ≤ 9223372036854775807) (he : (askR E ans q m).e = 0) :
    (askR E (askS E ans q m) q m).worked = [] ∧ (askR E (askS E ans q m) q m).v = (askR E ans q m).v ∧ (askR E (askS E ans q m) q m).e = 0 := by
  obtain ⟨hin, h0, ch, hc⟩ := askR_cur h h1 he
  generalize askS E ans q m = ans' at *
  generalize (askR E ans q m).v = v at *
  unfold askR
  rw [if_neg (by unfold isErr; rw [if_neg (by have := hin.1; have := hin.2; omega)]; decide), if_neg (by omega)]
  have key : (askF (Env.bound E m) (E.rules.length + 1) [] ⟨ans', []⟩ q) = (⟨ans', []⟩, .ok (v, ch)) := by
    unfold askF
    rcases hc with ⟨hk, hv, hch⟩ | ⟨hk, k, hg, hck, hv, hch⟩
    · rw [if_pos (show ((Env.bound E m).rule q).kind = 1 from hk), hv, hch]; rfl
    · rw [if_neg (show ¬ ((Env.bound E m).rule q).kind = 1 from hk), if_neg (by simp)]
      simp only [hg]
      rw [if_pos (show k.checked = (Env.bound E m).rev from hck), hv, hch]
  rw [key]
  exact ⟨rfl, rfl, rfl⟩
set_option maxHeartbeats 40000000 in
/-- QUERYTWICE. -/
theorem QueryTwice_any (rs : List QRule) (acts : List ActR) (q : Int) (w : World) (X Y : Nat → Prop) (rv av : Value) (hr : RulesX w X rv rs) (ha : ActsX w Y av acts) (ht : Tab w) :
    Calls Tryd.prog 5 #[rv, av, .int .i64 q] w fun e w' => e = .returned (.bool true) ∧ Keeps Nob w w' := by
  have HC := Lib.hid (cut_any rs w X rv hr)
  have HT := Lib.hid ht
  have HT0 := Lib.hid (show 0 < w.heap.size from World.block_lt_of_cell? _ _ (ht 1 (by omega) (by omega)).1)
  have HA := Lib.hid ha
  have Hvm := Lib.hid ha.vmax
  obtain ⟨rA, rc, rfl, -, -⟩ := id hr
  obtain ⟨aA, ac, rfl, -, -⟩ := id ha
  have hpn : ∀ (n : Nat) (w : World), (binOp .eql 35 (.pointer (some ⟨n, 0, none⟩)) (.pointer none)).run Tryd.prog w = .ok (.bool false) w := fun _ _ => by kernel_rfl
  have hp0 : ∀ (w : World), (binOp .eql 35 (.pointer none) (.pointer none)).run Tryd.prog w = .ok (.bool true) w := fun _ => by kernel_rfl
  generalize cutM rs = own at *
  clear hr ha ht
  by_cases hc : (check own).2 = 0
  · have Hc := Lib.hid hc
    have hinv := playedTo_inv hc Hvm.out 60 (by decide)
    obtain ⟨E, ans, hS⟩ : ∃ E ans, playedF own acts = (E, ans) := ⟨_, _, rfl⟩
    have HS := Lib.hid hS
    rw [show playedTo own acts 60 = (E, ans) from hS] at hinv
    have Hinv := Lib.hid hinv
    have hnd := askR_nodup hinv (q := q) (m := 1073741824) (by decide)
    have htw := askR_twice hinv (q := q) (m := 1073741824) (by decide)
    have Hinv2 := Lib.hid (hinv.ask q 1073741824 (by decide))
    rw [← askR_ans] at htw
    obtain ⟨R, hR⟩ : ∃ R, askR E ans q 1073741824 = R := ⟨_, rfl⟩
    have hRa : askS E ans q 1073741824 = R.ans := by rw [← askR_ans, hR]
    rw [hR] at hnd htw
    obtain ⟨Ra, Rw, Rv, Re⟩ := R
    simp only at hnd htw hRa
    have Hnd := Lib.hid hnd
    have Htw := Lib.hid htw
    have HR := Lib.hid hR
    have Hlen := Lib.hid (show Rw.length ≤ 200 by
      have hdl : Rw.length ≤ E.rules.length := by
        have h := congrArg AskRes.worked hR
        rw [show Rw = (askR E ans q 1073741824).worked from h.symm]
        unfold askR
        split
        · simp
        split
        · simp
        · rename_i hq hm
          exact (askF_good (hinv.env (m := 1073741824) (by decide) (by decide)) (E.rules.length + 1) [] ⟨ans, []⟩ q (hinv.pinv (by decide)) (isErr_in hq)).1.inv.dlen
      have := hinv.ok.len
      have h2 : E.rules.length ≤ 200 := this
      omega)
    have HRa := Lib.hid hRa
    clear hc hS hinv hnd htw hR hRa
    go_enter Tryd.func5, Tryd.ntmps5
    go_wp2_with (first
      | (go_at_call 10; go_must (refine HC.out.mono ?_; rintro e w1 ⟨ov, rfl, hk1, hr1⟩; obtain ⟨oA, oc, rfl, _, _⟩ := id hr1)
         have HK1 := Lib.hid hk1
         have Hr1 := Lib.hid hr1
         have Ha1 := Lib.hid (HA.out.keep (X' := Y) hk1 (fun _ _ _ => id) (fun _ _ h => h))
         clear hk1 hr1
         (try simp only [Act.put, List.setIfInBounds_toArray, List.set_cons_zero, List.set_cons_succ]))
      | (go_at_call 16; go_must (refine (played_any own acts w1 _ _ _ _ Hr1.out Ha1.out (fun _ => HT.out.keep HK1.out id)).mono ?_; rintro e w2 ⟨hk2, -, hx2⟩; obtain ⟨eb, ib, mb, Xe, rfl, he2, hxe2, be1, be2, be3⟩ := hx2 Hc.out)
         have HK2 := Lib.hid (HK1.out.trans hk2 (fun _ _ h => h))
         have Hr2 := Lib.hid (Hr1.out.keep (X' := fun k => w.heap.size ≤ k ∧ k < w1.heap.size) hk2 (fun _ _ _ => id) (fun _ _ h => h))
         rw [HS.out] at he2
         have He2 := Lib.hid he2
         have Hbe := Lib.hid (show (w1.heap.size ≤ eb ∧ w1.heap.size ≤ ib ∧ w1.heap.size ≤ mb) ∧ (∀ k, Xe k → w1.heap.size ≤ k ∧ k < w2.heap.size) from ⟨⟨be1, be2, be3⟩, hxe2⟩)
         clear hk2 hx2 he2 hxe2 be1 be2 be3
         (try simp only [Act.put, List.setIfInBounds_toArray, List.set_cons_zero, List.set_cons_succ]))
      | (go_at_call 18
         have hask := AskR_any Hinv.out w2 Xe eb ib mb q 1073741824 (by decide) He2.out (fun b hb => (Hbe.out.2 b hb).2)
         rw [HR.out] at hask
         go_must (refine hask.mono ?_; rintro e w3 ⟨X3, wl3, rfl, hx3, hxl3, hk3, he3, hw3, -⟩; obtain ⟨wA, wc, rfl⟩ := own_slice hw3)
         have HK3 := Lib.hid (HK2.out.trans hk3 (fun i hi e => by have h1 := Hbe.out.1.2.2; have h2 := HK1.out.size; omega))
         have He3 := Lib.hid he3
         have Hx3 := Lib.hid hxl3
         have Hw3 := Lib.hid (IntsX.own (xs := Rw) hw3 (fun _ => True) (fun _ _ => trivial))
         clear hask hk3 hw3 he3 hxl3 hx3
         (try simp only [Act.put, List.setIfInBounds_toArray, List.set_cons_zero, List.set_cons_succ]))
    )
    have hlen := Hlen.out
    go_loopw [34] (fun v wr => ∃ k : Nat, v = .int .i64 k ∧ k ≤ Rw.length ∧ Hid (Keeps Nob w3 wr)) (fun v _ => Rw.length - (intOf v).toNat)
    case atStart => exact ⟨0, rfl, Nat.zero_le _, Lib.hid (Keeps.refl _ _)⟩
    case round =>
      obtain ⟨k, rfl, hk, hkeep⟩ := hrel
      by_cases hlt : k < Rw.length
      · go_wp2
        go_loopw [13] (fun v wr2 => ∃ j : Nat, v = .int .i64 j ∧ j ≤ k ∧ Hid (Keeps Nob w3 wr2)) (fun v _ => k - (intOf v).toNat)
        case atStart => exact ⟨0, rfl, Nat.zero_le _, hkeep⟩
        case round =>
          obtain ⟨j, rfl, hj, hkeep2⟩ := hrel
          by_cases hjk : j < k
          · have hlj : j < Rw.length := by omega
            have hca := Hw3.out.keep (X' := fun _ => True) hkeep2.out (fun _ _ _ => id) (fun _ _ h => h)
            have hsp : ∃ b o, wA = some ⟨b, o, none⟩ := by
              obtain ⟨A', c', h1, _, h3⟩ := hca
              injection h1 with h1 _ _
              subst h1
              obtain ⟨b, o, h, _⟩ := h3 k hlt
              exact ⟨b, o, h⟩
            obtain ⟨b, o, rfl⟩ := hsp
            have ck := hca.cellAt (k := k) hlt
            have cj := hca.cellAt (k := j) hlj
            have hne : (Rw.getD k 0 == Rw.getD j 0) = false := by
              rw [beq_eq_false_iff_ne, List.getD_eq_getElem?_getD, List.getD_eq_getElem?_getD, List.getElem?_eq_getElem hlt, List.getElem?_eq_getElem hlj]
              intro h
              exact (List.pairwise_iff_getElem.1 Hnd.out) j k hlj hlt hjk (by simpa using h.symm)
            generalize Rw.getD k 0 = xk at *
            generalize Rw.getD j 0 = xj at *
            clear hca
            go_wp2_with fail
            refine wp_region_perm [(0, true), (1, true), (2, true), (3, true), (4, true), (5, true), (6, true), (7, true), (8, true)] (fun w' => w'.cell? ⟨b, o + k, none⟩ = some (.int .i64 xk) ∧ w'.cell? ⟨b, o + j, none⟩ = some (.int .i64 xj)) rfl (by kernel_rfl) (by kernel_rfl) (by decide) (fun c a d v w h => by cases d <;> exact h) ⟨ck, cj⟩ ?_
            refine perm_q (v := ?v1_0) (some 42) rfl rfl rfl ?q1_0 ?h1_0; (case q1_0 => (intro w' hS; obtain ⟨s1, s2⟩ := hS; first | (go_simp; done) | (go_simp; rfl))); (try simp only [Act.put, List.setIfInBounds_toArray, List.set_cons_zero, List.set_cons_succ])
            refine perm_q (v := ?v1_1) (some 43) rfl rfl rfl ?q1_1 ?h1_1; (case q1_1 => (intro w' hS; obtain ⟨s1, s2⟩ := hS; first | (go_simp; done) | (go_simp; rfl))); (try simp only [Act.put, List.setIfInBounds_toArray, List.set_cons_zero, List.set_cons_succ])
            refine perm_q (v := ?v1_2) (some 44) rfl rfl rfl ?q1_2 ?h1_2; (case q1_2 => (intro w' hS; obtain ⟨s1, s2⟩ := hS; first | (go_simp; done) | (go_simp; rfl))); (try simp only [Act.put, List.setIfInBounds_toArray, List.set_cons_zero, List.set_cons_succ])
            refine perm_q (v := ?v1_3) (some 45) rfl rfl rfl ?q1_3 ?h1_3; (case q1_3 => (intro w' hS; obtain ⟨s1, s2⟩ := hS; first | (go_simp; done) | (go_simp; rfl))); (try simp only [Act.put, List.setIfInBounds_toArray, List.set_cons_zero, List.set_cons_succ])
            refine perm_q (v := ?v1_4) (some 46) rfl rfl rfl ?q1_4 ?h1_4; (case q1_4 => (intro w' hS; obtain ⟨s1, s2⟩ := hS; first | (go_simp; done) | (go_simp; rfl))); (try simp only [Act.put, List.setIfInBounds_toArray, List.set_cons_zero, List.set_cons_succ])
            refine perm_q (v := ?v1_5) (some 47) rfl rfl rfl ?q1_5 ?h1_5; (case q1_5 => (intro w' hS; obtain ⟨s1, s2⟩ := hS; first | (go_simp; done) | (go_simp; rfl))); (try simp only [Act.put, List.setIfInBounds_toArray, List.set_cons_zero, List.set_cons_succ])
            refine perm_q (v := ?v1_6) (some 48) rfl rfl rfl ?q1_6 ?h1_6; (case q1_6 => (intro w' hS; obtain ⟨s1, s2⟩ := hS; first | (go_simp; done) | (go_simp; rfl))); (try simp only [Act.put, List.setIfInBounds_toArray, List.set_cons_zero, List.set_cons_succ])
            refine perm_q (v := ?v1_7) (some 49) rfl rfl rfl ?q1_7 ?h1_7; (case q1_7 => (intro w' hS; obtain ⟨s1, s2⟩ := hS; first | (go_simp; done) | (go_simp; rfl))); (try simp only [Act.put, List.setIfInBounds_toArray, List.set_cons_zero, List.set_cons_succ])
            refine perm_q (v := ?v1_8) (some 50) rfl rfl rfl ?q1_8 ?h1_8; (case q1_8 => (intro w' hS; obtain ⟨s1, s2⟩ := hS; first | (go_simp; done) | (go_simp; rfl))); (try simp only [Act.put, List.setIfInBounds_toArray, List.set_cons_zero, List.set_cons_succ])
            refine perm_nil ?_
            go_wp2
            exact ⟨⟨j + 1, by go_num, by omega, Lib.hid hkeep2.out.drew⟩, by simp [intOf]; omega⟩
          · obtain rfl : j = k := by omega
            go_wp2
            exact ⟨⟨j + 1, by go_num, by omega, hkeep2⟩, by simp [intOf]; omega⟩
      · obtain rfl : k = Rw.length := by omega
        have HKr := Lib.hid (HK3.out.trans hkeep.out (fun _ _ h => h))
        by_cases hRe : Re = 0
        · have htw := Htw.out hRe
          obtain ⟨R2, hR2⟩ : ∃ R2, askR E Ra q 1073741824 = R2 := ⟨_, rfl⟩
          rw [hR2] at htw
          obtain ⟨a2, l2, v2, e2⟩ := R2
          obtain ⟨rfl, rfl, rfl⟩ := htw
          have Hinv3 := Lib.hid (show SInv own 60 (E, Ra) by have h := Hinv2.out; rw [HRa.out] at h; exact h)
          have HR2 := Lib.hid hR2
          have hre : (Re != 0) = false := by simp [hRe]
          clear hR2 hRe
          go_wp2_with (first
            | (go_at_call 18
               have hask := AskR_any Hinv3.out wr X3 eb ib mb q 1073741824 (by decide) (He3.out.after hkeep.out) (fun b hb => Nat.lt_of_lt_of_le (Hx3.out b hb) hkeep.out.size)
               rw [HR2.out] at hask
               go_must (refine hask.mono ?_; rintro e w4 ⟨X4, wl4, rfl, -, -, hk4, -, hw4, -⟩; obtain ⟨wA4, wc4, rfl⟩ := own_slice hw4)
               have HK4 := Lib.hid (HKr.out.trans hk4 (fun i hi e => by have h1 := Hbe.out.1.2.2; have h2 := HK1.out.size; omega))
               clear hask hk4 hw4
               (try simp only [Act.put, List.setIfInBounds_toArray, List.set_cons_zero, List.set_cons_succ]))
            | (go_at_call 14; go_must (refine (alive_any w4 (HT.out.keep HK4.out id)).mono ?_; rintro e w9 ⟨rfl, hk9⟩); (try simp only [Act.put, List.setIfInBounds_toArray, List.set_cons_zero, List.set_cons_succ]))
          )
          go_ret
          exact ⟨rfl, HK4.out.trans hk9 (fun _ _ h => h)⟩
        · have hre : (Re != 0) = true := by simpa using hRe
          clear hRe
          go_wp2_with (first
            | (go_at_call 14; go_must (refine (alive_any wr (HT.out.keep HKr.out id)).mono ?_; rintro e w9 ⟨rfl, hk9⟩); (try simp only [Act.put, List.setIfInBounds_toArray, List.set_cons_zero, List.set_cons_succ]))
          )
          go_ret
          exact ⟨rfl, HKr.out.trans hk9 (fun _ _ h => h)⟩
  · have Hc := Lib.hid hc
    clear hc
    go_enter Tryd.func5, Tryd.ntmps5
    go_wp2_with (first
      | (go_at_call 10; go_must (refine HC.out.mono ?_; rintro e w1 ⟨ov, rfl, hk1, hr1⟩; obtain ⟨oA, oc, rfl, _, _⟩ := id hr1)
         have HK1 := Lib.hid hk1
         have Hr1 := Lib.hid hr1
         have Ha1 := Lib.hid (HA.out.keep (X' := Y) hk1 (fun _ _ _ => id) (fun _ _ h => h))
         clear hk1 hr1
         (try simp only [Act.put, List.setIfInBounds_toArray, List.set_cons_zero, List.set_cons_succ]))
      | (go_at_call 16; go_must (refine (played_any own acts w1 _ _ _ _ Hr1.out Ha1.out (fun _ => HT.out.keep HK1.out id)).mono ?_; rintro e w2 ⟨hk2, hx2, -⟩; obtain rfl := hx2 Hc.out)
         have HK2 := Lib.hid (HK1.out.trans hk2 (fun _ _ h => h))
         clear hk2 hx2
         (try simp only [Act.put, List.setIfInBounds_toArray, List.set_cons_zero, List.set_cons_succ]))
      | (go_at_call 14; go_must (refine (alive_any w2 (HT.out.keep HK2.out id)).mono ?_; rintro e w9 ⟨rfl, hk9⟩); (try simp only [Act.put, List.setIfInBounds_toArray, List.set_cons_zero, List.set_cons_succ]))
    )
    go_ret
    exact ⟨rfl, HK2.out.trans hk9 (fun _ _ h => h)⟩
end Go.Proofs.QW

/-
  Asking without a bound, and asking with one again and again: a bounded Ask does the first part of the work, and asking again does the rest. No program in sight. No condition.
-/
namespace Go.Proofs.QM
set_option linter.unusedVariables false

abbrev Ans := List (Option KeptR)
/-- Asking without a bound: what is kept then, what was worked out, and what it comes to. -/
abbrev UFn := Ans → Int → Ans × List Int × Except Int (Int × Int)
def uAll (ask : UFn) (stop : Bool) : Ans → List Int → Ans × List Int × Except Int (List Int)
  | s, [] => (s, [], .ok [])
  | s, q :: r =>
    match ask s q with
    | (s1, l1, .error e) => (s1, l1, .error e)
    | (s1, l1, .ok (v, _)) =>
      if stop = true ∧ v ≠ 0 then (s1, l1, .ok [v]) else
      match uAll ask stop s1 r with
      | (s2, l2, .error e) => (s2, l1 ++ l2, .error e)
      | (s2, l2, .ok vs) => (s2, l1 ++ l2, .ok (v :: vs))
def uEval (ask : UFn) (s : Ans) (r : QRule) : Ans × List Int × Except Int (Int × List Int) :=
  if r.kind = 3 then
    match ask s (r.asks.getD 0 0) with
    | (s1, l1, .error e) => (s1, l1, .error e)
    | (s1, l1, .ok (v, _)) =>
      match ask s1 (pickOf r v) with
      | (s2, l2, .error e) => (s2, l1 ++ l2, .error e)
      | (s2, l2, .ok (u, _)) => (s2, l1 ++ l2, .ok (u, [r.asks.getD 0 0, pickOf r v]))
  else
    match uAll ask (r.kind == 4) s r.asks with
    | (s1, l1, .error e) => (s1, l1, .error e)
    | (s1, l1, .ok got) => (s1, l1, .ok (answerOf r got, r.asks.take got.length))
def uStale (ask : UFn) (checked : Int) : Ans → List Int → Ans × List Int × Except Int Bool
  | s, [] => (s, [], .ok false)
  | s, q :: r =>
    match ask s q with
    | (s1, l1, .error e) => (s1, l1, .error e)
    | (s1, l1, .ok (_, ch)) => if checked < ch then (s1, l1, .ok true) else
      match uStale ask checked s1 r with
      | (s2, l2, x) => (s2, l1 ++ l2, x)
def uWork (E : Env) (ask : UFn) (s : Ans) (q : Int) (was : Option KeptR) : Ans × List Int × Except Int (Int × Int) :=
  match uEval ask s (E.rule q) with
  | (s1, l1, .error e) => (s1, l1, .error e)
  | (s1, l1, .ok (v, asked)) => (s1.set q.toNat (some { value := v, asked := asked, checked := E.rev, changed := chOf E.rev was v }), l1 ++ [q], .ok (v, chOf E.rev was v))
def uAsk (E : Env) : Nat → List Int → UFn
  | 0, _, s, _ => (s, [], .error 99)
  | f + 1, on, s, q =>
    if (E.rule q).kind = 1 then (s, [], .ok (E.inp.getD q.toNat 0, E.inpCh.getD q.toNat 0))
    else if q ∈ on then (s, [], .error 8)
    else
      match s.getD q.toNat none with
      | some k =>
        if k.checked = E.rev then (s, [], .ok (k.value, k.changed))
        else
          match uStale (uAsk E f (q :: on)) k.checked s k.asked with
          | (s1, l1, .error e) => (s1, l1, .error e)
          | (s1, l1, .ok true) =>
            match uWork E (uAsk E f (q :: on)) s1 q (some k) with
            | (s2, l2, x) => (s2, l1 ++ l2, x)
          | (s1, l1, .ok false) => (s1.set q.toNat (some { k with checked := E.rev }), l1, .ok (k.value, k.changed))
      | none => uWork E (uAsk E f (q :: on)) s q none

/-- What is open stays, and what is current stays. -/
structure UStep (E : Env) (on : List Int) (s s' : Ans) : Prop where
  len : s'.length = s.length
  fix : ∀ p ∈ on, 0 ≤ p → s'.getD p.toNat none = s.getD p.toNat none
  stay : ∀ (p : Int) k, 0 ≤ p → s.getD p.toNat none = some k → k.checked = E.rev → s'.getD p.toNat none = some k
theorem UStep.refl {E : Env} {on : List Int} (s : Ans) : UStep E on s s := ⟨rfl, fun _ _ _ => rfl, fun _ _ _ h _ => h⟩
theorem UStep.trans {E : Env} {on : List Int} {a b c : Ans} (h : UStep E on a b) (k : UStep E on b c) : UStep E on a c :=
  ⟨k.len.trans h.len, fun p hp h0 => (k.fix p hp h0).trans (h.fix p hp h0), fun p kk h0 h1 h2 => k.stay p kk h0 (h.stay p kk h0 h1 h2) h2⟩
/-- A question that is answered: asking it again does nothing and comes to the same. -/
def UCur (E : Env) (s : Ans) (q : Int) (v ch : Int) : Prop := ((E.rule q).kind = 1 ∧ v = E.inp.getD q.toNat 0 ∧ ch = E.inpCh.getD q.toNat 0) ∨ ((E.rule q).kind ≠ 1 ∧ ∃ k, s.getD q.toNat none = some k ∧ k.checked = E.rev ∧ k.value = v ∧ k.changed = ch)
theorem UCur.stay {E : Env} {on : List Int} {s s' : Ans} {q v ch : Int} (h : UCur E s q v ch) (hq : 0 ≤ q) (hs : UStep E on s s') : UCur E s' q v ch := by
  rcases h with h | ⟨h, k, h1, h2, h3⟩
  · exact .inl h
  · exact .inr ⟨h, k, hs.stay q k hq h1 h2, h2, h3⟩
structure UInv (E : Env) (on : List Int) (s : Ans) : Prop where
  len : s.length = E.rules.length
  onq : ∀ p ∈ on, InQ E p
  ond : on.Nodup
  onk : ∀ p ∈ on, ∀ k, s.getD p.toNat none = some k → k.checked ≠ E.rev
  kin : ∀ q k, InQ E q → s.getD q.toNat none = some k → ∀ a ∈ k.asked, InQ E a
theorem UInv.step {E : Env} {on : List Int} {s s' : Ans} (h : UInv E on s) (hs : UStep E on s s') (hk : ∀ q k, InQ E q → s'.getD q.toNat none = some k → ∀ a ∈ k.asked, InQ E a) : UInv E on s' :=
  ⟨hs.len.trans h.len, h.onq, h.ond, fun p hp k hg => h.onk p hp k ((hs.fix p hp (h.onq p hp).1).symm.trans hg), hk⟩
/-- What asking without a bound keeps true. -/
def UGood (E : Env) (on : List Int) (u : UFn) : Prop := ∀ s q, UInv E on s → InQ E q → UStep E on s (u s q).1 ∧ UInv E on (u s q).1 ∧ ∀ v ch, (u s q).2.2 = .ok (v, ch) → UCur E (u s q).1 q v ch
/-- What is answered is asked for nothing. -/
def UImm (E : Env) (on : List Int) (u : UFn) : Prop := ∀ t q v ch, UInv E on t → InQ E q → UCur E t q v ch → u t q = (t, [], .ok (v, ch))
/-- Asking with a bound, against asking without one. -/
def BProp (E : Env) (m : Nat) (on : List Int) (b : AskFn) (u : UFn) : Prop := ∀ s d q, UInv E on s → d.length ≤ m → InQ E q →
  (d.length + (u s q).2.1.length ≤ m → b ⟨s, d⟩ q = (⟨(u s q).1, d ++ (u s q).2.1⟩, (u s q).2.2)) ∧
  (m < d.length + (u s q).2.1.length → ∃ t, b ⟨s, d⟩ q = (⟨t, d ++ (u s q).2.1.take (m - d.length)⟩, .error 13) ∧ UStep E on s t ∧ UInv E on t ∧ u t q = ((u s q).1, (u s q).2.1.drop (m - d.length), (u s q).2.2))
def uCons (v : Int) : Except Int (List Int) → Except Int (List Int)
  | .error e => .error e
  | .ok vs => .ok (v :: vs)
theorem take_low {α : Type} {a b : List α} {k : Nat} (h : k ≤ a.length) : (a ++ b).take k = a.take k ∧ (a ++ b).drop k = a.drop k ++ b := by
  rw [List.take_append, List.drop_append, show k - a.length = 0 by omega]; simp
theorem take_high {α : Type} {a b : List α} {k : Nat} (h : a.length ≤ k) : (a ++ b).take k = a ++ b.take (k - a.length) ∧ (a ++ b).drop k = b.drop (k - a.length) := by
  rw [List.take_append, List.drop_append, List.take_of_length_le h, List.drop_eq_nil_of_le h]; simp
theorem pick_in {E : Env} {r : QRule} (v : Int) (h : ROk E.rules.length r) (hk : r.kind = 3) : InQ E (pickOf r v) ∧ InQ E (r.asks.getD 0 0) := by
  have l1 := h.l1
  rw [hk] at l1; simp [bnds] at l1
  have hpos : 0 < (r.asks.length : Int) - 1 := by omega
  have a1 := Int.emod_nonneg v (show (r.asks.length : Int) - 1 ≠ 0 by omega)
  have a2 := Int.emod_lt_of_pos v hpos
  refine ⟨?_, (pick_mem (E := E) (v := 0) h hk (Int.le_refl 0)).2⟩
  unfold pickOf
  have hlt : (1 + v % ((r.asks.length : Int) - 1)).toNat < r.asks.length := by omega
  rw [List.getD_eq_getElem?_getD, List.getElem?_eq_getElem hlt]
  exact h.asks _ (List.getElem_mem hlt)
section
variable {E : Env} {m : Nat} {on : List Int} {b : AskFn} {u : UFn}
theorem uAll_good (hg : UGood E on u) (stop : Bool) : ∀ (l : List Int) (s : Ans), UInv E on s → (∀ q ∈ l, InQ E q) → UStep E on s (uAll u stop s l).1 ∧ UInv E on (uAll u stop s l).1
  | [], s, h, _ => ⟨UStep.refl s, h⟩
  | q :: r, s, h, hq => by
    obtain ⟨h1, h2, h3⟩ := hg s q h (hq q List.mem_cons_self)
    unfold uAll
    rcases hr : u s q with ⟨s1, l1, r1⟩
    rw [hr] at h1 h2
    cases r1 with
    | error e => exact ⟨h1, h2⟩
    | ok x =>
      obtain ⟨v, c⟩ := x
      simp only
      split
      · exact ⟨h1, h2⟩
      · have ih := uAll_good hg stop r s1 h2 (fun x hx => hq x (List.mem_cons_of_mem _ hx))
        rcases hr2 : uAll u stop s1 r with ⟨s2, l2, r2⟩
        rw [hr2] at ih
        cases r2 with
        | error e => exact ⟨h1.trans ih.1, ih.2⟩
        | ok vs => exact ⟨h1.trans ih.1, ih.2⟩
theorem uAll_again (hg : UGood E on u) (hi : UImm E on u) (stop : Bool) : ∀ (l : List Int) (s t : Ans) (got : List Int), UInv E on s → (∀ q ∈ l, InQ E q) → (uAll u stop s l).2.2 = .ok got → UStep E on (uAll u stop s l).1 t → UInv E on t → uAll u stop t l = (t, [], .ok got)
  | [], s, t, got, _, _, h, _, _ => by simp [uAll] at h ⊢; exact h
  | q :: r, s, t, got, hs, hq, h, hst, ht => by
    have hqq := hq q List.mem_cons_self
    obtain ⟨h1, h2, h3⟩ := hg s q hs hqq
    unfold uAll at h hst ⊢
    rcases hr : u s q with ⟨s1, l1, r1⟩
    rw [hr] at h1 h2 h3 h hst
    cases r1 with
    | error e => cases h
    | ok x =>
      obtain ⟨v, c⟩ := x
      have hcur := h3 v c rfl
      simp only at h hst hcur
      by_cases hs0 : stop = true ∧ v ≠ 0
      · rw [if_pos hs0] at h hst
        injection h with h
        rw [hi t q v c ht hqq (hcur.stay hqq.1 hst)]
        simp only [if_pos hs0, h]
      · rw [if_neg hs0] at h hst
        have ih := uAll_again hg hi stop r s1 t
        have hgd := uAll_good hg stop r s1 h2 (fun x hx => hq x (List.mem_cons_of_mem _ hx))
        rcases hr2 : uAll u stop s1 r with ⟨s2, l2, r2⟩
        rw [hr2] at ih h hst hgd
        cases r2 with
        | error e => cases h
        | ok vs =>
          simp only at h hst hgd
          injection h with h
          have h5 := ih vs h2 (fun x hx => hq x (List.mem_cons_of_mem _ hx)) rfl hst ht
          rw [hi t q v c ht hqq (hcur.stay hqq.1 (hgd.1.trans hst))]
          simp only [if_neg hs0, h5, List.nil_append, h]
theorem uAll_b (hg : UGood E on u) (hi : UImm E on u) (hb : BProp E m on b u) (stop : Bool) : ∀ (l : List Int) (s : Ans) (d : List Int), UInv E on s → d.length ≤ m → (∀ q ∈ l, InQ E q) →
    (d.length + (uAll u stop s l).2.1.length ≤ m → askAll b stop ⟨s, d⟩ l = (⟨(uAll u stop s l).1, d ++ (uAll u stop s l).2.1⟩, (uAll u stop s l).2.2)) ∧
    (m < d.length + (uAll u stop s l).2.1.length → ∃ t, askAll b stop ⟨s, d⟩ l = (⟨t, d ++ (uAll u stop s l).2.1.take (m - d.length)⟩, .error 13) ∧ UStep E on s t ∧ UInv E on t ∧
      uAll u stop t l = ((uAll u stop s l).1, (uAll u stop s l).2.1.drop (m - d.length), (uAll u stop s l).2.2))
  | [], s, d, hs, hd, _ => ⟨fun _ => by simp [uAll, askAll], fun h => absurd h (by simp [uAll]; omega)⟩
  | q :: r, s, d, hs, hd, hq => by
    have hqq := hq q List.mem_cons_self
    have hqr : ∀ x ∈ r, InQ E x := fun x hx => hq x (List.mem_cons_of_mem _ hx)
    obtain ⟨h1, h2, h3⟩ := hg s q hs hqq
    obtain ⟨b1, b2⟩ := hb s d q hs hd hqq
    have hag := fun t => uAll_again hg hi stop (q :: r) s t
    unfold askAll
    rcases hr : u s q with ⟨s1, l1, r1⟩
    rw [hr] at h1 h2 h3 b1 b2
    simp only at h1 h2 h3 b1 b2
    by_cases hm1 : d.length + l1.length ≤ m
    · rw [b1 hm1]
      cases r1 with
      | error e =>
        have hu : uAll u stop s (q :: r) = (s1, l1, .error e) := by unfold uAll; rw [hr]
        rw [hu]
        exact ⟨fun _ => rfl, fun h => absurd h (by simp only; omega)⟩
      | ok x =>
        obtain ⟨v, c⟩ := x
        have hcur := h3 v c rfl
        simp only
        by_cases hs0 : stop = true ∧ v ≠ 0
        · have hu : uAll u stop s (q :: r) = (s1, l1, .ok [v]) := by unfold uAll; rw [hr]; simp only [if_pos hs0]
          rw [hu, if_pos hs0]
          exact ⟨fun _ => rfl, fun h => absurd h (by simp only; omega)⟩
        · rw [if_neg hs0]
          have ih := uAll_b hg hi hb stop r s1 (d ++ l1) h2 (by simpa using hm1) hqr
          have hgd := uAll_good hg stop r s1 h2 hqr
          rcases hr2 : uAll u stop s1 r with ⟨s2, l2, r2⟩
          rw [hr2] at ih hgd
          obtain ⟨i1, i2⟩ := ih
          simp only [List.length_append] at i1 i2 hgd
          have hu : uAll u stop s (q :: r) = (s2, l1 ++ l2, uCons v r2) := by
            unfold uAll; rw [hr]; simp only [if_neg hs0, hr2]
            cases r2 <;> rfl
          rw [hu]
          simp only [List.length_append]
          refine ⟨fun hle => ?_, fun hgt => ?_⟩
          · rw [i1 (by omega)]
            cases r2 <;> simp only [List.append_assoc, uCons]
          · obtain ⟨t, e1, e2, e3, e4⟩ := i2 (by omega)
            have hth := take_high (a := l1) (b := l2) (k := m - d.length) (by omega)
            refine ⟨t, ?_, h1.trans e2, e3, ?_⟩
            · rw [e1, hth.1, List.append_assoc, show m - (d.length + l1.length) = m - d.length - l1.length by omega]
            · unfold uAll
              rw [hi t q v c e3 hqq (hcur.stay hqq.1 e2)]
              simp only [if_neg hs0, e4, hth.2, show m - (d.length + l1.length) = m - d.length - l1.length by omega]
              cases r2 <;> simp [uCons]
    · obtain ⟨t, e1, e2, e3, e4⟩ := b2 (by omega)
      rw [e1]
      simp only
      have hstep : ∀ (R : Ans × List Int × Except Int (List Int)), uAll u stop s (q :: r) = R → (∃ l2, R.2.1 = l1 ++ l2 ∧ uAll u stop t (q :: r) = (R.1, l1.drop (m - d.length) ++ l2, R.2.2)) := by
        intro R hR
        unfold uAll at hR ⊢
        rw [hr] at hR
        rw [e4]
        cases r1 with
        | error e => simp only at hR ⊢; subst hR; exact ⟨[], by simp, by simp⟩
        | ok x =>
          obtain ⟨v, c⟩ := x
          simp only at hR ⊢
          by_cases hs0 : stop = true ∧ v ≠ 0
          · rw [if_pos hs0] at hR ⊢; subst hR; exact ⟨[], by simp, by simp⟩
          · rw [if_neg hs0] at hR ⊢
            rcases hr2 : uAll u stop s1 r with ⟨s2, l2, r2⟩
            rw [hr2] at hR
            cases r2 with
            | error e => simp only at hR ⊢; subst hR; exact ⟨l2, rfl, rfl⟩
            | ok vs => simp only at hR ⊢; subst hR; exact ⟨l2, rfl, rfl⟩
      obtain ⟨l2, hl2, ht2⟩ := hstep _ rfl
      rw [hl2]
      have htl := take_low (a := l1) (b := l2) (k := m - d.length) (by omega)
      refine ⟨fun h => absurd h (by simp; omega), fun _ => ⟨t, ?_, e2, e3, ?_⟩⟩
      · rw [htl.1]
      · rw [ht2, htl.2]
theorem uEval_good (hg : UGood E on u) {r : QRule} (hr : ROk E.rules.length r) {s : Ans} (hs : UInv E on s) : UStep E on s (uEval u s r).1 ∧ UInv E on (uEval u s r).1 ∧ ∀ v asked, (uEval u s r).2.2 = .ok (v, asked) → ∀ a ∈ asked, InQ E a := by
  unfold uEval
  by_cases hk : r.kind = 3
  · rw [if_pos hk]
    have hq0 := (pick_in (E := E) 0 hr hk).2
    obtain ⟨h1, h2, h3⟩ := hg s _ hs hq0
    rcases hr1 : u s (r.asks.getD 0 0) with ⟨s1, l1, r1⟩
    rw [hr1] at h1 h2
    cases r1 with
    | error e => exact ⟨h1, h2, fun _ _ h => by cases h⟩
    | ok x =>
      obtain ⟨v, c⟩ := x
      have hqp := (pick_in (E := E) v hr hk).1
      obtain ⟨g1, g2, g3⟩ := hg s1 _ h2 hqp
      simp only
      rcases hr2 : u s1 (pickOf r v) with ⟨s2, l2, r2⟩
      rw [hr2] at g1 g2
      cases r2 with
      | error e => exact ⟨h1.trans g1, g2, fun _ _ h => by cases h⟩
      | ok y =>
        obtain ⟨w, c2⟩ := y
        refine ⟨h1.trans g1, g2, fun v' asked h a ha => ?_⟩
        injection h with h; injection h with h5 h6; subst h6
        simp only [List.mem_cons, List.not_mem_nil, or_false] at ha
        rcases ha with rfl | rfl
        · exact hq0
        · exact hqp
  · rw [if_neg hk]
    have h := uAll_good hg (r.kind == 4) r.asks s hs hr.asks
    rcases hr1 : uAll u (r.kind == 4) s r.asks with ⟨s1, l1, r1⟩
    rw [hr1] at h
    cases r1 with
    | error e => exact ⟨h.1, h.2, fun _ _ h => by cases h⟩
    | ok got =>
      refine ⟨h.1, h.2, fun v' asked h a ha => ?_⟩
      injection h with h; injection h with h5 h6; subst h6
      exact hr.asks a (List.mem_of_mem_take ha)
theorem uEval_again (hg : UGood E on u) (hi : UImm E on u) {r : QRule} (hr : ROk E.rules.length r) {s t : Ans} {x : Int × List Int} (hs : UInv E on s) (h : (uEval u s r).2.2 = .ok x) (hst : UStep E on (uEval u s r).1 t) (ht : UInv E on t) : uEval u t r = (t, [], .ok x) := by
  unfold uEval at h hst ⊢
  by_cases hk : r.kind = 3
  · rw [if_pos hk] at h hst ⊢
    have hq0 := (pick_in (E := E) 0 hr hk).2
    obtain ⟨h1, h2, h3⟩ := hg s _ hs hq0
    rcases hr1 : u s (r.asks.getD 0 0) with ⟨s1, l1, r1⟩
    rw [hr1] at h1 h2 h3 h hst
    cases r1 with
    | error e => cases h
    | ok y =>
      obtain ⟨v, c⟩ := y
      have hqp := (pick_in (E := E) v hr hk).1
      obtain ⟨g1, g2, g3⟩ := hg s1 _ h2 hqp
      have hcur := h3 v c rfl
      simp only at h hst hcur
      rcases hr2 : u s1 (pickOf r v) with ⟨s2, l2, r2⟩
      rw [hr2] at g1 g2 g3 h hst
      cases r2 with
      | error e => cases h
      | ok z =>
        obtain ⟨w, c2⟩ := z
        have hcur2 := g3 w c2 rfl
        simp only at h hst hcur2
        injection h with h
        rw [hi t _ v c ht hq0 (hcur.stay hq0.1 (g1.trans hst))]
        simp only
        rw [hi t _ w c2 ht hqp (hcur2.stay hqp.1 hst)]
        simp only [List.nil_append, h]
  · rw [if_neg hk] at h hst ⊢
    have hag := uAll_again hg hi (r.kind == 4) r.asks s t
    rcases hr1 : uAll u (r.kind == 4) s r.asks with ⟨s1, l1, r1⟩
    rw [hr1] at h hst hag
    cases r1 with
    | error e => cases h
    | ok got =>
      simp only at h hst
      injection h with h
      rw [hag got hs hr.asks rfl hst ht]
      simp only [h]
theorem uEval_b (hg : UGood E on u) (hi : UImm E on u) (hb : BProp E m on b u) {r : QRule} (hr : ROk E.rules.length r) {s : Ans} {d : List Int} (hs : UInv E on s) (hd : d.length ≤ m) :
    (d.length + (uEval u s r).2.1.length ≤ m → evalR b ⟨s, d⟩ r = (⟨(uEval u s r).1, d ++ (uEval u s r).2.1⟩, (uEval u s r).2.2)) ∧
    (m < d.length + (uEval u s r).2.1.length → ∃ t, evalR b ⟨s, d⟩ r = (⟨t, d ++ (uEval u s r).2.1.take (m - d.length)⟩, .error 13) ∧ UStep E on s t ∧ UInv E on t ∧
      uEval u t r = ((uEval u s r).1, (uEval u s r).2.1.drop (m - d.length), (uEval u s r).2.2)) := by
  by_cases hk : r.kind = 3
  · have hq0 := (pick_in (E := E) 0 hr hk).2
    obtain ⟨h1, h2, h3⟩ := hg s _ hs hq0
    obtain ⟨b1, b2⟩ := hb s d _ hs hd hq0
    have hue : ∀ t, uEval u t r = match u t (r.asks.getD 0 0) with
      | (s1, l1, .error e) => (s1, l1, .error e)
      | (s1, l1, .ok (v, _)) =>
        match u s1 (pickOf r v) with
        | (s2, l2, .error e) => (s2, l1 ++ l2, .error e)
        | (s2, l2, .ok (u, _)) => (s2, l1 ++ l2, .ok (u, [r.asks.getD 0 0, pickOf r v])) := fun t => by unfold uEval; rw [if_pos hk]
    have hev : evalR b ⟨s, d⟩ r = match b ⟨s, d⟩ (r.asks.getD 0 0) with
      | (s1, .error e) => (s1, .error e)
      | (s1, .ok (v, _)) =>
        match b s1 (pickOf r v) with
        | (s2, .error e) => (s2, .error e)
        | (s2, .ok (u, _)) => (s2, .ok (u, [r.asks.getD 0 0, pickOf r v])) := by unfold evalR; rw [if_pos hk]; rfl
    rw [hev]
    rcases hr1 : u s (r.asks.getD 0 0) with ⟨s1, l1, r1⟩
    rw [hr1] at h1 h2 h3 b1 b2
    simp only at h1 h2 h3 b1 b2
    by_cases hm1 : d.length + l1.length ≤ m
    · rw [b1 hm1]
      cases r1 with
      | error e =>
        have hu : uEval u s r = (s1, l1, .error e) := by rw [hue, hr1]
        rw [hu]
        exact ⟨fun _ => rfl, fun h => absurd h (by simp only; omega)⟩
      | ok x =>
        obtain ⟨v, c⟩ := x
        have hcur := h3 v c rfl
        have hqp := (pick_in (E := E) v hr hk).1
        obtain ⟨g1, g2, g3⟩ := hg s1 _ h2 hqp
        obtain ⟨c1, c2⟩ := hb s1 (d ++ l1) _ h2 (by simpa using hm1) hqp
        simp only
        rcases hr2 : u s1 (pickOf r v) with ⟨s2, l2, r2⟩
        rw [hr2] at g1 g2 g3 c1 c2
        simp only [List.length_append] at c1 c2
        have hu : ∃ R, uEval u s r = (s2, l1 ++ l2, R) ∧ (R = match r2 with | .error e => .error e | .ok (w, _) => .ok (w, [r.asks.getD 0 0, pickOf r v])) := by
          refine ⟨_, ?_, rfl⟩
          rw [hue, hr1]; simp only [hr2]
          rcases r2 with e | ⟨w, c'⟩ <;> rfl
        obtain ⟨R, hu, hR⟩ := hu
        rw [hu]
        simp only [List.length_append]
        refine ⟨fun hle => ?_, fun hgt => ?_⟩
        · rw [c1 (by omega), hR]
          rcases r2 with e | ⟨w, c'⟩ <;> simp only [List.append_assoc]
        · obtain ⟨t, e1, e2, e3, e4⟩ := c2 (by omega)
          have hth := take_high (a := l1) (b := l2) (k := m - d.length) (by omega)
          refine ⟨t, ?_, h1.trans e2, e3, ?_⟩
          · rw [e1, hth.1]; simp only [List.append_assoc, show m - (d.length + l1.length) = m - d.length - l1.length by omega]
          · rw [hue, hi t _ v c e3 hq0 (hcur.stay hq0.1 e2)]
            simp only
            rw [e4, hth.2, hR]
            simp only [show m - (d.length + l1.length) = m - d.length - l1.length by omega]
            rcases r2 with e | ⟨w, c'⟩ <;> simp
    · obtain ⟨t, e1, e2, e3, e4⟩ := b2 (by omega)
      rw [e1]
      simp only
      have hstep : ∀ R, uEval u s r = R → (∃ l2, R.2.1 = l1 ++ l2 ∧ uEval u t r = (R.1, l1.drop (m - d.length) ++ l2, R.2.2)) := by
        intro R hR
        rw [hue, hr1] at hR
        rw [hue, e4]
        cases r1 with
        | error e => simp only at hR ⊢; subst hR; exact ⟨[], by simp, by simp⟩
        | ok x =>
          obtain ⟨v, c⟩ := x
          simp only at hR ⊢
          rcases hr2 : u s1 (pickOf r v) with ⟨s2, l2, r2⟩
          rw [hr2] at hR
          rcases r2 with e | ⟨w, c'⟩
          · simp only at hR ⊢; subst hR; exact ⟨l2, rfl, rfl⟩
          · simp only at hR ⊢; subst hR; exact ⟨l2, rfl, rfl⟩
      obtain ⟨l2, hl2, ht2⟩ := hstep _ rfl
      rw [hl2]
      have htl := take_low (a := l1) (b := l2) (k := m - d.length) (by omega)
      refine ⟨fun h => absurd h (by simp; omega), fun _ => ⟨t, ?_, e2, e3, ?_⟩⟩
      · rw [htl.1]
      · rw [ht2, htl.2]
  · obtain ⟨h1, h2⟩ := uAll_b hg hi hb (r.kind == 4) r.asks s d hs hd hr.asks
    have hue : ∀ t, uEval u t r = match uAll u (r.kind == 4) t r.asks with
      | (s1, l1, .error e) => (s1, l1, .error e)
      | (s1, l1, .ok got) => (s1, l1, .ok (answerOf r got, r.asks.take got.length)) := fun t => by unfold uEval; rw [if_neg hk]
    have hev : evalR b ⟨s, d⟩ r = match askAll b (r.kind == 4) ⟨s, d⟩ r.asks with
      | (s1, .error e) => (s1, .error e)
      | (s1, .ok got) => (s1, .ok (answerOf r got, r.asks.take got.length)) := by unfold evalR; rw [if_neg hk]; rfl
    rw [hev]
    simp only [hue]
    rcases hr1 : uAll u (r.kind == 4) s r.asks with ⟨s1, l1, r1⟩
    rw [hr1] at h1 h2
    simp only at h1 h2
    cases r1 with
    | error e =>
      simp only
      refine ⟨fun hle => by rw [h1 hle], fun hgt => ?_⟩
      obtain ⟨t, e1, e2, e3, e4⟩ := h2 hgt
      exact ⟨t, by rw [e1], e2, e3, by rw [e4]⟩
    | ok got =>
      simp only
      refine ⟨fun hle => by rw [h1 hle], fun hgt => ?_⟩
      obtain ⟨t, e1, e2, e3, e4⟩ := h2 hgt
      exact ⟨t, by rw [e1], e2, e3, by rw [e4]⟩
theorem uStale_good (hg : UGood E on u) (c : Int) : ∀ (l : List Int) (s : Ans), UInv E on s → (∀ q ∈ l, InQ E q) → UStep E on s (uStale u c s l).1 ∧ UInv E on (uStale u c s l).1
  | [], s, h, _ => ⟨UStep.refl s, h⟩
  | q :: r, s, h, hq => by
    obtain ⟨h1, h2, h3⟩ := hg s q h (hq q List.mem_cons_self)
    unfold uStale
    rcases hr : u s q with ⟨s1, l1, r1⟩
    rw [hr] at h1 h2
    cases r1 with
    | error e => exact ⟨h1, h2⟩
    | ok x =>
      obtain ⟨v, ch⟩ := x
      simp only
      split
      · exact ⟨h1, h2⟩
      · have ih := uStale_good hg c r s1 h2 (fun x hx => hq x (List.mem_cons_of_mem _ hx))
        rcases hr2 : uStale u c s1 r with ⟨s2, l2, r2⟩
        rw [hr2] at ih
        exact ⟨h1.trans ih.1, ih.2⟩
theorem uStale_again (hg : UGood E on u) (hi : UImm E on u) (c : Int) : ∀ (l : List Int) (s t : Ans) (x : Bool), UInv E on s → (∀ q ∈ l, InQ E q) → (uStale u c s l).2.2 = .ok x → UStep E on (uStale u c s l).1 t → UInv E on t → uStale u c t l = (t, [], .ok x)
  | [], s, t, x, _, _, h, _, _ => by simp [uStale] at h ⊢; exact h
  | q :: r, s, t, x, hs, hq, h, hst, ht => by
    have hqq := hq q List.mem_cons_self
    obtain ⟨h1, h2, h3⟩ := hg s q hs hqq
    unfold uStale at h hst ⊢
    rcases hr : u s q with ⟨s1, l1, r1⟩
    rw [hr] at h1 h2 h3 h hst
    cases r1 with
    | error e => cases h
    | ok y =>
      obtain ⟨v, ch⟩ := y
      have hcur := h3 v ch rfl
      simp only at h hst hcur
      by_cases hs0 : c < ch
      · rw [if_pos hs0] at h hst
        injection h with h
        rw [hi t q v ch ht hqq (hcur.stay hqq.1 hst)]
        simp only [if_pos hs0, h]
      · rw [if_neg hs0] at h hst
        have ih := uStale_again hg hi c r s1 t
        have hgd := uStale_good hg c r s1 h2 (fun x hx => hq x (List.mem_cons_of_mem _ hx))
        rcases hr2 : uStale u c s1 r with ⟨s2, l2, r2⟩
        rw [hr2] at ih h hst hgd
        simp only at h hst hgd
        have h5 := ih x h2 (fun x hx => hq x (List.mem_cons_of_mem _ hx)) h hst ht
        rw [hi t q v ch ht hqq (hcur.stay hqq.1 (hgd.1.trans hst))]
        simp only [if_neg hs0, h5, List.nil_append]
theorem uStale_b (hg : UGood E on u) (hi : UImm E on u) (hb : BProp E m on b u) (c : Int) : ∀ (l : List Int) (s : Ans) (d : List Int), UInv E on s → d.length ≤ m → (∀ q ∈ l, InQ E q) →
    (d.length + (uStale u c s l).2.1.length ≤ m → staleF b c ⟨s, d⟩ l = (⟨(uStale u c s l).1, d ++ (uStale u c s l).2.1⟩, (uStale u c s l).2.2)) ∧
    (m < d.length + (uStale u c s l).2.1.length → ∃ t, staleF b c ⟨s, d⟩ l = (⟨t, d ++ (uStale u c s l).2.1.take (m - d.length)⟩, .error 13) ∧ UStep E on s t ∧ UInv E on t ∧
      uStale u c t l = ((uStale u c s l).1, (uStale u c s l).2.1.drop (m - d.length), (uStale u c s l).2.2))
  | [], s, d, hs, hd, _ => ⟨fun _ => by simp [uStale, staleF], fun h => absurd h (by simp [uStale]; omega)⟩
  | q :: r, s, d, hs, hd, hq => by
    have hqq := hq q List.mem_cons_self
    have hqr : ∀ x ∈ r, InQ E x := fun x hx => hq x (List.mem_cons_of_mem _ hx)
    obtain ⟨h1, h2, h3⟩ := hg s q hs hqq
    obtain ⟨b1, b2⟩ := hb s d q hs hd hqq
    unfold staleF
    rcases hr : u s q with ⟨s1, l1, r1⟩
    rw [hr] at h1 h2 h3 b1 b2
    simp only at h1 h2 h3 b1 b2
    by_cases hm1 : d.length + l1.length ≤ m
    · rw [b1 hm1]
      cases r1 with
      | error e =>
        have hu : uStale u c s (q :: r) = (s1, l1, .error e) := by unfold uStale; rw [hr]
        rw [hu]
        exact ⟨fun _ => rfl, fun h => absurd h (by simp only; omega)⟩
      | ok x =>
        obtain ⟨v, ch⟩ := x
        have hcur := h3 v ch rfl
        simp only
        by_cases hs0 : c < ch
        · have hu : uStale u c s (q :: r) = (s1, l1, .ok true) := by unfold uStale; rw [hr]; simp only [if_pos hs0]
          rw [hu, if_pos hs0]
          exact ⟨fun _ => rfl, fun h => absurd h (by simp only; omega)⟩
        · rw [if_neg hs0]
          have ih := uStale_b hg hi hb c r s1 (d ++ l1) h2 (by simpa using hm1) hqr
          rcases hr2 : uStale u c s1 r with ⟨s2, l2, r2⟩
          rw [hr2] at ih
          obtain ⟨i1, i2⟩ := ih
          simp only [List.length_append] at i1 i2
          have hu : uStale u c s (q :: r) = (s2, l1 ++ l2, r2) := by unfold uStale; rw [hr]; simp only [if_neg hs0, hr2]
          rw [hu]
          simp only [List.length_append]
          refine ⟨fun hle => ?_, fun hgt => ?_⟩
          · rw [i1 (by omega)]; simp only [List.append_assoc]
          · obtain ⟨t, e1, e2, e3, e4⟩ := i2 (by omega)
            have hth := take_high (a := l1) (b := l2) (k := m - d.length) (by omega)
            refine ⟨t, ?_, h1.trans e2, e3, ?_⟩
            · rw [e1, hth.1, List.append_assoc, show m - (d.length + l1.length) = m - d.length - l1.length by omega]
            · unfold uStale
              rw [hi t q v ch e3 hqq (hcur.stay hqq.1 e2)]
              simp only [if_neg hs0, e4, hth.2, show m - (d.length + l1.length) = m - d.length - l1.length by omega, List.nil_append]
    · obtain ⟨t, e1, e2, e3, e4⟩ := b2 (by omega)
      rw [e1]
      simp only
      have hstep : ∀ R, uStale u c s (q :: r) = R → (∃ l2, R.2.1 = l1 ++ l2 ∧ uStale u c t (q :: r) = (R.1, l1.drop (m - d.length) ++ l2, R.2.2)) := by
        intro R hR
        unfold uStale at hR ⊢
        rw [hr] at hR
        rw [e4]
        cases r1 with
        | error e => simp only at hR ⊢; subst hR; exact ⟨[], by simp, by simp⟩
        | ok x =>
          obtain ⟨v, ch⟩ := x
          simp only at hR ⊢
          by_cases hs0 : c < ch
          · rw [if_pos hs0] at hR ⊢; subst hR; exact ⟨[], by simp, by simp⟩
          · rw [if_neg hs0] at hR ⊢
            rcases hr2 : uStale u c s1 r with ⟨s2, l2, r2⟩
            rw [hr2] at hR
            simp only at hR ⊢
            subst hR
            exact ⟨l2, rfl, rfl⟩
      obtain ⟨l2, hl2, ht2⟩ := hstep _ rfl
      rw [hl2]
      have htl := take_low (a := l1) (b := l2) (k := m - d.length) (by omega)
      refine ⟨fun h => absurd h (by simp; omega), fun _ => ⟨t, ?_, e2, e3, ?_⟩⟩
      · rw [htl.1]
      · rw [ht2, htl.2]
end
theorem getD_put {s : Ans} {q p : Int} {k : KeptR} (hq : 0 ≤ q) (hl : q.toNat < s.length) (hp : 0 ≤ p) : (s.set q.toNat (some k)).getD p.toNat none = if p = q then some k else s.getD p.toNat none := by
  rw [List.getD_eq_getElem?_getD, List.getElem?_set]
  by_cases e : p = q
  · subst e; rw [if_pos rfl, if_pos rfl, if_pos hl]; rfl
  · rw [if_neg (by omega), if_neg e, List.getD_eq_getElem?_getD]
/-- A question gets its kept answer. -/
theorem UInv.put {E : Env} {on : List Int} {s0 s : Ans} {q : Int} {k : KeptR} (h0 : UInv E (q :: on) s0) (hs : UStep E (q :: on) s0 s) (h : UInv E (q :: on) s) (hk : ∀ a ∈ k.asked, InQ E a) : UStep E on s0 (s.set q.toNat (some k)) ∧ UInv E on (s.set q.toNat (some k)) := by
  have hq := h.onq q List.mem_cons_self
  have hn := (List.nodup_cons.1 h.ond).1
  have hl : q.toNat < s.length := by rw [h.len]; have := hq.1; have := hq.2; omega
  have hst : UStep E on s0 (s.set q.toNat (some k)) := by
    refine ⟨by rw [List.length_set]; exact hs.len, fun p hp hp0 => ?_, fun p kk hp0 hg hc => ?_⟩
    · rw [getD_put hq.1 hl hp0, if_neg (fun e => hn (by rw [← e]; exact hp))]
      exact hs.fix p (List.mem_cons_of_mem _ hp) hp0
    · have hne : p ≠ q := fun e => h0.onk q List.mem_cons_self kk (by rw [← e]; exact hg) hc
      rw [getD_put hq.1 hl hp0, if_neg hne]
      exact hs.stay p kk hp0 hg hc
  refine ⟨hst, ⟨by rw [List.length_set]; exact h.len, fun p hp => h.onq p (List.mem_cons_of_mem _ hp), (List.nodup_cons.1 h.ond).2, fun p hp kk hg => ?_, fun p kk hpq hg => ?_⟩⟩
  · have hpq := h.onq p (List.mem_cons_of_mem _ hp)
    rw [getD_put hq.1 hl hpq.1, if_neg (fun e => hn (by rw [← e]; exact hp))] at hg
    exact h.onk p (List.mem_cons_of_mem _ hp) kk hg
  · rw [getD_put hq.1 hl hpq.1] at hg
    split at hg
    · injection hg with hg; rw [← hg]; exact hk
    · exact h.kin p kk hpq hg
theorem UInv.tail {E : Env} {on : List Int} {s : Ans} {q : Int} (h : UInv E (q :: on) s) : UInv E on s :=
  ⟨h.len, fun p hp => h.onq p (List.mem_cons_of_mem _ hp), (List.nodup_cons.1 h.ond).2, fun p hp => h.onk p (List.mem_cons_of_mem _ hp), h.kin⟩
theorem UStep.tail {E : Env} {on : List Int} {s s' : Ans} {q : Int} (h : UStep E (q :: on) s s') : UStep E on s s' := ⟨h.len, fun p hp => h.fix p (List.mem_cons_of_mem _ hp), h.stay⟩
theorem UInv.open_ {E : Env} {on : List Int} {s : Ans} {q : Int} (h : UInv E on s) (hq : InQ E q) (hn : q ∉ on) (hk : ∀ k, s.getD q.toNat none = some k → k.checked ≠ E.rev) : UInv E (q :: on) s :=
  ⟨h.len, fun p hp => by rcases List.mem_cons.1 hp with rfl | hp; exact hq; exact h.onq p hp, List.nodup_cons.2 ⟨hn, h.ond⟩, fun p hp => by rcases List.mem_cons.1 hp with rfl | hp; exact hk; exact h.onk p hp, h.kin⟩
section
variable {E : Env} {m : Nat} {on : List Int} {b : AskFn} {u : UFn} {q : Int}
theorem uWork_good (hE : EnvOk E) (hg : UGood E (q :: on) u) (hq : InQ E q) (hk : (E.rule q).kind ≠ 1) {s : Ans} (was : Option KeptR) (hs : UInv E (q :: on) s) :
    UStep E on s (uWork E u s q was).1 ∧ UInv E on (uWork E u s q was).1 ∧ ∀ v ch, (uWork E u s q was).2.2 = .ok (v, ch) → UCur E (uWork E u s q was).1 q v ch := by
  obtain ⟨h1, h2, h3⟩ := uEval_good hg (hE.rok _ (rule_mem hq)) hs
  unfold uWork
  rcases he : uEval u s (E.rule q) with ⟨s1, l1, r1⟩
  rw [he] at h1 h2 h3
  cases r1 with
  | error e => exact ⟨h1.tail, h2.tail, fun _ _ h => by cases h⟩
  | ok x =>
    obtain ⟨v, asked⟩ := x
    have hput := hs.put h1 h2 (k := ⟨v, asked, E.rev, chOf E.rev was v⟩) (h3 v asked rfl)
    have hl : q.toNat < s1.length := by have : s1.length = E.rules.length := h2.len; have := hq.1; have := hq.2; omega
    refine ⟨hput.1, hput.2, fun v' ch' h => ?_⟩
    injection h with h; injection h with h5 h6; subst h5; subst h6
    exact .inr ⟨hk, _, by rw [getD_put hq.1 hl hq.1, if_pos rfl], rfl, rfl, rfl⟩
theorem uWork_b (hE : EnvOk E) (hm : E.most = (m : Int)) (hg : UGood E (q :: on) u) (hi : UImm E (q :: on) u) (hb : BProp E m (q :: on) b u) (hq : InQ E q) {s : Ans} {d : List Int} (was : Option KeptR) (hs : UInv E (q :: on) s) (hd : d.length ≤ m) :
    (d.length + (uWork E u s q was).2.1.length ≤ m → workF E b ⟨s, d⟩ q was = (⟨(uWork E u s q was).1, d ++ (uWork E u s q was).2.1⟩, (uWork E u s q was).2.2)) ∧
    (m < d.length + (uWork E u s q was).2.1.length → ∃ t, workF E b ⟨s, d⟩ q was = (⟨t, d ++ (uWork E u s q was).2.1.take (m - d.length)⟩, .error 13) ∧ UStep E (q :: on) s t ∧ UInv E (q :: on) t ∧
      uWork E u t q was = ((uWork E u s q was).1, (uWork E u s q was).2.1.drop (m - d.length), (uWork E u s q was).2.2)) := by
  have hr := hE.rok _ (rule_mem hq)
  obtain ⟨h1, h2, h3⟩ := uEval_good hg hr hs
  obtain ⟨b1, b2⟩ := uEval_b hg hi hb hr hs hd
  have hag := fun x t => uEval_again hg hi hr (s := s) (t := t) (x := x) hs
  unfold uWork workF
  rcases he : uEval u s (E.rule q) with ⟨s1, l1, r1⟩
  rw [he] at h1 h2 h3 b1 b2 hag
  simp only at h1 h2 h3 b1 b2 hag
  cases r1 with
  | error e =>
    simp only
    refine ⟨fun hle => by rw [b1 hle], fun hgt => ?_⟩
    obtain ⟨t, e1, e2, e3, e4⟩ := b2 hgt
    exact ⟨t, by rw [e1], e2, e3, by rw [e4]⟩
  | ok x =>
    obtain ⟨v, asked⟩ := x
    simp only [List.length_append, List.length_cons, List.length_nil]
    refine ⟨fun hle => ?_, fun hgt => ?_⟩
    · rw [b1 (by omega)]
      simp only [List.length_append]
      rw [if_neg (by omega)]
      simp only [PS.set, List.append_assoc]
    · by_cases hl1 : d.length + l1.length ≤ m
      · have hth := take_high (a := l1) (b := [q]) (k := m - d.length) (by omega)
        refine ⟨s1, ?_, h1, h2, ?_⟩
        · rw [b1 hl1]
          simp only [List.length_append]
          rw [if_pos (by omega), hth.1, show m - d.length - l1.length = 0 by omega]
          simp
        · rw [hag (v, asked) s1 rfl (UStep.refl s1) h2]
          simp only [List.nil_append]
          rw [hth.2, show m - d.length - l1.length = 0 by omega]
          rfl
      · obtain ⟨t, e1, e2, e3, e4⟩ := b2 (by omega)
        have htl := take_low (a := l1) (b := [q]) (k := m - d.length) (by omega)
        refine ⟨t, ?_, e2, e3, ?_⟩
        · rw [e1, htl.1]
        · rw [e4, htl.2]
end
theorem uAsk_all {E : Env} (hE : EnvOk E) : ∀ (f : Nat) (on : List Int), E.rules.length + 1 ≤ f + on.length → UGood E on (uAsk E f on) ∧ UImm E on (uAsk E f on)
  | 0, on, h => ⟨fun s q hs _ => by have := nodup_length hs.ond hs.onq; omega, fun t q v ch ht _ _ => by have := nodup_length ht.ond ht.onq; omega⟩
  | f + 1, on, h => by
    refine ⟨fun s q hs hq => ?_, fun t q v ch ht hq hc => ?_⟩
    · unfold uAsk
      by_cases hk : (E.rule q).kind = 1
      · rw [if_pos hk]
        refine ⟨UStep.refl s, hs, fun v ch h => ?_⟩
        injection h with h; injection h with h1 h2; subst h1; subst h2
        exact .inl ⟨hk, rfl, rfl⟩
      rw [if_neg hk]
      by_cases hon : q ∈ on
      · rw [if_pos hon]; exact ⟨UStep.refl s, hs, fun v ch h => by cases h⟩
      rw [if_neg hon]
      obtain ⟨hg, hi⟩ := uAsk_all hE f (q :: on) (by simp; omega)
      cases hgq : s.getD q.toNat none with
      | none => exact uWork_good hE hg hq hk none (hs.open_ hq hon (fun k h => by rw [hgq] at h; cases h))
      | some k =>
        simp only
        by_cases hc : k.checked = E.rev
        · rw [if_pos hc]
          refine ⟨UStep.refl s, hs, fun v ch h => ?_⟩
          injection h with h; injection h with h1 h2; subst h1; subst h2
          exact .inr ⟨hk, k, hgq, hc, rfl, rfl⟩
        · rw [if_neg hc]
          have hs' := hs.open_ hq hon (fun k' h => by rw [hgq] at h; injection h with h; exact h ▸ hc)
          have hka := hs.kin q k hq hgq
          have hst := uStale_good hg k.checked k.asked s hs' hka
          rcases he : uStale (uAsk E f (q :: on)) k.checked s k.asked with ⟨s1, l1, r1⟩
          rw [he] at hst
          rcases r1 with e | x
          · exact ⟨hst.1.tail, hst.2.tail, fun v ch h => by cases h⟩
          · cases x with
            | true =>
              have hw := uWork_good hE hg hq hk (some k) hst.2
              simp only
              rcases hw' : uWork E (uAsk E f (q :: on)) s1 q (some k) with ⟨s2, l2, r2⟩
              rw [hw'] at hw
              exact ⟨hst.1.tail.trans hw.1, hw.2.1, hw.2.2⟩
            | false =>
              have hput := hs'.put hst.1 hst.2 (k := { k with checked := E.rev }) hka
              have hl : q.toNat < s1.length := by have : s1.length = E.rules.length := hst.2.len; have := hq.1; have := hq.2; omega
              refine ⟨hput.1, hput.2, fun v ch h => ?_⟩
              injection h with h; injection h with h5 h6; subst h5; subst h6
              exact .inr ⟨hk, { k with checked := E.rev }, by rw [getD_put hq.1 hl hq.1, if_pos rfl], rfl, rfl, rfl⟩
    · unfold uAsk
      rcases hc with ⟨hk, hv, hch⟩ | ⟨hk, k, hg, hck, hv, hch⟩
      · rw [if_pos hk, hv, hch]
      · rw [if_neg hk, if_neg (fun hon => ht.onk q hon k hg hck)]
        simp only [hg]
        rw [if_pos hck, hv, hch]
theorem uAsk_b {E : Env} (hE : EnvOk E) {m : Nat} (hm : E.most = (m : Int)) : ∀ (f : Nat) (on : List Int), E.rules.length + 1 ≤ f + on.length → BProp E m on (askF E f on) (uAsk E f on)
  | 0, on, h => fun s d q hs _ _ => by have := nodup_length hs.ond hs.onq; omega
  | f + 1, on, h => fun s d q hs hd hq => by
    unfold uAsk askF
    by_cases hk : (E.rule q).kind = 1
    · simp only [if_pos hk]
      exact ⟨fun _ => by simp, fun h => absurd h (by simp; omega)⟩
    simp only [if_neg hk]
    by_cases hon : q ∈ on
    · simp only [if_pos hon]
      exact ⟨fun _ => by simp, fun h => absurd h (by simp; omega)⟩
    simp only [if_neg hon]
    obtain ⟨hg, hi⟩ := uAsk_all hE f (q :: on) (by simp; omega)
    have hb := uAsk_b hE hm f (q :: on) (by simp; omega)
    have hpg : (⟨s, d⟩ : PS).get q = s.getD q.toNat none := rfl
    rw [hpg]
    cases hgq : s.getD q.toNat none with
    | none =>
      simp only
      have hs' := hs.open_ hq hon (fun k h => by rw [hgq] at h; cases h)
      obtain ⟨w1, w2⟩ := uWork_b hE hm hg hi hb hq none hs' hd
      refine ⟨w1, fun hgt => ?_⟩
      obtain ⟨t, e1, e2, e3, e4⟩ := w2 hgt
      have htq : t.getD q.toNat none = none := (e2.fix q List.mem_cons_self hq.1).trans hgq
      refine ⟨t, e1, e2.tail, e3.tail, ?_⟩
      simp only [htq]
      exact e4
    | some k =>
      simp only
      by_cases hc : k.checked = E.rev
      · simp only [if_pos hc]
        exact ⟨fun _ => by simp, fun h => absurd h (by simp; omega)⟩
      · simp only [if_neg hc]
        have hs' := hs.open_ hq hon (fun k' h => by rw [hgq] at h; injection h with h; exact h ▸ hc)
        have hka := hs.kin q k hq hgq
        have hst := uStale_good hg k.checked k.asked s hs' hka
        obtain ⟨s1', s2'⟩ := uStale_b hg hi hb k.checked k.asked s d hs' hd hka
        have hag := fun x t => uStale_again hg hi k.checked k.asked s t x hs' hka
        rcases he : uStale (uAsk E f (q :: on)) k.checked s k.asked with ⟨s1, l1, r1⟩
        rw [he] at hst s1' s2' hag
        simp only at hst s1' s2' hag
        by_cases hl1 : d.length + l1.length ≤ m
        · rw [s1' hl1]
          rcases r1 with e | x
          · exact ⟨fun _ => rfl, fun h => absurd h (by show ¬ m < d.length + l1.length; omega)⟩
          · cases x with
            | false =>
              exact ⟨fun _ => rfl, fun h => absurd h (by show ¬ m < d.length + l1.length; omega)⟩
            | true =>
              simp only
              have hgs1 : s1.getD q.toNat none = some k := (hst.1.fix q List.mem_cons_self hq.1).trans hgq
              obtain ⟨w1, w2⟩ := uWork_b hE hm hg hi hb hq (some k) hst.2 (d := d ++ l1) (by simpa using hl1)
              rcases hw : uWork E (uAsk E f (q :: on)) s1 q (some k) with ⟨s2, l2, r2⟩
              rw [hw] at w1 w2
              simp only [List.length_append] at w1 w2 ⊢
              refine ⟨fun hle => ?_, fun hgt => ?_⟩
              · rw [w1 (by omega), List.append_assoc]
              · obtain ⟨t, e1, e2, e3, e4⟩ := w2 (by omega)
                have hth := take_high (a := l1) (b := l2) (k := m - d.length) (by omega)
                have htq : t.getD q.toNat none = some k := (e2.fix q List.mem_cons_self hq.1).trans hgs1
                refine ⟨t, ?_, (hst.1.trans e2).tail, e3.tail, ?_⟩
                · rw [e1, hth.1, List.append_assoc, show m - (d.length + l1.length) = m - d.length - l1.length by omega]
                · simp only [htq, if_neg hc]
                  rw [hag true t rfl e2 e3]
                  simp only [e4, List.nil_append]
                  rw [hth.2, show m - (d.length + l1.length) = m - d.length - l1.length by omega]
        · obtain ⟨t, e1, e2, e3, e4⟩ := s2' (by omega)
          have htq : t.getD q.toNat none = some k := (e2.fix q List.mem_cons_self hq.1).trans hgq
          rw [e1]
          simp only
          have hstep : ∀ R, (match (s1, l1, r1) with
              | (s1, l1, .error e) => ((s1, l1, .error e) : Ans × List Int × Except Int (Int × Int))
              | (s1, l1, .ok true) =>
                match uWork E (uAsk E f (q :: on)) s1 q (some k) with
                | (s2, l2, x) => (s2, l1 ++ l2, x)
              | (s1, l1, .ok false) => (s1.set q.toNat (some { k with checked := E.rev }), l1, .ok (k.value, k.changed))) = R →
              ∃ l2, R.2.1 = l1 ++ l2 ∧ uAsk E (f + 1) on t q = (R.1, l1.drop (m - d.length) ++ l2, R.2.2) := by
            intro R hR
            unfold uAsk
            simp only [if_neg hk, if_neg hon, htq, if_neg hc, e4]
            rcases r1 with e | x
            · simp only at hR ⊢; subst hR; exact ⟨[], by simp, by simp⟩
            · cases x with
              | false => simp only at hR ⊢; subst hR; exact ⟨[], by simp, by simp⟩
              | true =>
                simp only at hR ⊢
                rcases hw : uWork E (uAsk E f (q :: on)) s1 q (some k) with ⟨s2, l2, r2⟩
                rw [hw] at hR
                simp only at hR ⊢
                subst hR
                exact ⟨l2, rfl, rfl⟩
          obtain ⟨l2, hl2, ht2⟩ := hstep _ rfl
          have htl := take_low (a := l1) (b := l2) (k := m - d.length) (by omega)
          rw [uAsk] at ht2
          rw [hl2]
          refine ⟨fun h => absurd h (by simp; omega), fun _ => ⟨t, ?_, e2.tail, e3.tail, ?_⟩⟩
          · rw [htl.1]
          · simp only [if_neg hk, if_neg hon] at ht2
            rw [ht2, htl.2]
end Go.Proofs.QM

/-
  A kept answer that must be there (found), what it asked (Asked) and when (When), of an engine that lives, in memory. Condition: the engine lies.
-/
namespace Go.Proofs.QW
open Go.RowKit Go.Proofs.KL Go.Proofs.QM
set_option maxRecDepth 100000
set_option linter.unusedSimpArgs false
set_option linter.unusedVariables false

def foundF (E : Env) (ans : List (Option KeptR)) (q : Int) : KeptR × Int :=
  if isErr E.rules.length q ≠ 0 then (k0, 5)
  else if (E.rule q).kind = 1 then (⟨E.inp.getD q.toNat 0, [], E.rev, E.inpCh.getD q.toNat 0⟩, 0)
  else match ans.getD q.toNat none with
    | none => (k0, 8)
    | some k => (k, 0)
set_option maxHeartbeats 4000000 in
/-- FOUND. -/
theorem Found_any (X : Nat → Prop) (eb ib mb : Nat) (E : Env) (ans : List (Option KeptR)) (q : Int) (w : World) (h : EngAt w X eb ib mb E ans) (hl : E.rules.length ≤ 200) :
    Calls Tryd.prog 41 #[.pointer (some ⟨eb, 0, none⟩), .int .i64 q] w fun e w' => ∃ u, e = .returned (.tuple #[.agg #[.int .i64 (foundF E ans q).1.value, u, .int .i64 (foundF E ans q).1.checked, .int .i64 (foundF E ans q).1.changed], .int .i64 (foundF E ans q).2]) ∧ Keeps Nob w w' ∧ IntsX w' X u (foundF E ans q).1.asked := by
  obtain ⟨R, hR⟩ : ∃ r, foundF E ans q = r := ⟨_, rfl⟩
  rw [hR]
  unfold foundF at hR
  obtain ⟨⟨rv, c, hb, hr⟩, ⟨cs, hib, hinp⟩, ⟨es, cl, hmb, hkey, hout, hans⟩, _, _, _⟩ := h
  have hr0 := hr
  obtain ⟨A, cc, rfl, hcc, hrx⟩ := hr0
  have e0 := (blk_cell hb 0).trans rfl
  have e1 := (blk_cell hb 1).trans rfl
  have e2 := (blk_cell hb 2).trans rfl
  have e3 := (blk_cell hb 3).trans rfl
  have Hr := Lib.hid hr
  have Hmb := Lib.hid hmb
  have Hkey := Lib.hid hkey
  have Hans := Lib.hid hans
  have Hinp := Lib.hid hinp
  have Hib := Lib.hid hib
  obtain ⟨i85, hi85, hs85⟩ := info85
  obtain ⟨i3, hi3, hs3⟩ := infoS3
  have HJ := Lib.hid (And.intro (And.intro hi85 hs85) (And.intro hi3 hs3))
  clear hr hb hrx hmb hinp hib hkey hans hout hi85 hs85 hi3 hs3
  by_cases hq : isErr E.rules.length q ≠ 0
  · have hE : isErr E.rules.length q = 5 := by unfold isErr at hq ⊢; split at hq; rw [if_pos (by assumption)]; exact absurd rfl hq
    rw [if_pos hq] at hR
    have HR := Lib.hid hR
    have HEr := Lib.hid hE
    clear hE hq hR
    go_enter Tryd.func41, Tryd.ntmps41
    go_wp2_with (first
      | ((with_reducible refine at_dst (N := 4) rfl ?_); go_must (refine ev_alloc rfl rfl zero85 rfl ?_; intro g4 w1 hg4 hl4 hb4 hk1)
         have Hb4 := Lib.hid hb4
         have e0 := hk1.cell e0 id
         have e1 := hk1.cell e1 id
         have e2 := hk1.cell e2 id
         have e3 := hk1.cell e3 id
         have HK1 := Lib.hid hk1
         have Hrr := Lib.hid (Hr.out.keep (X' := X) hk1 (fun _ _ _ => id) (fun _ _ h => h))
         clear hb4
         (try simp only [Act.put, List.setIfInBounds_toArray, List.set_cons_zero, List.set_cons_succ]))
      | (go_at_call 38; go_must (refine (is_some _ _ _ _ _ _ _ (by assumption) (by assumption) hl).mono ?_; rintro e w' ⟨rfl, rfl⟩; rw [HEr.out]))
      | ((with_reducible refine at_store (t := 85) (p := 4) rfl ?_); go_must (refine ev_store (cs' := #[.int .i64 0, .slice none 0 0, .int .i64 0, .int .i64 0]) rfl rfl rfl rfl rfl rfl HJ.out.1.1 HJ.out.1.2 rfl Hb4.out (Nat.le_of_ble_eq_true rfl) rfl ?_; intro w2 hbz hk2); (try simp only [Act.put, List.setIfInBounds_toArray, List.set_cons_zero, List.set_cons_succ])))
    have r0 := (blk_cell hbz 0).trans rfl
    have r1 := (blk_cell hbz 1).trans rfl
    have r2 := (blk_cell hbz 2).trans rfl
    have r3 := (blk_cell hbz 3).trans rfl
    refine bodyPost_ret (v := .tuple #[.agg #[.int .i64 0, .slice none 0 0, .int .i64 0, .int .i64 0], .int .i64 5]) (by rw [results_cell_tmp rfl]; go_simp; try rfl) rfl ?_
    rw [← HR.out]
    exact ⟨.slice none 0 0, rfl, hk1.own hk2 hg4, nil_ints _ _⟩
  · have hE : isErr E.rules.length q = 0 := by omega
    obtain ⟨hq0, hq1⟩ := isErr_in hq
    rw [if_neg hq] at hR
    have HEr := Lib.hid hE
    clear hE hq
    have hin : (E.rules.getD q.toNat default).kind = (E.rule q).kind := rfl
    by_cases hk : (E.rule q).kind = 1
    · rw [if_pos hk] at hR
      have HR := Lib.hid hR
      have hkb : ((E.rule q).kind == 1) = true := by rw [hk]; rfl
      have HI := Lib.hid (And.intro hin hkb)
      obtain ⟨i, rfl⟩ := Int.eq_ofNat_of_zero_le hq0
      have hqi : i < E.rules.length := by omega
      obtain ⟨d0, d1, d2, d3⟩ := Hinp.out i hqi
      have d0 := (blk_cell Hib.out (i * 4)).trans d0
      have d1 := (blk_cell Hib.out (i * 4 + 1)).trans d1
      have d2 := (blk_cell Hib.out (i * 4 + 2)).trans d2
      have d3 := (blk_cell Hib.out (i * 4 + 3)).trans d3
      have hR2 := HR.out
      simp only [Int.toNat_natCast] at hR2
      have HR2 := Lib.hid hR2
      generalize E.inp.getD i 0 = iv at *
      generalize E.inpCh.getD i 0 = ic at *
      clear hin hkb hk hR HR hR2
      go_enter Tryd.func41, Tryd.ntmps41
      go_wp2_with (first
        | ((with_reducible refine at_dst (N := 4) rfl ?_); go_must (refine ev_alloc rfl rfl zero85 rfl ?_; intro g4 w1 hg4 hl4 hb4 hk1)
           have Hb4 := Lib.hid hb4
           have e0 := hk1.cell e0 id
           have e1 := hk1.cell e1 id
           have e2 := hk1.cell e2 id
           have e3 := hk1.cell e3 id
           have d0 := hk1.cell d0 id
           have d1 := hk1.cell d1 id
           have d2 := hk1.cell d2 id
           have d3 := hk1.cell d3 id
           have HK1 := Lib.hid hk1
           have Hrr := Lib.hid (Hr.out.keep (X' := X) hk1 (fun _ _ _ => id) (fun _ _ h => h))
           clear hb4
           (try simp only [Act.put, List.setIfInBounds_toArray, List.set_cons_zero, List.set_cons_succ]))
        | (go_at_call 38; go_must (refine (is_some _ _ _ _ _ _ _ (by assumption) (by assumption) hl).mono ?_; rintro e w' ⟨rfl, rfl⟩; rw [HEr.out]))
        | (go_at_call 37; go_must (refine (input_any _ _ E.rules X _ _ (by assumption) Hrr.out hq0 hq1 hl).mono ?_; rintro e w' ⟨rfl, rfl⟩; rw [HI.out.1, HI.out.2]))
        | ((with_reducible refine at_dst (N := 7) rfl ?_); go_must (refine ev_alloc rfl rfl zero85 rfl ?_; intro g7 w2 hg7 hl7 hb7 hk2); have Hb7 := Lib.hid hb7; clear hb7; (try simp only [Act.put, List.setIfInBounds_toArray, List.set_cons_zero, List.set_cons_succ]))
        | ((with_reducible refine at_store (t := 85) (p := 7) rfl ?_); go_must (refine ev_store (cs' := #[.int .i64 iv, .slice none 0 0, .int .i64 0, .int .i64 ic]) rfl rfl rfl rfl rfl rfl HJ.out.1.1 HJ.out.1.2 rfl Hb7.out (Nat.le_of_ble_eq_true rfl) rfl ?_; intro w3 hb3 hk3)
           have Hb3 := Lib.hid hb3
           have HK3 := Lib.hid (hk2.own hk3 hg7)
           have e3 := HK3.out.cell e3 id
           clear hb3
           (try simp only [Act.put, List.setIfInBounds_toArray, List.set_cons_zero, List.set_cons_succ]))
        | ((with_reducible refine at_store (t := 3) rfl ?_); go_must (refine ev_store (cs' := #[.int .i64 iv, .slice none 0 0, .int .i64 E.rev, .int .i64 ic]) rfl rfl rfl rfl rfl rfl HJ.out.2.1 HJ.out.2.2 rfl Hb3.out (Nat.le_of_ble_eq_true rfl) rfl ?_; intro w4 hb4' hk4)
           have f0 := (blk_cell hb4' 0).trans rfl
           have f1 := (blk_cell hb4' 1).trans rfl
           have f2 := (blk_cell hb4' 2).trans rfl
           have f3 := (blk_cell hb4' 3).trans rfl
           clear hb4'
           (try simp only [Act.put, List.setIfInBounds_toArray, List.set_cons_zero, List.set_cons_succ]))
        | ((with_reducible refine at_store (t := 85) (p := 4) rfl ?_); go_must (refine ev_store (cs' := #[.int .i64 iv, .slice none 0 0, .int .i64 E.rev, .int .i64 ic]) rfl rfl rfl rfl rfl rfl HJ.out.1.1 HJ.out.1.2 rfl (hk4.blk (HK3.out.blk Hb4.out id) (by show ¬ g4 = g7; omega)) (Nat.le_of_ble_eq_true rfl) rfl ?_; intro w5 hbz hk5); (try simp only [Act.put, List.setIfInBounds_toArray, List.set_cons_zero, List.set_cons_succ])))
      have r0 := (blk_cell hbz 0).trans rfl
      have r1 := (blk_cell hbz 1).trans rfl
      have r2 := (blk_cell hbz 2).trans rfl
      have r3 := (blk_cell hbz 3).trans rfl
      refine bodyPost_ret (v := .tuple #[.agg #[.int .i64 iv, .slice none 0 0, .int .i64 E.rev, .int .i64 ic], .int .i64 0]) (by rw [results_cell_tmp rfl]; go_simp; try rfl) rfl ?_
      rw [← HR2.out]
      exact ⟨.slice none 0 0, rfl, ((HK1.out.trans HK3.out (fun _ _ h => h)).own hk4 (by have := HK1.out.size; omega)).own hk5 hg4, nil_ints _ _⟩
    · rw [if_neg hk] at hR
      have hkb : ((E.rule q).kind == 1) = false := by simpa using hk
      have HI := Lib.hid (And.intro hin hkb)
      obtain ⟨u, hv, hui, hsm⟩ := AnsX.get hq0 hq1 Hans.out
      obtain ⟨uA, uc, rfl, _, _⟩ := id hui
      obtain ⟨was, hwas⟩ : ∃ x, ans.getD q.toNat none = x := ⟨_, rfl⟩
      rw [hwas] at hR hv hsm hui
      generalize hkd : was.getD k0 = k at *
      have Hv := Lib.hid hv
      have Hui := Lib.hid hui
      have HR := Lib.hid hR
      clear hv hR hin hkb hk hwas hui
      cases was with
      | none =>
        have Hsm := Lib.hid (show (mlook es.toList q).isSome = false from hsm)
        have HR2 := Lib.hid (show ((k0, 8) : KeptR × Int) = R from HR.out)
        clear hsm HR hkd
        go_enter Tryd.func41, Tryd.ntmps41
        go_wp2_with (first
          | ((with_reducible refine at_dst (N := 4) rfl ?_); go_must (refine ev_alloc rfl rfl zero85 rfl ?_; intro g4 w1 hg4 hl4 hb4 hk1)
             have Hb4 := Lib.hid hb4
             have e0 := hk1.cell e0 id
             have e1 := hk1.cell e1 id
             have e2 := hk1.cell e2 id
             have e3 := hk1.cell e3 id
             have HK1 := Lib.hid hk1
             have Hrr := Lib.hid (Hr.out.keep (X' := X) hk1 (fun _ _ _ => id) (fun _ _ h => h))
             clear hb4
             (try simp only [Act.put, List.setIfInBounds_toArray, List.set_cons_zero, List.set_cons_succ]))
          | (go_at_call 38; go_must (refine (is_some _ _ _ _ _ _ _ (by assumption) (by assumption) hl).mono ?_; rintro e w' ⟨rfl, rfl⟩; rw [HEr.out]))
          | (go_at_call 37; go_must (refine (input_any _ _ E.rules X _ _ (by assumption) Hrr.out hq0 hq1 hl).mono ?_; rintro e w' ⟨rfl, rfl⟩; rw [HI.out.1, HI.out.2]))
          | ((with_reducible refine at_dst (N := 39) rfl ?_); go_must (refine ev_lookup_ok rfl rfl Tryd.underlying61 Tryd.underlying3 zero85 rfl rfl (HK1.out.blk Hmb.out id) Hkey.out ?_; rw [Hv.out, Hsm.out]); (try simp only [Act.put, List.setIfInBounds_toArray, List.set_cons_zero, List.set_cons_succ]))
          | ((with_reducible refine at_dst (N := 8) rfl ?_); go_must (refine ev_alloc rfl rfl zero85 rfl ?_; intro g8 w2 hg8 hl8 hb8 hk2); have Hb8 := Lib.hid hb8; clear hb8; (try simp only [Act.put, List.setIfInBounds_toArray, List.set_cons_zero, List.set_cons_succ]))
          | ((with_reducible refine at_store (t := 85) (p := 8) rfl ?_); go_must (refine ev_store (cs' := #[.int .i64 k.value, .slice uA k.asked.length uc, .int .i64 k.checked, .int .i64 k.changed]) rfl rfl rfl rfl rfl rfl HJ.out.1.1 HJ.out.1.2 rfl Hb8.out (Nat.le_of_ble_eq_true rfl) rfl ?_; intro w3 hb3 hk3)
             have f0 := (blk_cell hb3 0).trans rfl
             have f1 := (blk_cell hb3 1).trans rfl
             have f2 := (blk_cell hb3 2).trans rfl
             have f3 := (blk_cell hb3 3).trans rfl
             clear hb3
             (try simp only [Act.put, List.setIfInBounds_toArray, List.set_cons_zero, List.set_cons_succ]))
          | ((with_reducible refine at_store (t := 85) (p := 4) rfl ?_); go_must (refine ev_store (cs' := #[.int .i64 0, .slice none 0 0, .int .i64 0, .int .i64 0]) rfl rfl rfl rfl rfl rfl HJ.out.1.1 HJ.out.1.2 rfl (hk3.blk (hk2.blk Hb4.out id) (by show ¬ g4 = g8; omega)) (Nat.le_of_ble_eq_true rfl) rfl ?_; intro w5 hbz hk5); (try simp only [Act.put, List.setIfInBounds_toArray, List.set_cons_zero, List.set_cons_succ])))
        have r0 := (blk_cell hbz 0).trans rfl
        have r1 := (blk_cell hbz 1).trans rfl
        have r2 := (blk_cell hbz 2).trans rfl
        have r3 := (blk_cell hbz 3).trans rfl
        refine bodyPost_ret (v := .tuple #[.agg #[.int .i64 0, .slice none 0 0, .int .i64 0, .int .i64 0], .int .i64 8]) (by rw [results_cell_tmp rfl]; go_simp; try rfl) rfl ?_
        rw [← HR2.out]
        exact ⟨.slice none 0 0, rfl, ((HK1.out.trans hk2 (fun _ _ h => h)).own hk3 (by have := HK1.out.size; omega)).own hk5 hg4, nil_ints _ _⟩
      | some kk =>
        have Hsm := Lib.hid (show (mlook es.toList q).isSome = true from hsm)
        obtain rfl : kk = k := hkd
        have HR2 := Lib.hid (show ((kk, 0) : KeptR × Int) = R from HR.out)
        clear hsm HR
        go_enter Tryd.func41, Tryd.ntmps41
        go_wp2_with (first
          | ((with_reducible refine at_dst (N := 4) rfl ?_); go_must (refine ev_alloc rfl rfl zero85 rfl ?_; intro g4 w1 hg4 hl4 hb4 hk1)
             have Hb4 := Lib.hid hb4
             have e0 := hk1.cell e0 id
             have e1 := hk1.cell e1 id
             have e2 := hk1.cell e2 id
             have e3 := hk1.cell e3 id
             have HK1 := Lib.hid hk1
             have Hrr := Lib.hid (Hr.out.keep (X' := X) hk1 (fun _ _ _ => id) (fun _ _ h => h))
             clear hb4
             (try simp only [Act.put, List.setIfInBounds_toArray, List.set_cons_zero, List.set_cons_succ]))
          | (go_at_call 38; go_must (refine (is_some _ _ _ _ _ _ _ (by assumption) (by assumption) hl).mono ?_; rintro e w' ⟨rfl, rfl⟩; rw [HEr.out]))
          | (go_at_call 37; go_must (refine (input_any _ _ E.rules X _ _ (by assumption) Hrr.out hq0 hq1 hl).mono ?_; rintro e w' ⟨rfl, rfl⟩; rw [HI.out.1, HI.out.2]))
          | ((with_reducible refine at_dst (N := 39) rfl ?_); go_must (refine ev_lookup_ok rfl rfl Tryd.underlying61 Tryd.underlying3 zero85 rfl rfl (HK1.out.blk Hmb.out id) Hkey.out ?_; rw [Hv.out, Hsm.out]); (try simp only [Act.put, List.setIfInBounds_toArray, List.set_cons_zero, List.set_cons_succ]))
          | ((with_reducible refine at_dst (N := 8) rfl ?_); go_must (refine ev_alloc rfl rfl zero85 rfl ?_; intro g8 w2 hg8 hl8 hb8 hk2); have Hb8 := Lib.hid hb8; clear hb8; (try simp only [Act.put, List.setIfInBounds_toArray, List.set_cons_zero, List.set_cons_succ]))
          | ((with_reducible refine at_store (t := 85) (p := 8) rfl ?_); go_must (refine ev_store (cs' := #[.int .i64 kk.value, .slice uA kk.asked.length uc, .int .i64 kk.checked, .int .i64 kk.changed]) rfl rfl rfl rfl rfl rfl HJ.out.1.1 HJ.out.1.2 rfl Hb8.out (Nat.le_of_ble_eq_true rfl) rfl ?_; intro w3 hb3 hk3)
             have f0 := (blk_cell hb3 0).trans rfl
             have f1 := (blk_cell hb3 1).trans rfl
             have f2 := (blk_cell hb3 2).trans rfl
             have f3 := (blk_cell hb3 3).trans rfl
             clear hb3
             (try simp only [Act.put, List.setIfInBounds_toArray, List.set_cons_zero, List.set_cons_succ]))
          | ((with_reducible refine at_store (t := 85) (p := 4) rfl ?_); go_must (refine ev_store (cs' := #[.int .i64 kk.value, .slice uA kk.asked.length uc, .int .i64 kk.checked, .int .i64 kk.changed]) rfl rfl rfl rfl rfl rfl HJ.out.1.1 HJ.out.1.2 rfl (hk3.blk (hk2.blk Hb4.out id) (by show ¬ g4 = g8; omega)) (Nat.le_of_ble_eq_true rfl) rfl ?_; intro w5 hbz hk5); (try simp only [Act.put, List.setIfInBounds_toArray, List.set_cons_zero, List.set_cons_succ])))
        have r0 := (blk_cell hbz 0).trans rfl
        have r1 := (blk_cell hbz 1).trans rfl
        have r2 := (blk_cell hbz 2).trans rfl
        have r3 := (blk_cell hbz 3).trans rfl
        refine bodyPost_ret (v := .tuple #[.agg #[.int .i64 kk.value, .slice uA kk.asked.length uc, .int .i64 kk.checked, .int .i64 kk.changed], .int .i64 0]) (by rw [results_cell_tmp rfl]; go_simp; try rfl) rfl ?_
        rw [← HR2.out]
        have hkz : Keeps Nob w w5 := ((HK1.out.trans hk2 (fun _ _ h => h)).own hk3 (by have := HK1.out.size; omega)).own hk5 hg4
        exact ⟨_, rfl, hkz, Hui.out.keep hkz (fun _ _ _ => id) (fun _ _ h => h)⟩
set_option maxHeartbeats 1000000 in
/-- ASKED. -/
theorem Asked_any (X : Nat → Prop) (eb ib mb : Nat) (E : Env) (ans : List (Option KeptR)) (q : Int) (w : World) (h : EngAt w X eb ib mb E ans) (hl : E.rules.length ≤ 200) (hal : (foundF E ans q).1.asked.length ≤ 1000000) :
    Calls Tryd.prog 20 #[.pointer (some ⟨eb, 0, none⟩), .int .i64 q] w fun e w' => ∃ v', e = .returned (.tuple #[v', .int .i64 (foundF E ans q).2]) ∧ Keeps Nob w w' ∧ IntsX w' (fun k => w.heap.size ≤ k ∧ k < w'.heap.size) v' (foundF E ans q).1.asked := by
  obtain ⟨i85, hi85, hs85⟩ := info85
  have HI := Lib.hid (And.intro hi85 hs85)
  have H := Lib.hid (Found_any X eb ib mb E ans q w h hl)
  generalize foundF E ans q = R at *
  obtain ⟨k, code⟩ := R
  simp only at hal ⊢
  clear h hi85 hs85
  go_enter Tryd.func20, Tryd.ntmps20
  go_wp2_with (first
    | (go_at_call 41; go_must (refine H.out.mono ?_; rintro e w1 ⟨u, rfl, hk1, hu⟩; obtain ⟨uA, uc, rfl, -, -⟩ := id hu); have Hu := Lib.hid hu; clear hu; (try simp only [Act.put, List.setIfInBounds_toArray, List.set_cons_zero, List.set_cons_succ]))
    | ((with_reducible refine at_dst (N := 6) rfl ?_); go_must (refine ev_alloc rfl rfl zero85 rfl ?_; intro g6 w2 hg6 hl6 hb6 hk2); have Hb6 := Lib.hid hb6; clear hb6; (try simp only [Act.put, List.setIfInBounds_toArray, List.set_cons_zero, List.set_cons_succ]))
    | ((with_reducible refine at_store (t := 85) rfl ?_); go_must (refine ev_store (cs' := #[.int .i64 k.value, .slice uA k.asked.length uc, .int .i64 k.checked, .int .i64 k.changed]) rfl rfl rfl rfl rfl rfl HI.out.1 HI.out.2 rfl Hb6.out (Nat.le_of_ble_eq_true rfl) rfl ?_; intro w3 hb3 hk3)
       have q1 := (blk_cell hb3 1).trans rfl
       have HK3 := Lib.hid (show Keeps Nob w1 w3 from hk2.own hk3 hg6)
       clear hb3
       (try simp only [Act.put, List.setIfInBounds_toArray, List.set_cons_zero, List.set_cons_succ]))
    | (go_at_call 42; go_must (refine (clone_any k.asked w3 X _ (Hu.out.keep HK3.out (fun _ _ _ => id) (fun _ _ h => h)) hal).mono ?_; rintro e w4 ⟨v', rfl, hk4, hv4⟩); have Hv4 := Lib.hid hv4; clear hv4; (try simp only [Act.put, List.setIfInBounds_toArray, List.set_cons_zero, List.set_cons_succ])))
  go_ret2
  have hz := hk1.size
  have hz3 := HK3.out.size
  exact ⟨v', rfl, (hk1.trans HK3.out (fun _ _ h => h)).trans hk4 (fun _ _ h => h), Hv4.out.keep (X' := fun k => w.heap.size ≤ k ∧ k < w4.heap.size) (Keeps.refl Nob w4) (fun _ _ _ => id) (fun b _ h => ⟨by have := h.1; omega, h.2⟩)⟩
set_option maxHeartbeats 1000000 in
/-- WHEN. -/
theorem When_any (X : Nat → Prop) (eb ib mb : Nat) (E : Env) (ans : List (Option KeptR)) (q : Int) (w : World) (h : EngAt w X eb ib mb E ans) (hl : E.rules.length ≤ 200) :
    Calls Tryd.prog 21 #[.pointer (some ⟨eb, 0, none⟩), .int .i64 q] w fun e w' => e = .returned (.tuple #[.int .i64 (foundF E ans q).1.checked, .int .i64 (foundF E ans q).1.changed, .int .i64 (foundF E ans q).2]) ∧ Keeps Nob w w' := by
  obtain ⟨i85, hi85, hs85⟩ := info85
  have HI := Lib.hid (And.intro hi85 hs85)
  have H := Lib.hid (Found_any X eb ib mb E ans q w h hl)
  generalize foundF E ans q = R at *
  obtain ⟨k, code⟩ := R
  simp only
  clear h hi85 hs85
  go_enter Tryd.func21, Tryd.ntmps21
  go_wp2_with (first
    | (go_at_call 41; go_must (refine H.out.mono ?_; rintro e w1 ⟨u, rfl, hk1, hu⟩; obtain ⟨uA, uc, rfl, -, -⟩ := id hu); clear hu; (try simp only [Act.put, List.setIfInBounds_toArray, List.set_cons_zero, List.set_cons_succ]))
    | ((with_reducible refine at_dst (N := 7) rfl ?_); go_must (refine ev_alloc rfl rfl zero85 rfl ?_; intro g7 w2 hg7 hl7 hb7 hk2); have Hb7 := Lib.hid hb7; clear hb7; (try simp only [Act.put, List.setIfInBounds_toArray, List.set_cons_zero, List.set_cons_succ]))
    | ((with_reducible refine at_store (t := 85) rfl ?_); go_must (refine ev_store (cs' := #[.int .i64 k.value, .slice uA k.asked.length uc, .int .i64 k.checked, .int .i64 k.changed]) rfl rfl rfl rfl rfl rfl HI.out.1 HI.out.2 rfl Hb7.out (Nat.le_of_ble_eq_true rfl) rfl ?_; intro w3 hb3 hk3); have q2 := (blk_cell hb3 2).trans rfl; have q3 := (blk_cell hb3 3).trans rfl; clear hb3; (try simp only [Act.put, List.setIfInBounds_toArray, List.set_cons_zero, List.set_cons_succ])))
  refine wp_region_perm [(0, true), (1, true), (2, true), (3, true), (4, true), (5, true), (6, true), (7, true)] (fun w' => w'.cell? ⟨g7, 2, none⟩ = some (.int .i64 k.checked) ∧ w'.cell? ⟨g7, 3, none⟩ = some (.int .i64 k.changed)) rfl (by kernel_rfl) (by kernel_rfl) (by decide) (fun c a d v w h => by cases d <;> exact h) ⟨q2, q3⟩ ?_
  refine perm_q (v := ?v1_0) (some 15) rfl rfl rfl ?q1_0 ?h1_0; (case q1_0 => (intro w' hS; obtain ⟨s1, s2⟩ := hS; first | (go_simp; done) | (go_simp; rfl))); (try simp only [Act.put, List.setIfInBounds_toArray, List.set_cons_zero, List.set_cons_succ])
  refine perm_q (v := ?v1_1) (some 16) rfl rfl rfl ?q1_1 ?h1_1; (case q1_1 => (intro w' hS; obtain ⟨s1, s2⟩ := hS; first | (go_simp; done) | (go_simp; rfl))); (try simp only [Act.put, List.setIfInBounds_toArray, List.set_cons_zero, List.set_cons_succ])
  refine perm_q (v := ?v1_2) (some 17) rfl rfl rfl ?q1_2 ?h1_2; (case q1_2 => (intro w' hS; obtain ⟨s1, s2⟩ := hS; first | (go_simp; done) | (go_simp; rfl))); (try simp only [Act.put, List.setIfInBounds_toArray, List.set_cons_zero, List.set_cons_succ])
  refine perm_q (v := ?v1_3) (some 18) rfl rfl rfl ?q1_3 ?h1_3; (case q1_3 => (intro w' hS; obtain ⟨s1, s2⟩ := hS; first | (go_simp; done) | (go_simp; rfl))); (try simp only [Act.put, List.setIfInBounds_toArray, List.set_cons_zero, List.set_cons_succ])
  refine perm_q (v := ?v1_4) (some 19) rfl rfl rfl ?q1_4 ?h1_4; (case q1_4 => (intro w' hS; obtain ⟨s1, s2⟩ := hS; first | (go_simp; done) | (go_simp; rfl))); (try simp only [Act.put, List.setIfInBounds_toArray, List.set_cons_zero, List.set_cons_succ])
  refine perm_q (v := ?v1_5) (some 4) rfl rfl rfl ?q1_5 ?h1_5; (case q1_5 => (intro w' hS; obtain ⟨s1, s2⟩ := hS; first | (go_simp; done) | (go_simp; rfl))); (try simp only [Act.put, List.setIfInBounds_toArray, List.set_cons_zero, List.set_cons_succ])
  refine perm_q (v := ?v1_6) (some 5) rfl rfl rfl ?q1_6 ?h1_6; (case q1_6 => (intro w' hS; obtain ⟨s1, s2⟩ := hS; first | (go_simp; done) | (go_simp; rfl))); (try simp only [Act.put, List.setIfInBounds_toArray, List.set_cons_zero, List.set_cons_succ])
  refine perm_q (v := ?v1_7) (some 6) rfl rfl rfl ?q1_7 ?h1_7; (case q1_7 => (intro w' hS; obtain ⟨s1, s2⟩ := hS; first | (go_simp; done) | (go_simp; rfl))); (try simp only [Act.put, List.setIfInBounds_toArray, List.set_cons_zero, List.set_cons_succ])
  refine perm_nil ?_
  go_wp2
  go_ret3
  exact ⟨rfl, ((hk1.trans hk2 (fun _ _ h => h)).own hk3 (by have := hk1.size; omega)).drew⟩
end Go.Proofs.QW

/-
  A copy of an engine (Copy), in memory: an engine of its own, in the same state. Condition: the engine lies.
-/
namespace Go.Proofs.QW
open Go.RowKit Go.Proofs.KL Go.Proofs.QM
set_option maxRecDepth 100000
set_option linter.unusedSimpArgs false
set_option linter.unusedVariables false

theorem run_clone {P : Program} {w : World} {r : Nat} {es : Array MapEntry} {clock : Nat} (t : TypeId) (hb : w.heap[r]? = some (.map es clock)) :
    (Extern.MapsClone.clone #[.iface t (.map (some r))]).run P w = .ok (.iface t (.map (some w.heap.size))) (w.alloc (.map es clock)) := by
  have e : Extern.MapsClone.clone #[.iface t (.map (some r))] = (getObj r >>= fun o => match o with
      | .map entries clock => (newObj (.map entries clock) >>= fun n => pure (.iface t (.map (some n))))
      | _ => stuck "maps.clone: a map expected") := rfl
  rw [e]
  simp [MapKept.run_getObj_map hb, Result.andThen, go_sem]
theorem run_assert_map {P : Program} {w : World} (t xT k e : TypeId) (v : Value) (h : P.underlying t = some (.map k e)) : (Instr.typeAssert (.iface t v) xT t false).run P w = .ok v w := by
  simp [Instr.typeAssert, run_underlying h, go_sem, Result.andThen]
set_option maxHeartbeats 2000000 in
theorem clone_map (mb : Nat) (es : Array MapEntry) (cl : Nat) (w : World) (hb : w.heap[mb]? = some (.map es cl)) :
    Calls Tryd.prog 53 #[.map (some mb)] w fun e w' => e = .returned (.map (some w.heap.size)) ∧ w' = w.alloc (.map es cl) := by
  have hq := fun w => run_eql_map_nil (P := Tryd.prog) w 61 3 85 (some mb) Tryd.underlying61
  go_enter Tryd.func53, Tryd.ntmps53
  go_wp2
  rw [run_callFunc_extern Tryd.func63 (by kernel_rfl) (by kernel_rfl) (by kernel_rfl) (e := Extern.MapsClone.clone) (by kernel_rfl), run_clone 61 hb]
  simp only [Result.andThen]
  rw [Oper.upon_value]
  go_wp2
  rw [run_assert_map 61 20 3 85 _ Tryd.underlying61]
  simp only [Result.andThen]
  rw [Oper.upon_value]
  go_wp2
  go_ret
  exact ⟨rfl, rfl⟩
/-- The cells of inputs. -/
def inpCells (inp ch : List Int) (n : Nat) : List Value := (List.range n).flatMap fun i => [.int .i64 (inp.getD i 0), .slice none 0 0, .int .i64 0, .int .i64 (ch.getD i 0)]
theorem inpCells_succ (inp ch : List Int) (n : Nat) : inpCells inp ch (n + 1) = inpCells inp ch n ++ [.int .i64 (inp.getD n 0), .slice none 0 0, .int .i64 0, .int .i64 (ch.getD n 0)] := by
  unfold inpCells; rw [List.range_succ, List.flatMap_append]; simp
theorem inpCells_length (inp ch : List Int) : ∀ n, (inpCells inp ch n).length = n * 4
  | 0 => rfl
  | n + 1 => by rw [inpCells_succ, List.length_append, inpCells_length inp ch n]; simp; omega
theorem inpCells_get (inp ch : List Int) : ∀ n i, i < n → (inpCells inp ch n)[i * 4]? = some (.int .i64 (inp.getD i 0)) ∧ (inpCells inp ch n)[i * 4 + 1]? = some (.slice none 0 0) ∧ (inpCells inp ch n)[i * 4 + 2]? = some (.int .i64 0) ∧ (inpCells inp ch n)[i * 4 + 3]? = some (.int .i64 (ch.getD i 0))
  | n + 1, i, hi => by
    have hl := inpCells_length inp ch n
    rw [inpCells_succ]
    by_cases e : i = n
    · subst e
      rw [List.getElem?_append_right (by omega), List.getElem?_append_right (by omega), List.getElem?_append_right (by omega), List.getElem?_append_right (by omega), hl]
      rw [show i * 4 - i * 4 = 0 by omega, show i * 4 + 1 - i * 4 = 1 by omega, show i * 4 + 2 - i * 4 = 2 by omega, show i * 4 + 3 - i * 4 = 3 by omega]
      exact ⟨rfl, rfl, rfl, rfl⟩
    · rw [List.getElem?_append_left (by omega), List.getElem?_append_left (by omega), List.getElem?_append_left (by omega), List.getElem?_append_left (by omega)]
      exact inpCells_get inp ch n i (by omega)
theorem inpCells_one (inp ch : List Int) (n : Nat) : ∀ u ∈ inpCells inp ch n, u.oneCell' = true := fun u hu => by
  obtain ⟨i, -, hi⟩ := List.mem_flatMap.1 hu
  simp only [List.mem_cons, List.not_mem_nil, or_false] at hi
  rcases hi with rfl | rfl | rfl | rfl <;> rfl
theorem kept_nil (b n c : Nat) (w : World) : (binOp .eql 60 (.slice (some ⟨b, 0, none⟩) n c) (.slice none 0 0)).run Tryd.prog w = .ok (.bool false) w := by kernel_rfl
set_option maxHeartbeats 2000000 in
theorem clone_inp (ib n c : Nat) (inp ch : List Int) (w : World) (h : InpX w ib n inp ch) (hn : n ≤ 200) :
    Calls Tryd.prog 52 #[.slice (some ⟨ib, 0, none⟩) n c] w fun e w' => ∃ g c', e = .returned (.slice (some ⟨g, 0, none⟩) n c') ∧ Keeps Nob w w' ∧ w.heap.size ≤ g ∧ InpX w' g n inp ch := by
  obtain ⟨cs, hb, hx⟩ := h
  have hkn := kept_nil
  have Hb := Lib.hid hb
  have Hx := Lib.hid hx
  have hnews : ∀ w2 : World, w2.heap[ib]? = some (.cells cs 85 (0, 0)) → ∀ j u, (inpCells inp ch n)[j]? = some u → w2.cell? ((⟨ib, 0, none⟩ : Addr).add j) = some u := fun w2 hb2 j u hj => by
    have hlt : j < n * 4 := by have := (List.getElem?_eq_some_iff.1 hj).1; rwa [inpCells_length] at this
    have hadd : (⟨ib, 0, none⟩ : Addr).add j = ⟨ib, j, none⟩ := by
      unfold Addr.add; split
      · rename_i h; subst h; rfl
      · simp
    rw [hadd, blk_cell hb2]
    obtain ⟨i, r, rfl, hr⟩ : ∃ i r, j = i * 4 + r ∧ r < 4 := ⟨j / 4, j % 4, by omega, by omega⟩
    have hi : i < n := by omega
    obtain ⟨a0, a1, a2, a3⟩ := Hx.out i hi
    obtain ⟨b0, b1, b2, b3⟩ := inpCells_get inp ch n i hi
    match r, hr with
    | 0, _ => rw [Nat.add_zero] at hj ⊢; rw [a0, ← b0]; exact hj
    | 1, _ => rw [a1, ← b1]; exact hj
    | 2, _ => rw [a2, ← b2]; exact hj
    | 3, _ => rw [a3, ← b3]; exact hj
  have Hnews := Lib.hid hnews
  clear hb hx hnews
  go_enter Tryd.func52, Tryd.ntmps52
  go_wp2_with (first
    | ((with_reducible refine at_dst (N := 5) rfl ?_); go_must (refine ev_slice (cs := #[]) (t := 85) (n := 0) (c := 0) rfl (by first | (go_simp; done) | (go_simp; rfl)) ?_; intro g1 w1 hg1 hl1 hb1 hk1); have Hb1 := Lib.hid hb1; clear hb1; (try simp only [Act.put, List.setIfInBounds_toArray, List.set_cons_zero, List.set_cons_succ]))
    | ((with_reducible refine at_dst (N := 7) rfl ?_); go_must (refine ev_append (W := w1) (xs := []) (n := 0) (m := n) (news := inpCells inp ch n) rfl rfl Tryd.underlying60 info85b rfl (by decide) (base := 0) rfl ⟨rfl, .inr ⟨g1, 0, #[], rfl, Nat.zero_le _, Hb1.out, Nat.le_refl _, Nat.zero_le _, rfl, rfl⟩⟩ rfl (inpCells_length inp ch n) (fun _ => ⟨⟨ib, 0, none⟩, rfl, fun j u hj => Hnews.out w1 (hk1.blk Hb.out id) j u hj⟩) (inpCells_one inp ch n) (by omega) (by decide) (Nat.zero_le _) ?_; intro v' w2 hown hk2 hr2 _)
       have Hown := Lib.hid hown
       have Hr2 := Lib.hid hr2
       have HK := Lib.hid (show Keeps Nob w w2 from hk1.trans hk2 (fun i hi e => by have e : some i = some g1 := e; injection e with e; omega))
       clear hown hr2
       (try simp only [Act.put, List.setIfInBounds_toArray, List.set_cons_zero, List.set_cons_succ])))
  go_ret
  have hg : ∃ g c', v' = .slice (some ⟨g, 0, none⟩) n c' ∧ w.heap.size ≤ g ∧ w2.ownsRow 0 85 4 (.slice (some ⟨g, 0, none⟩) n c') n (inpCells inp ch n) := by
    have ho := Hown.out
    rw [Nat.zero_add, List.nil_append] at ho
    rcases ho.2 with ⟨rfl, h0⟩ | ⟨g, cap, cur, rfl, h1, h2, h3, h4, h5, h6⟩
    · rcases Hr2.out with h | ⟨b, h, _⟩ <;> cases h
    · refine ⟨g, cap, rfl, ?_, ho⟩
      have z1 := hk1.size
      rcases Hr2.out with h | ⟨b, h, hb⟩
      · have h : some g = some g1 := h
        injection h with h; omega
      · have h : some g = some b := h
        injection h with h; omega
  obtain ⟨g, c', rfl, hge, hown⟩ := hg
  refine ⟨g, c', rfl, HK.out, hge, ?_⟩
  rcases hown.2 with ⟨h, _⟩ | ⟨g', cap, cur, h, _, h2, h3, _, h5, h6⟩
  · cases h
  · injection h with h _ _
    injection h with h
    injection h with h _ _
    subst h
    refine ⟨cur, h2, fun i hi => ?_⟩
    have hc : ∀ j, j < n * 4 → cur[j]? = (inpCells inp ch n)[j]? := fun j hj => by rw [← h6, List.getElem?_take, if_pos hj]; simp
    obtain ⟨b0, b1, b2, b3⟩ := inpCells_get inp ch n i hi
    exact ⟨(hc _ (by omega)).trans b0, (hc _ (by omega)).trans b1, (hc _ (by omega)).trans b2, (hc _ (by omega)).trans b3⟩
set_option maxHeartbeats 4000000 in
/-- COPY. -/
theorem Copy_any (E : Env) (ans : List (Option KeptR)) (w : World) (X : Nat → Prop) (eb ib mb : Nat) (he : EngAt w X eb ib mb E ans) (hxl : ∀ k, X k → k < w.heap.size) (h200 : E.rules.length ≤ 200) :
    Calls Tryd.prog 28 #[.pointer (some ⟨eb, 0, none⟩)] w fun e w' => ∃ eb' ib' mb', e = .returned (.pointer (some ⟨eb', 0, none⟩)) ∧ Keeps Nob w w' ∧ EngAt w' X eb' ib' mb' E ans ∧ w.heap.size ≤ eb' ∧ w.heap.size ≤ ib' ∧ w.heap.size ≤ mb' := by
  have HE := Lib.hid he
  obtain ⟨⟨rv, c, hb, hr⟩, hinp, ⟨es, cl, hmb, hkey, hout, hans⟩, xe, xi, xm⟩ := he
  obtain ⟨A, rc, rfl, hcc, hrx⟩ := id hr
  have e0 := (blk_cell hb 0).trans rfl
  have e1 := (blk_cell hb 1).trans rfl
  have e2 := (blk_cell hb 2).trans rfl
  have e3 := (blk_cell hb 3).trans rfl
  have Hr := Lib.hid hr
  have Hinp := Lib.hid hinp
  have Hmb := Lib.hid hmb
  have Hans := Lib.hid (show AnsX w X mb E.rules.length ans from ⟨es, cl, hmb, hkey, hout, hans⟩)
  have Hkey := Lib.hid hkey
  have Hxl := Lib.hid hxl
  have Hout := Lib.hid hout
  have Hansx := Lib.hid hans
  clear hr hb hrx hinp hmb hkey hout hans xe xi xm hxl
  go_enter Tryd.func28, Tryd.ntmps28
  go_wp2_with (go_at_call 51; go_must (refine (ok_some _ _ _ (by assumption)).mono ?_; rintro e w' ⟨rfl, rfl⟩))
  refine wp_region_perm [(0, true), (1, true), (2, true), (3, true), (4, true), (5, true), (6, true), (7, true), (9, true), (10, true), (11, true), (12, true), (14, true), (15, true), (16, true), (17, true), (8, false), (13, false), (18, true), (19, false), (20, true)] (fun w' => w'.cell? ⟨eb, 0, none⟩ = some (.slice A E.rules.length rc) ∧ w'.cell? ⟨eb, 1, none⟩ = some (.slice (some ⟨ib, 0, none⟩) E.rules.length c) ∧ w'.cell? ⟨eb, 2, none⟩ = some (.map (some mb)) ∧ w'.cell? ⟨eb, 3, none⟩ = some (.int .i64 E.rev)) rfl (by kernel_rfl) (by kernel_rfl) (by decide) (fun c a d v w h => by cases d <;> exact h) ⟨e0, e1, e2, e3⟩ ?_
  refine perm_q (v := ?v1_0) (some 6) rfl rfl rfl ?q1_0 ?h1_0; (case q1_0 => (intro w' hS; obtain ⟨s1, s2, s3, s4⟩ := hS; first | (go_simp; done) | (go_simp; rfl))); (try simp only [Act.put, List.setIfInBounds_toArray, List.set_cons_zero, List.set_cons_succ])
  refine perm_q (v := ?v1_1) (some 7) rfl rfl rfl ?q1_1 ?h1_1; (case q1_1 => (intro w' hS; obtain ⟨s1, s2, s3, s4⟩ := hS; first | (go_simp; done) | (go_simp; rfl))); (try simp only [Act.put, List.setIfInBounds_toArray, List.set_cons_zero, List.set_cons_succ])
  refine perm_q (v := ?v1_2) (some 8) rfl rfl rfl ?q1_2 ?h1_2; (case q1_2 => (intro w' hS; obtain ⟨s1, s2, s3, s4⟩ := hS; first | (go_simp; done) | (go_simp; rfl))); (try simp only [Act.put, List.setIfInBounds_toArray, List.set_cons_zero, List.set_cons_succ])
  refine perm_q (v := ?v1_3) (some 9) rfl rfl rfl ?q1_3 ?h1_3; (case q1_3 => (intro w' hS; obtain ⟨s1, s2, s3, s4⟩ := hS; first | (go_simp; done) | (go_simp; rfl))); (try simp only [Act.put, List.setIfInBounds_toArray, List.set_cons_zero, List.set_cons_succ])
  refine perm_q (v := ?v1_4) (some 10) rfl rfl rfl ?q1_4 ?h1_4; (case q1_4 => (intro w' hS; obtain ⟨s1, s2, s3, s4⟩ := hS; first | (go_simp; done) | (go_simp; rfl))); (try simp only [Act.put, List.setIfInBounds_toArray, List.set_cons_zero, List.set_cons_succ])
  refine perm_q (v := ?v1_5) (some 11) rfl rfl rfl ?q1_5 ?h1_5; (case q1_5 => (intro w' hS; obtain ⟨s1, s2, s3, s4⟩ := hS; first | (go_simp; done) | (go_simp; rfl))); (try simp only [Act.put, List.setIfInBounds_toArray, List.set_cons_zero, List.set_cons_succ])
  refine perm_q (v := ?v1_6) (some 12) rfl rfl rfl ?q1_6 ?h1_6; (case q1_6 => (intro w' hS; obtain ⟨s1, s2, s3, s4⟩ := hS; first | (go_simp; done) | (go_simp; rfl))); (try simp only [Act.put, List.setIfInBounds_toArray, List.set_cons_zero, List.set_cons_succ])
  refine perm_q (v := ?v1_7) (some 13) rfl rfl rfl ?q1_7 ?h1_7; (case q1_7 => (intro w' hS; obtain ⟨s1, s2, s3, s4⟩ := hS; first | (go_simp; done) | (go_simp; rfl))); (try simp only [Act.put, List.setIfInBounds_toArray, List.set_cons_zero, List.set_cons_succ])
  refine perm_q (v := ?v1_9) (some 15) rfl rfl rfl ?q1_9 ?h1_9; (case q1_9 => (intro w' hS; obtain ⟨s1, s2, s3, s4⟩ := hS; first | (go_simp; done) | (go_simp; rfl))); (try simp only [Act.put, List.setIfInBounds_toArray, List.set_cons_zero, List.set_cons_succ])
  refine perm_q (v := ?v1_10) (some 16) rfl rfl rfl ?q1_10 ?h1_10; (case q1_10 => (intro w' hS; obtain ⟨s1, s2, s3, s4⟩ := hS; first | (go_simp; done) | (go_simp; rfl))); (try simp only [Act.put, List.setIfInBounds_toArray, List.set_cons_zero, List.set_cons_succ])
  refine perm_q (v := ?v1_11) (some 17) rfl rfl rfl ?q1_11 ?h1_11; (case q1_11 => (intro w' hS; obtain ⟨s1, s2, s3, s4⟩ := hS; first | (go_simp; done) | (go_simp; rfl))); (try simp only [Act.put, List.setIfInBounds_toArray, List.set_cons_zero, List.set_cons_succ])
  refine perm_q (v := ?v1_12) (some 18) rfl rfl rfl ?q1_12 ?h1_12; (case q1_12 => (intro w' hS; obtain ⟨s1, s2, s3, s4⟩ := hS; first | (go_simp; done) | (go_simp; rfl))); (try simp only [Act.put, List.setIfInBounds_toArray, List.set_cons_zero, List.set_cons_succ])
  refine perm_q (v := ?v1_14) (some 20) rfl rfl rfl ?q1_14 ?h1_14; (case q1_14 => (intro w' hS; obtain ⟨s1, s2, s3, s4⟩ := hS; first | (go_simp; done) | (go_simp; rfl))); (try simp only [Act.put, List.setIfInBounds_toArray, List.set_cons_zero, List.set_cons_succ])
  refine perm_q (v := ?v1_15) (some 21) rfl rfl rfl ?q1_15 ?h1_15; (case q1_15 => (intro w' hS; obtain ⟨s1, s2, s3, s4⟩ := hS; first | (go_simp; done) | (go_simp; rfl))); (try simp only [Act.put, List.setIfInBounds_toArray, List.set_cons_zero, List.set_cons_succ])
  refine perm_q (v := ?v1_16) (some 22) rfl rfl rfl ?q1_16 ?h1_16; (case q1_16 => (intro w' hS; obtain ⟨s1, s2, s3, s4⟩ := hS; first | (go_simp; done) | (go_simp; rfl))); (try simp only [Act.put, List.setIfInBounds_toArray, List.set_cons_zero, List.set_cons_succ])
  refine perm_q (v := ?v1_17) (some 23) rfl rfl rfl ?q1_17 ?h1_17; (case q1_17 => (intro w' hS; obtain ⟨s1, s2, s3, s4⟩ := hS; first | (go_simp; done) | (go_simp; rfl))); (try simp only [Act.put, List.setIfInBounds_toArray, List.set_cons_zero, List.set_cons_succ])
  refine perm_e rfl ?_   -- 8: call F52(t13)
  go_wp2_with (go_at_call 52; go_must (refine (clone_inp ib E.rules.length c E.inp E.inpCh w.drew (Hinp.out.keep (Keeps.refl Nob w).drew id) h200).mono ?_; rintro e w1 ⟨g1, c1, rfl, hk1, hg1, hi1⟩))
  have hk1' : Keeps Nob w w1 := (Keeps.refl Nob w).drew.trans hk1 (fun _ _ h => h)
  have HK1 := Lib.hid hk1'
  have Hi1 := Lib.hid hi1
  have Hg1 := Lib.hid (show w.heap.size ≤ g1 from hg1)
  (try simp only [Act.put, List.setIfInBounds_toArray, List.set_cons_zero, List.set_cons_succ])
  have e0 := hk1'.cell e0 id
  have e1 := hk1'.cell e1 id
  have e2 := hk1'.cell e2 id
  have e3 := hk1'.cell e3 id
  clear hk1 hi1 hk1' hg1
  refine ⟨⟨e0, e1, e2, e3⟩, ?_⟩
  refine perm_e rfl ?_   -- 13: call F53(t18)
  go_wp2_with (go_at_call 53; go_must (refine (clone_map mb es cl w1 (HK1.out.blk Hmb.out id)).mono ?_; rintro e w2 ⟨rfl, rfl⟩))
  have hk2 : Keeps Nob w1 (w1.alloc (.map es cl)) := (Keeps.refl Nob w1).alloc _
  have HK2 := Lib.hid hk2
  (try simp only [Act.put, List.setIfInBounds_toArray, List.set_cons_zero, List.set_cons_succ])
  have e0 := hk2.cell e0 id
  have e1 := hk2.cell e1 id
  have e2 := hk2.cell e2 id
  have e3 := hk2.cell e3 id
  clear hk2
  refine ⟨⟨e0, e1, e2, e3⟩, ?_⟩
  refine perm_q (v := ?v1_18) (some 24) rfl rfl rfl ?q1_18 ?h1_18; (case q1_18 => (intro w' hS; obtain ⟨s1, s2, s3, s4⟩ := hS; first | (go_simp; done) | (go_simp; rfl))); (try simp only [Act.put, List.setIfInBounds_toArray, List.set_cons_zero, List.set_cons_succ])
  refine perm_e rfl ?_   -- 19: box 63 t24
  go_must (refine ev_box (cs := #[.slice A E.rules.length rc, .slice (some ⟨g1, 0, none⟩) E.rules.length c1, .map (some w1.heap.size), .int .i64 E.rev]) rfl rfl rfl ?_; intro g3 w3 hg3 hl3 hb3 hk3)
  have Hb3 := Lib.hid hb3
  (try simp only [Act.put, List.setIfInBounds_toArray, List.set_cons_zero, List.set_cons_succ])
  have e0 := hk3.cell e0 id
  have e1 := hk3.cell e1 id
  have e2 := hk3.cell e2 id
  have e3 := hk3.cell e3 id
  refine wpList_nil ⟨⟨e0, e1, e2, e3⟩, ?_⟩
  refine perm_q (v := ?v1_20) (some 2) rfl rfl rfl ?q1_20 ?h1_20; (case q1_20 => (intro w' hS; obtain ⟨s1, s2, s3, s4⟩ := hS; first | (go_simp; done) | (go_simp; rfl))); (try simp only [Act.put, List.setIfInBounds_toArray, List.set_cons_zero, List.set_cons_succ])
  refine perm_nil ?_
  go_wp2
  go_ret
  have hk13 : Keeps Nob w1 w3 := HK2.out.trans hk3 (fun _ _ h => h)
  have hk03 : Keeps Nob w w3 := HK1.out.trans hk13 (fun _ _ h => h)
  have z1 := HK1.out.size
  have z2 := HK2.out.size
  have hmap : w3.heap[w1.heap.size]? = some (.map es cl) := hk3.blk (blk_new w1 _) id
  refine ⟨g3, g1, w1.heap.size, rfl, hk03, ⟨⟨_, c1, Hb3.out, Hr.out.keep hk03 (fun _ _ _ => id) (fun _ _ h => h)⟩, Hi1.out.keep hk13 id, ⟨es, cl, hmap, Hkey.out, Hout.out, fun q h0 h1 => ?_⟩, fun h => ?_, fun h => ?_, fun h => ?_⟩, by omega, Hg1.out, z1⟩
  · have := Hansx.out q h0 h1
    split at this
    · obtain ⟨v, hv, hx⟩ := this
      exact ⟨v, hv, hx.keep hk03 (fun _ _ _ => id) (fun _ _ h => h)⟩
    · exact this
  · have := Hxl.out _ h; omega
  · have := Hxl.out _ h; have := Hg1.out; omega
  · have := Hxl.out _ h; omega
end Go.Proofs.QW

/-
  QueryParts, in memory: the law returns true. Condition: rules and calls lie, and the table of kinds is as laid.
-/
namespace Go.Proofs.QW
open Go.RowKit Go.Proofs.KL Go.Proofs.QM
set_option maxRecDepth 100000
set_option linter.unusedSimpArgs false
set_option linter.unusedVariables false

theorem uAsk_bound (E : Env) (m : Int) : ∀ (f : Nat) (on : List Int), uAsk (Env.bound E m) f on = uAsk E f on
  | 0, on => rfl
  | f + 1, on => by
    funext s q
    have ih := fun p => uAsk_bound E m f (p :: on)
    unfold uAsk
    rw [ih q]
    rfl
theorem SInv.uinv {rs : List QRule} {n : Int} {E : Env} {ans : List (Option KeptR)} (h : SInv rs n (E, ans)) : UInv E [] ans :=
  ⟨h.inv.alen, fun p hp => (by cases hp), List.nodup_nil, fun p hp => (by cases hp), fun q k hq hk => (h.inv.kok q k hq hk).asked⟩
/-- One Ask with a bound. -/
theorem ask_part {rs : List QRule} {n : Int} {E : Env} {a : List (Option KeptR)} (h : SInv rs n (E, a)) {q : Int} (hq : InQ E q) (m : Nat) (hm : (m : Int) ≤ 9223372036854775807) :
    ((uAsk E (E.rules.length + 1) [] a q).2.1.length ≤ m → askF (Env.bound E m) (E.rules.length + 1) [] ⟨a, []⟩ q = (⟨(uAsk E (E.rules.length + 1) [] a q).1, (uAsk E (E.rules.length + 1) [] a q).2.1⟩, (uAsk E (E.rules.length + 1) [] a q).2.2)) ∧
    (m < (uAsk E (E.rules.length + 1) [] a q).2.1.length → ∃ t, askF (Env.bound E m) (E.rules.length + 1) [] ⟨a, []⟩ q = (⟨t, (uAsk E (E.rules.length + 1) [] a q).2.1.take m⟩, .error 13) ∧
      uAsk E (E.rules.length + 1) [] t q = ((uAsk E (E.rules.length + 1) [] a q).1, (uAsk E (E.rules.length + 1) [] a q).2.1.drop m, (uAsk E (E.rules.length + 1) [] a q).2.2)) := by
  have hb := uAsk_b (E := Env.bound E m) (h.env (by omega) hm) (m := m) rfl (E.rules.length + 1) [] (by simp [Env.bound]) a [] q ⟨h.uinv.len, fun p hp => (by cases hp), List.nodup_nil, fun p hp => (by cases hp), h.uinv.kin⟩ (by simp) hq
  rw [uAsk_bound] at hb
  simp only [List.length_nil, Nat.zero_add, List.nil_append, Nat.sub_zero] at hb
  refine ⟨hb.1, fun hgt => ?_⟩
  obtain ⟨t, e1, _, _, e2⟩ := hb.2 hgt
  exact ⟨t, e1, e2⟩
theorem uAsk_short {rs : List QRule} {n : Int} {E : Env} {a : List (Option KeptR)} (h : SInv rs n (E, a)) {q : Int} (hq : InQ E q) : (uAsk E (E.rules.length + 1) [] a q).2.1.length ≤ E.rules.length ∧
    askF (Env.bound E 1073741824) (E.rules.length + 1) [] ⟨a, []⟩ q = (⟨(uAsk E (E.rules.length + 1) [] a q).1, (uAsk E (E.rules.length + 1) [] a q).2.1⟩, (uAsk E (E.rules.length + 1) [] a q).2.2) ∧ (uAsk E (E.rules.length + 1) [] a q).2.2 ≠ .error 13 := by
  have h200 : E.rules.length ≤ 200 := h.ok.len
  have hE := h.env (m := 1073741824) (by decide) (by decide)
  have h13 := askF_13 hE (by show (E.rules.length : Int) ≤ 1073741824; omega) (E.rules.length + 1) [] ⟨a, []⟩ q (h.pinv (by decide)) hq
  obtain ⟨p1, p2⟩ := ask_part h hq 1073741824 (by decide)
  have hd := (askF_good hE (E.rules.length + 1) [] ⟨a, []⟩ q (h.pinv (by decide)) hq).1.inv.dlen
  by_cases hle : (uAsk E (E.rules.length + 1) [] a q).2.1.length ≤ 1073741824
  · have p1 := p1 hle
    have p1' : askF (Env.bound E 1073741824) (E.rules.length + 1) [] ⟨a, []⟩ q = _ := p1
    rw [p1'] at hd h13
    exact ⟨hd, p1', h13⟩
  · obtain ⟨t, e1, _⟩ := p2 (by omega)
    have e1' : askF (Env.bound E 1073741824) (E.rules.length + 1) [] ⟨a, []⟩ q = _ := e1
    rw [e1'] at h13
    exact absurd rfl h13
theorem endOf_13 {r : PS × Except Int (Int × Int)} (h : (endOf r).2 = 13) : r.2 = .error 13 := by
  obtain ⟨s, x⟩ := r
  cases x with
  | ok y => exact absurd (show (0 : Int) = 13 from h) (by decide)
  | error e => have h : e = 13 := h; rw [h]
/-- ASKING IN PARTS. -/
theorem parts_step {rs : List QRule} {n : Int} {E : Env} {a : List (Option KeptR)} (h : SInv rs n (E, a)) (q : Int) (b : Nat) (hb : (b : Int) ≤ 1000000) {R : AskRes} (hR : askR E a q 1073741824 = R) :
    R.e ≠ 13 ∧ R.worked.length ≤ E.rules.length ∧ (R.worked.length ≤ b → askR E a q b = R) ∧
    (b < R.worked.length → ∃ t, askR E a q b = ⟨t, R.worked.take b, 0, 13⟩ ∧ askR E t q 1073741824 = ⟨R.ans, R.worked.drop b, R.v, R.e⟩) := by
  by_cases hq : isErr E.rules.length q ≠ 0
  · have hr : ∀ m, askR E a q m = ⟨a, [], 0, 5⟩ := fun m => by unfold askR; rw [if_pos hq]
    rw [hr] at hR
    subst hR
    exact ⟨show (5 : Int) ≠ 13 by decide, Nat.zero_le _, fun _ => hr b, fun h => absurd h (by simp)⟩
  · have hin : InQ E q := isErr_in hq
    have hr : ∀ (s : List (Option KeptR)) (m : Int), 0 ≤ m → askR E s q m = ⟨(askF (Env.bound E m) (E.rules.length + 1) [] ⟨s, []⟩ q).1.ans, (askF (Env.bound E m) (E.rules.length + 1) [] ⟨s, []⟩ q).1.done, (endOf (askF (Env.bound E m) (E.rules.length + 1) [] ⟨s, []⟩ q)).1, (endOf (askF (Env.bound E m) (E.rules.length + 1) [] ⟨s, []⟩ q)).2⟩ := fun s m hm => by
      unfold askR; rw [if_neg hq, if_neg (by omega)]
    obtain ⟨s1, s2, s3⟩ := uAsk_short h hin
    obtain ⟨p1, p2⟩ := ask_part h hin b (by omega)
    rw [hr a _ (by decide), s2] at hR
    subst hR
    simp only
    refine ⟨fun h13 => s3 (endOf_13 (r := (_, _)) h13), s1, fun hle => ?_, fun hgt => ?_⟩
    · rw [hr a _ (by omega), p1 hle]
    · obtain ⟨t, e1, e2⟩ := p2 hgt
      refine ⟨t, ?_, ?_⟩
      · rw [hr a _ (by omega), e1]; rfl
      · have ht : SInv rs n (E, t) := by
          have := h.ask q b (by omega)
          unfold askS at this
          rw [if_neg (by simp only [not_or]; exact ⟨hq, by omega⟩), e1] at this
          exact this
        obtain ⟨t1, t2, t3⟩ := uAsk_short ht hin
        rw [hr t _ (by decide), t2, e2]
        rfl
/-- The state of the asking in parts. -/
structure Parts (w0 wr : World) (E : Env) (own : List QRule) (R : AskRes) (q : Int) (bn eb ib mb ec ic mc : Nat) (Xc : Nat → Prop) (i : Nat) (mv fv : Int) (av : Value) (a : List (Option KeptR)) (Xx : Nat → Prop) (done : List Int) : Prop where
  keep : Keeps (· = mb) w0 wr
  inv : SInv own 60 (E, a)
  eng : EngAt wr Xx eb ib mb E a
  xx : ∀ b, Xx b → b < wr.heap.size
  xall : ∀ b, Xx b → ¬ some b = av.ownBlock
  engc : EngAt wr Xc ec ic mc E R.ans
  row : wr.ownsRow w0.heap.size 3 1 av done.length (done.map (Value.int .i64))
  cont : (fv = 13 ∧ done = R.worked.take (i * bn) ∧ askR E a q 1073741824 = ⟨R.ans, R.worked.drop (i * bn), R.v, R.e⟩ ∧ (i = 0 ∨ i * bn < R.worked.length)) ∨ (fv = R.e ∧ mv = R.v ∧ done = R.worked ∧ a = R.ans)
theorem Parts.far {w0 wr : World} {E : Env} {own : List QRule} {R : AskRes} {q : Int} {bn eb ib mb ec ic mc : Nat} {Xc : Nat → Prop} {i : Nat} {mv fv : Int} {av : Value} {a : List (Option KeptR)} {Xx : Nat → Prop} {done : List Int} (h : Parts w0 wr E own R q bn eb ib mb ec ic mc Xc i mv fv av a Xx done) : ∀ b, av.ownBlock = some b → w0.heap.size ≤ b ∧ b < wr.heap.size := fun b hb => by
  refine ⟨?_, (own_lt h.row b hb).1⟩
  rcases h.row.2 with ⟨rfl, _⟩ | ⟨g, cap, cur, rfl, hg, _⟩
  · cases hb
  · simp [Value.ownBlock] at hb; omega
/-- One round. -/
theorem Parts.next {w0 wr wq wz : World} {E : Env} {own : List QRule} {R : AskRes} {q : Int} {bn eb ib mb ec ic mc : Nat} {Xc : Nat → Prop} {i : Nat} {mv fv : Int} {av : Value} {a : List (Option KeptR)} {Xx : Nat → Prop} {done : List Int} (h : Parts w0 wr E own R q bn eb ib mb ec ic mc Xc i mv fv av a Xx done)
    {X' : Nat → Prop} {a' : List (Option KeptR)} {l' : List Int} {av' : Value} {mv' fv' : Int} (hxx : ∀ b, b < wr.heap.size → (X' b ↔ Xx b)) (hxl : ∀ b, X' b → b < wq.heap.size) (hk : Keeps (· = mb) wr wq) (he : EngAt wq X' eb ib mb E a') (hinv : SInv own 60 (E, a'))
    (hk2 : Keeps (fun k => some k = av.ownBlock) wq wz) (hrow : wz.ownsRow w0.heap.size 3 1 av' (done.length + l'.length) (done.map (Value.int .i64) ++ l'.map (Value.int .i64))) (hr : av'.ownBlock = av.ownBlock ∨ ∃ b, av'.ownBlock = some b ∧ wq.heap.size ≤ b)
    (h0 : (eb < w0.heap.size ∧ ib < w0.heap.size ∧ mb < w0.heap.size) ∧ (ec < w0.heap.size ∧ ic < w0.heap.size ∧ mc < w0.heap.size) ∧ (ec ≠ mb ∧ ic ≠ mb ∧ mc ≠ mb) ∧ (∀ b, Xc b → b < w0.heap.size ∧ b ≠ mb))
    (hc : (fv' = 13 ∧ done ++ l' = R.worked.take ((i + 1) * bn) ∧ askR E a' q 1073741824 = ⟨R.ans, R.worked.drop ((i + 1) * bn), R.v, R.e⟩ ∧ (i + 1 = 0 ∨ (i + 1) * bn < R.worked.length)) ∨ (fv' = R.e ∧ mv' = R.v ∧ done ++ l' = R.worked ∧ a' = R.ans)) :
    Parts w0 wz E own R q bn eb ib mb ec ic mc Xc (i + 1) mv' fv' av' a' X' (done ++ l') := by
  have hfar := h.far
  have z1 := h.keep.size
  have z2 := hk.size
  have hall : ∀ b, X' b → ¬ some b = av.ownBlock := fun b hb e => by
    have h1 := (hfar b e.symm).2
    exact h.xall b ((hxx b h1).1 hb) e
  refine ⟨(h.keep.trans hk (fun _ _ h => h)).trans hk2 (fun b hb e => absurd hb (by have := (hfar b e.symm).1; omega)), hinv, he.keep hk2 (fun e => by have := (hfar _ e.symm).1; omega) (fun e => by have := (hfar _ e.symm).1; omega) (fun e => by have := (hfar _ e.symm).1; omega) (fun b _ hx e => hall b hx e) (fun _ _ => Iff.rfl),
    fun b hb => Nat.lt_of_lt_of_le (hxl b hb) hk2.size, fun b hb e => ?_, ?_, by rw [List.length_append, List.map_append]; exact hrow, hc⟩
  · rcases hr with hr | ⟨b', hr, hl⟩
    · exact hall b hb (e.trans hr)
    · rw [hr] at e; injection e with e; have := hxl b hb; omega
  · have e1 := h.engc.keep (X' := Xc) hk h0.2.2.1.1 h0.2.2.1.2.1 h0.2.2.1.2.2 (fun b _ hx => (h0.2.2.2 b hx).2) (fun _ _ => Iff.rfl)
    exact e1.keep hk2 (fun e => by have := (hfar _ e.symm).1; omega) (fun e => by have := (hfar _ e.symm).1; omega) (fun e => by have := (hfar _ e.symm).1; omega) (fun b _ hx e => by have := (hfar _ e.symm).1; have := (h0.2.2.2 b hx).1; omega) (fun _ _ => Iff.rfl)
set_option maxHeartbeats 40000000 in
/-- QUERYPARTS. -/
theorem QueryParts_any (rs : List QRule) (acts : List ActR) (q mo : Int) (hmo : 0 ≤ mo ∧ mo ≤ 255) (w : World) (X Y : Nat → Prop) (rv av : Value) (hr : RulesX w X rv rs) (ha : ActsX w Y av acts) (ht : Tab w) :
    Calls Tryd.prog 9 #[rv, av, .int .i64 q, .int .u8 mo] w fun e w' => e = .returned (.bool true) ∧ Keeps Nob w w' := by
  have HC := Lib.hid (cut_any rs w X rv hr)
  have HT := Lib.hid ht
  have HT0 := Lib.hid (show 0 < w.heap.size from World.block_lt_of_cell? _ _ (ht 1 (by omega) (by omega)).1)
  have HA := Lib.hid ha
  have Hvm := Lib.hid ha.vmax
  obtain ⟨rA, rc, rfl, -, -⟩ := id hr
  obtain ⟨aA, ac, rfl, -, -⟩ := id ha
  have hpn : ∀ (n : Nat) (w : World), (binOp .eql 35 (.pointer (some ⟨n, 0, none⟩)) (.pointer none)).run Tryd.prog w = .ok (.bool false) w := fun _ _ => by kernel_rfl
  have hp0 : ∀ (w : World), (binOp .eql 35 (.pointer none) (.pointer none)).run Tryd.prog w = .ok (.bool true) w := fun _ => by kernel_rfl
  generalize cutM rs = own at *
  clear hr ha ht
  by_cases hc : (check own).2 = 0
  · have Hc := Lib.hid hc
    have hinv := playedTo_inv hc Hvm.out 60 (by decide)
    obtain ⟨E, ans, hS⟩ : ∃ E ans, playedF own acts = (E, ans) := ⟨_, _, rfl⟩
    have HS := Lib.hid hS
    rw [show playedTo own acts 60 = (E, ans) from hS] at hinv
    have Hinv := Lib.hid hinv
    obtain ⟨R, hR⟩ : ∃ R, askR E ans q 1073741824 = R := ⟨_, rfl⟩
    obtain ⟨bn, hbn⟩ : ∃ b : Nat, (b : Int) = 1 + mo := ⟨(1 + mo).toNat, by omega⟩
    have hb1 : 1 ≤ bn := by omega
    have hb2 : (bn : Int) ≤ 256 := by omega
    have hp0 := parts_step hinv q 0 (by decide) hR
    obtain ⟨hRe, hRl, -, -⟩ := hp0
    have hEr : E.rules = own := hinv.rules
    obtain ⟨h200, -⟩ := check_ok hc
    have hrl : E.rules.length = own.length := by rw [hEr]
    obtain ⟨Ra, Rw, Rv, Re⟩ := R
    simp only at hRe hRl
    have HR := Lib.hid hR
    have Hbn := Lib.hid hbn
    have Hrl := Lib.hid hrl
    have HEr := Lib.hid hEr
    have HRe := Lib.hid hRe
    have hwlen : Rw.length ≤ own.length := by rw [← hrl]; exact hRl
    have Hxl2 := Lib.hid (hinv.ask q 1073741824 (by decide))
    clear hc hS hinv hR hEr hrl hRe hRl
    go_enter Tryd.func9, Tryd.ntmps9
    go_wp2_with (first
      | (go_at_call 10; go_must (refine HC.out.mono ?_; rintro e w1 ⟨ov, rfl, hk1, hr1⟩; obtain ⟨oA, oc, rfl, _, _⟩ := id hr1)
         have HK1 := Lib.hid hk1
         have Hr1 := Lib.hid hr1
         have Ha1 := Lib.hid (HA.out.keep (X' := Y) hk1 (fun _ _ _ => id) (fun _ _ h => h))
         clear hk1 hr1
         (try simp only [Act.put, List.setIfInBounds_toArray, List.set_cons_zero, List.set_cons_succ]))
      | (go_at_call 16; go_must (refine (played_any own acts w1 _ _ _ _ Hr1.out Ha1.out (fun _ => HT.out.keep HK1.out id)).mono ?_; rintro e w2 ⟨hk2, -, hx2⟩; obtain ⟨eb, ib, mb, Xe, rfl, he2, hxe2, be1, be2, be3⟩ := hx2 Hc.out)
         have HK2 := Lib.hid (HK1.out.trans hk2 (fun _ _ h => h))
         have Hr2 := Lib.hid (Hr1.out.keep (X' := fun k => w.heap.size ≤ k ∧ k < w1.heap.size) hk2 (fun _ _ _ => id) (fun _ _ h => h))
         rw [HS.out] at he2
         have He2 := Lib.hid he2
         have Hbe := Lib.hid (show (w1.heap.size ≤ eb ∧ w1.heap.size ≤ ib ∧ w1.heap.size ≤ mb) ∧ (∀ k, Xe k → w1.heap.size ≤ k ∧ k < w2.heap.size) from ⟨⟨be1, be2, be3⟩, hxe2⟩)
         clear hk2 hx2 he2 hxe2 be1 be2 be3
         (try simp only [Act.put, List.setIfInBounds_toArray, List.set_cons_zero, List.set_cons_succ]))
      | (go_at_call 28; go_must (refine (Copy_any E ans w2 Xe eb ib mb He2.out (fun b hb => (Hbe.out.2 b hb).2) (by rw [Hrl.out]; exact h200)).mono ?_; rintro e w3 ⟨ec, ic, mc, rfl, hk3, hec, c1, c2, c3⟩)
         have HK3 := Lib.hid (HK2.out.trans hk3 (fun _ _ h => h))
         have Hec3 := Lib.hid hec
         have Hex3 := Lib.hid (He2.out.after hk3)
         have Hcc := Lib.hid (show w2.heap.size ≤ ec ∧ w2.heap.size ≤ ic ∧ w2.heap.size ≤ mc from ⟨c1, c2, c3⟩)
         have Hz3 := Lib.hid hk3.size
         clear hk3 hec c1 c2 c3
         (try simp only [Act.put, List.setIfInBounds_toArray, List.set_cons_zero, List.set_cons_succ]))
      | (go_at_call 18
         have hask := AskR_any Hinv.out w3 Xe ec ic mc q 1073741824 (by decide) Hec3.out (fun b hb => Nat.lt_of_lt_of_le (Hbe.out.2 b hb).2 Hz3.out)
         rw [HR.out] at hask
         go_must (refine hask.mono ?_; rintro e w4 ⟨Xc, wl4, rfl, hx4, hxl4, hk4, he4, hw4, how4⟩; obtain ⟨wA, wc, rfl⟩ := own_slice hw4)
         have hlx := He2.out.lts
         have hlc := Hec3.out.lts
         go_must (have HK4 := Lib.hid (HK3.out.trans hk4 (fun i hi e => by have h1 := Hcc.out.2.2; have h2 := HK2.out.size; omega)))
         have Hec4 := Lib.hid he4
         go_must (have Hex4 := Lib.hid (Hex3.out.keep (X' := Xe) hk4 (by have h1 := Hcc.out.2.2; show ¬ eb = mc; omega) (by have h1 := Hcc.out.2.2; show ¬ ib = mc; omega) (by have h1 := Hcc.out.2.2; show ¬ mb = mc; omega) (fun b _ hx e => by have h1 := (Hbe.out.2 b hx).2; have h2 := Hcc.out.2.2; omega) (fun _ _ => Iff.rfl)))
         go_must (have Hw4 := Lib.hid ((IntsX.own (xs := Rw) hw4 (fun b => w3.heap.size ≤ b) (fun b hb => (how4 b hb.symm).1))))
         go_must (have Hxc := Lib.hid (show (∀ b, Xc b → b < w4.heap.size ∧ (b < w3.heap.size → Xe b)) from fun b hb => ⟨hxl4 b hb, fun hl => (hx4 b hl).1 hb⟩))
         have Hz4 := Lib.hid hk4.size
         clear hask hk4 hw4 he4 hxl4 hx4 hlx hlc how4
         (try simp only [Act.put, List.setIfInBounds_toArray, List.set_cons_zero, List.set_cons_succ]))
      | ((with_reducible refine at_dst (N := 54) rfl ?_); go_must (refine ev_slice (cs := #[]) (t := 3) (n := 0) (c := 0) rfl (by first | (go_simp; done) | (go_simp; rfl)) ?_; intro g5 w5 hg5 hl5 hb5 hk5); have Hk5 := Lib.hid hk5; clear hb5 hk5; (try simp only [Act.put, List.setIfInBounds_toArray, List.set_cons_zero, List.set_cons_succ]))
    )
    have H0 := Lib.hid (show Parts w5 w5 E own ⟨Ra, Rw, Rv, Re⟩ q bn eb ib mb ec ic mc Xc 0 0 13 (.slice none 0 0) ans Xe [] from
      ⟨Keeps.refl _ _, Hinv.out, Hex4.out.after Hk5.out, fun b hb => by have h1 := (Hbe.out.2 b hb).2; have h2 := Hz3.out; have h3 := Hz4.out; have h4 := Hk5.out.size; omega, fun b _ e => (by cases e), Hec4.out.after Hk5.out, ⟨rfl, .inl ⟨rfl, rfl⟩⟩, .inl ⟨rfl, by simp, by simpa using HR.out, .inl rfl⟩⟩)
    have Hsep := Lib.hid (show (eb < w5.heap.size ∧ ib < w5.heap.size ∧ mb < w5.heap.size) ∧ (ec < w5.heap.size ∧ ic < w5.heap.size ∧ mc < w5.heap.size) ∧ (ec ≠ mb ∧ ic ≠ mb ∧ mc ≠ mb) ∧ (∀ b, Xc b → b < w5.heap.size ∧ b ≠ mb) by
      have h1 := He2.out.lts
      have h2 := Hec3.out.lts
      have h3 := Hz3.out
      have h4 := Hz4.out
      have h5 := Hk5.out.size
      have h6 := Hcc.out
      refine ⟨by omega, by omega, by omega, fun b hb => ⟨by have := (Hxc.out b hb).1; omega, fun e => He2.out.xm ?_⟩⟩
      rw [← e]
      exact (Hxc.out b hb).2 (by omega))
    have hwm : IntKind.i64.wrap mo = mo := IntWalk.i64_in _ (by omega)
    have hwm1 : IntKind.i64.wrap (1 + mo) = 1 + mo := IntWalk.i64_in _ (by omega)
    go_loopw [15, 16, 18, 19] (fun av mv fv v wr => ∃ (i : Nat) (m f : Int) (a : List (Option KeptR)) (Xx : Nat → Prop) (done : List Int), v = .int .i64 i ∧ mv = .int .i64 m ∧ fv = .int .i64 f ∧ i ≤ own.length + 1 ∧ Hid (Parts w5 wr E own ⟨Ra, Rw, Rv, Re⟩ q bn eb ib mb ec ic mc Xc i m f av a Xx done))
      (fun _ _ _ v _ => own.length + 1 - (intOf v).toNat)
    case atStart => exact ⟨0, 0, 13, ans, Xe, [], rfl, rfl, rfl, Nat.zero_le _, H0⟩
    case round =>
      obtain ⟨i, m, f, a, Xx, done, rfl, rfl, rfl, hi, hst⟩ := hrel
      rcases hst.out.cont with ⟨rfl, hdone, hask, hi0⟩ | ⟨rfl, rfl, rfl, rfl⟩
      · have hile : i ≤ own.length := by
          rcases hi0 with rfl | h
          · exact Nat.zero_le _
          · have h2 := Nat.le_mul_of_pos_right i hb1
            have h3 : i * bn < Rw.length := h
            omega
        obtain ⟨-, -, hp1, hp2⟩ := parts_step hst.out.inv q bn (by omega) hask
        simp only at hp1 hp2 hdone
        rw [Hbn.out] at hp1 hp2
        have hdl : done.length ≤ 200 := by rw [hdone, List.length_take]; omega
        have hdrl : (Rw.drop (i * bn)).length ≤ 200 := by rw [List.length_drop]; omega
        have hsa := hst.out.inv.ask q (1 + mo) (by omega)
        rw [← askR_ans] at hsa
        have Hsa := Lib.hid hsa
        have Hdone := Lib.hid hdone
        clear hask hsa hdone
        by_cases hle : (Rw.drop (i * bn)).length ≤ bn
        · have hr := hp1 hle
          have Hr := Lib.hid hr
          obtain ⟨l', hl'⟩ : ∃ l, Rw.drop (i * bn) = l := ⟨_, rfl⟩
          have Hl' := Lib.hid hl'
          rw [hl'] at Hr hdrl
          clear hp1 hp2 hr hle hi0 hl'
          have hcc : Hid (done ++ l' = Rw) := Lib.hid (by rw [Hdone.out, ← Hl'.out, List.take_append_drop])
          have Hsa2 := Lib.hid (show SInv own 60 (E, Ra) by have h := Hsa.out; rw [Hr.out] at h; exact h)
          have hnl := Lib.hid (show ∀ wq : World, ∀ A c, IntsX wq (fun _ => True) (.slice A (l').length c) l' → ∀ j u, ((l').map (Value.int .i64))[j]? = some u → ∀ ad, A = some ad → wq.cell? (ad.add j) = some u from fun wq A c h => by have h2 := ints_news (m := (l').length) h; rwa [List.take_of_length_le (Nat.le_refl _)] at h2)
          have hno := Lib.hid (show ∀ (wq : World) (A : Option Addr) (c : Nat), IntsX wq (fun _ => True) (.slice A (l').length c) l' → 0 < (l').length → ∃ ad, A = some ad from fun wq A c h h0 => by obtain ⟨A', c', e, _, h3⟩ := h; injection e with e _ _; obtain ⟨b, o, e2, _⟩ := h3 0 h0; exact ⟨_, e.trans e2⟩)
          go_wp2_with (first
            | (go_at_call 18
               have hask := AskR_any hst.out.inv wr Xx eb ib mb q (1 + mo) (by omega) hst.out.eng hst.out.xx
               rw [Hr.out] at hask
               go_must (refine hask.mono ?_; rintro e wq ⟨Xq, wlq, rfl, hxq, hxlq, hkq, heq, hwq, how⟩; obtain ⟨qA, qc, rfl⟩ := own_slice hwq)
               have Hq := Lib.hid (And.intro (And.intro hxq hxlq) (And.intro hkq heq))
               go_must (have Hnew := Lib.hid (IntsX.own (xs := l') hwq (fun _ => True) (fun _ _ => trivial)))
               go_must (have Hrow := Lib.hid (ownsRow_keep hst.out.row hkq (fun b hb e => by have h1 := (hst.out.far b hb).1; have h2 := Hsep.out.1; omega)))
               go_must (have Hzq := Lib.hid (show w5.heap.size ≤ wq.heap.size from Nat.le_trans hst.out.keep.size hkq.size))
               clear hask hxq hxlq hkq heq hwq how
               (try simp only [Act.put, List.setIfInBounds_toArray, List.set_cons_zero, List.set_cons_succ]))
            | ((with_reducible refine at_dst (N := 77) rfl ?_)
               go_must (refine ev_append (W := wq) rfl rfl Tryd.underlying23 info3 rfl (by decide) (base := w5.heap.size) rfl Hrow.out (news := (l').map (Value.int .i64)) rfl (by rw [List.length_map]; omega) (fun h0 => by obtain ⟨ad, e⟩ := hno.out wq _ _ Hnew.out h0; exact ⟨ad, e, fun j u hj => hnl.out wq _ _ Hnew.out j u hj ad e⟩) (fun u hu => by obtain ⟨x, _, rfl⟩ := List.mem_map.1 hu; rfl) (by omega) (by decide) Hzq.out ?_; intro av' wz hown' hkz hrz _)
               have Hown' := Lib.hid hown'
               have Hrz := Lib.hid hrz
               have Hkz := Lib.hid (show Keeps (fun k => some k = Value.ownBlock u15) wq wz from hkz)
               clear hown' hkz hrz
               (try simp only [Act.put, List.setIfInBounds_toArray, List.set_cons_zero, List.set_cons_succ]))
          )
          exact ⟨⟨i + 1, Rv, Re, Ra, Xq, done ++ l', by go_num, rfl, rfl, by omega, Lib.hid (hst.out.next Hq.out.1.1 Hq.out.1.2 Hq.out.2.1 Hq.out.2.2 (Hsa2).out Hkz.out Hown'.out Hrz.out Hsep.out (.inr ⟨rfl, rfl, hcc.out, rfl⟩))⟩, by simp [intOf]; omega⟩
        · obtain ⟨t, hr, hnx⟩ := hp2 (by omega)
          have Hr := Lib.hid hr
          have hgt : bn < Rw.length - i * bn := by rw [List.length_drop] at hle; omega
          obtain ⟨l', hl'⟩ : ∃ l, (Rw.drop (i * bn)).take bn = l := ⟨_, rfl⟩
          have hll : l'.length ≤ 200 := by rw [← hl', List.length_take]; omega
          have Hl' := Lib.hid hl'
          have Hnx := Lib.hid hnx
          rw [hl'] at Hr
          clear hp1 hp2 hr hle hi0 hl' hnx
          have hdrl : l'.length ≤ 200 := hll
          have hm1 : (i + 1) * bn = i * bn + bn := Nat.succ_mul i bn
          have Hm1 := Lib.hid hm1
          have hgt2 := Lib.hid (show (i + 1) * bn < Rw.length by rw [hm1]; omega)
          clear hm1 hgt
          have hcc : Hid (done ++ l' = Rw.take ((i + 1) * bn)) := Lib.hid (by rw [Hdone.out, ← Hl'.out, Hm1.out, List.take_add])
          have hcd : Hid (askR E t q 1073741824 = ⟨Ra, Rw.drop ((i + 1) * bn), Rv, Re⟩) := Lib.hid (by rw [Hnx.out, Hm1.out, List.drop_drop])
          have Hsa2 := Lib.hid (show SInv own 60 (E, t) by have h := Hsa.out; rw [Hr.out] at h; exact h)
          have hnl := Lib.hid (show ∀ wq : World, ∀ A c, IntsX wq (fun _ => True) (.slice A (l').length c) l' → ∀ j u, ((l').map (Value.int .i64))[j]? = some u → ∀ ad, A = some ad → wq.cell? (ad.add j) = some u from fun wq A c h => by have h2 := ints_news (m := (l').length) h; rwa [List.take_of_length_le (Nat.le_refl _)] at h2)
          have hno := Lib.hid (show ∀ (wq : World) (A : Option Addr) (c : Nat), IntsX wq (fun _ => True) (.slice A (l').length c) l' → 0 < (l').length → ∃ ad, A = some ad from fun wq A c h h0 => by obtain ⟨A', c', e, _, h3⟩ := h; injection e with e _ _; obtain ⟨b, o, e2, _⟩ := h3 0 h0; exact ⟨_, e.trans e2⟩)
          go_wp2_with (first
            | (go_at_call 18
               have hask := AskR_any hst.out.inv wr Xx eb ib mb q (1 + mo) (by omega) hst.out.eng hst.out.xx
               rw [Hr.out] at hask
               go_must (refine hask.mono ?_; rintro e wq ⟨Xq, wlq, rfl, hxq, hxlq, hkq, heq, hwq, how⟩; obtain ⟨qA, qc, rfl⟩ := own_slice hwq)
               have Hq := Lib.hid (And.intro (And.intro hxq hxlq) (And.intro hkq heq))
               go_must (have Hnew := Lib.hid (IntsX.own (xs := l') hwq (fun _ => True) (fun _ _ => trivial)))
               go_must (have Hrow := Lib.hid (ownsRow_keep hst.out.row hkq (fun b hb e => by have h1 := (hst.out.far b hb).1; have h2 := Hsep.out.1; omega)))
               go_must (have Hzq := Lib.hid (show w5.heap.size ≤ wq.heap.size from Nat.le_trans hst.out.keep.size hkq.size))
               clear hask hxq hxlq hkq heq hwq how
               (try simp only [Act.put, List.setIfInBounds_toArray, List.set_cons_zero, List.set_cons_succ]))
            | ((with_reducible refine at_dst (N := 77) rfl ?_)
               go_must (refine ev_append (W := wq) rfl rfl Tryd.underlying23 info3 rfl (by decide) (base := w5.heap.size) rfl Hrow.out (news := (l').map (Value.int .i64)) rfl (by rw [List.length_map]; omega) (fun h0 => by obtain ⟨ad, e⟩ := hno.out wq _ _ Hnew.out h0; exact ⟨ad, e, fun j u hj => hnl.out wq _ _ Hnew.out j u hj ad e⟩) (fun u hu => by obtain ⟨x, _, rfl⟩ := List.mem_map.1 hu; rfl) (by omega) (by decide) Hzq.out ?_; intro av' wz hown' hkz hrz _)
               have Hown' := Lib.hid hown'
               have Hrz := Lib.hid hrz
               have Hkz := Lib.hid (show Keeps (fun k => some k = Value.ownBlock u15) wq wz from hkz)
               clear hown' hkz hrz
               (try simp only [Act.put, List.setIfInBounds_toArray, List.set_cons_zero, List.set_cons_succ]))
          )
          exact ⟨⟨i + 1, 0, 13, t, Xq, done ++ l', by go_num, rfl, rfl, by omega, Lib.hid (hst.out.next Hq.out.1.1 Hq.out.1.2 Hq.out.2.1 Hq.out.2.2 (Hsa2).out Hkz.out Hown'.out Hrz.out Hsep.out (.inl ⟨rfl, hcc.out, hcd.out, .inr hgt2.out⟩))⟩, by simp [intOf]; omega⟩
      · have hre1 : (f == 13) = false := by simpa using HRe.out
        have hre2 : (f != f) = false := by simp
        have hre3 : (m != m) = false := by simp
        have hre4 : (E.rev != E.rev) = false := by simp
        have HW := Lib.hid (Hw4.out.keep (X' := fun _ => True) Hk5.out (fun _ _ _ => id) (fun _ _ _ => trivial))
        have Hmb5 := Lib.hid (show mb < w3.heap.size by have h1 := He2.out.lts.2.2; have h2 := Hz3.out; omega)
        have HL := Lib.hid ((Hw4.out.keep (X' := fun b => w3.heap.size ≤ b) Hk5.out (fun _ _ _ => id) (fun _ _ h => h)).keep (X' := fun _ => True) hst.out.keep (fun b _ hx e => by have h1 := Hmb5.out; omega) (fun _ _ _ => trivial))
        have HAll := Lib.hid (IntsX.own (xs := done) (own_base hst.out.row) (fun _ => True) (fun _ _ => trivial))
        have hdl : done.length ≤ 1000000 := by omega
        have HKx := Lib.hid (Keeps.refl Nob wr)
        have HKr := Lib.hid (((HK4.out.trans Hk5.out (fun _ _ h => h)).trans hst.out.keep (fun i hi e => by have h1 := Hbe.out.1.2.2; have h2 := HK1.out.size; omega)))
        have Hal := Lib.hid (show ∀ p, (foundF E a p).1.asked.length ≤ 12 from fun p => by
          unfold foundF
          split
          · decide
          rename_i hp
          split
          · exact Nat.zero_le _
          · split
            · decide
            · rename_i k hk
              exact (hst.out.inv.inv.kok p k (isErr_in hp) hk).alen)
        have h200' : E.rules.length ≤ 200 := by rw [Hrl.out]; exact h200
        by_cases hil : i ≤ own.length
        · skip
          go_wp2_with (first
            | (go_at_call 32
               have hrun := same_any done done _ _ _ _ _ HAll.out HL.out hdl
               rw [decide_eq_true rfl] at hrun
               go_must (refine hrun.mono ?_; rintro e wk ⟨rfl, hkk⟩)
               have HKx := Lib.hid (HKx.out.trans hkk (fun _ _ h => h))
               clear hrun hkk
               (try simp only [Act.put, List.setIfInBounds_toArray, List.set_cons_zero, List.set_cons_succ]))
            | (go_at_call 31; first
               | (with_reducible (show Calls Tryd.prog 31 #[Value.pointer (some ⟨eb, 0, none⟩)] _ _); refine (Revision_any (hst.out.eng.after HKx.out)).mono ?_; rintro e wk ⟨rfl, rfl⟩; (try simp only [Act.put, List.setIfInBounds_toArray, List.set_cons_zero, List.set_cons_succ]))
               | (refine (Revision_any (hst.out.engc.after HKx.out)).mono ?_; rintro e wk ⟨rfl, rfl⟩; (try simp only [Act.put, List.setIfInBounds_toArray, List.set_cons_zero, List.set_cons_succ])))
          )
          have HEx := Lib.hid (hst.out.eng.after HKx.out)
          have HEc := Lib.hid (hst.out.engc.after HKx.out)
          have HKw := Lib.hid (HKr.out.trans HKx.out (fun _ _ h => h))
          go_loopw [101] (fun v wr2 => ∃ k : Nat, v = .int .i64 k ∧ k ≤ own.length ∧ Hid (Keeps Nob wk wr2)) (fun v _ => own.length - (intOf v).toNat)
          case atStart => exact ⟨0, rfl, Nat.zero_le _, Lib.hid (Keeps.refl _ _)⟩
          case round =>
            obtain ⟨k, rfl, hk, HKc⟩ := hrel
            by_cases hkl : k < own.length
            · obtain ⟨fk, fe, hfo⟩ : ∃ x y, foundF E a (k : Int) = (x, y) := ⟨_, _, rfl⟩
              obtain ⟨kv, kb, hkv⟩ : ∃ x y, keptVal E a (k : Int) = (x, y) := ⟨_, _, rfl⟩
              have hfl := Hal.out k
              rw [hfo] at hfl
              have hfl2 : fk.asked.length ≤ 1000000 := by have h : fk.asked.length ≤ 12 := hfl; omega
              have Hfl := Lib.hid (show (foundF E a (k : Int)).1.asked.length ≤ 1000000 by rw [hfo]; exact hfl2)
              have Hfo := Lib.hid hfo
              have Hkv := Lib.hid hkv
              have hb1 : (kb != kb) = false := by simp
              have hb2 : (kv != kv) = false := by simp
              have hb3 : (fk.checked != fk.checked) = false := by simp
              have hb4 : (fk.changed != fk.changed) = false := by simp
              clear hfo hkv hfl
              go_wp2_with (first
                | (go_at_call 19
                   first
                   | (with_reducible (show Calls Tryd.prog 19 #[Value.pointer (some ⟨eb, 0, none⟩), Value.int .i64 k] _ _); have hrun := Kept_any Xx eb ib mb E a k _ (HEx.out.after HKc.out) h200'; rw [Hkv.out] at hrun; refine hrun.mono ?_; rintro e wq ⟨rfl, hkq⟩)
                   | (have hrun := Kept_any Xc ec ic mc E a k _ (HEc.out.after HKc.out) h200'; rw [Hkv.out] at hrun; refine hrun.mono ?_; rintro e wq ⟨rfl, hkq⟩)
                   have HKc := Lib.hid (HKc.out.trans hkq (fun _ _ h => h))
                   clear hrun hkq
                   (try simp only [Act.put, List.setIfInBounds_toArray, List.set_cons_zero, List.set_cons_succ]))
                | (go_at_call 21
                   first
                   | (with_reducible (show Calls Tryd.prog 21 #[Value.pointer (some ⟨eb, 0, none⟩), Value.int .i64 k] _ _); have hrun := When_any Xx eb ib mb E a k _ (HEx.out.after HKc.out) h200'; rw [Hfo.out] at hrun; refine hrun.mono ?_; rintro e wq ⟨rfl, hkq⟩)
                   | (have hrun := When_any Xc ec ic mc E a k _ (HEc.out.after HKc.out) h200'; rw [Hfo.out] at hrun; refine hrun.mono ?_; rintro e wq ⟨rfl, hkq⟩)
                   have HKc := Lib.hid (HKc.out.trans hkq (fun _ _ h => h))
                   clear hrun hkq
                   (try simp only [Act.put, List.setIfInBounds_toArray, List.set_cons_zero, List.set_cons_succ]))
                | (go_at_call 20
                   first
                   | (with_reducible (show Calls Tryd.prog 20 #[Value.pointer (some ⟨eb, 0, none⟩), Value.int .i64 k] _ _); have hrun := Asked_any Xx eb ib mb E a k _ (HEx.out.after HKc.out) h200' Hfl.out; rw [Hfo.out] at hrun; refine hrun.mono ?_; rintro e wq ⟨uv, rfl, hkq, huv⟩
                      obtain ⟨uA, uc, rfl, -, -⟩ := id huv
                      have HU1 := Lib.hid (huv.keep (X' := fun _ => True) (Keeps.refl Nob wq) (fun _ _ _ => id) (fun _ _ _ => trivial)))
                   | (have hrun := Asked_any Xc ec ic mc E a k _ (HEc.out.after HKc.out) h200' Hfl.out; rw [Hfo.out] at hrun; refine hrun.mono ?_; rintro e wq ⟨uv, rfl, hkq, huv⟩
                      obtain ⟨uB, ud, rfl, -, -⟩ := id huv
                      have HU2 := Lib.hid (huv.keep (X' := fun _ => True) (Keeps.refl Nob wq) (fun _ _ _ => id) (fun _ _ _ => trivial))
                      have HU1 := Lib.hid (HU1.out.keep (X' := fun _ => True) hkq (fun _ _ _ => id) (fun _ _ h => h)))
                   have HKc := Lib.hid (HKc.out.trans hkq (fun _ _ h => h))
                   clear hrun hkq huv
                   (try simp only [Act.put, List.setIfInBounds_toArray, List.set_cons_zero, List.set_cons_succ]))
                | (go_at_call 32
                   have hrun := same_any fk.asked fk.asked _ _ _ _ _ HU1.out HU2.out hfl2
                   rw [decide_eq_true rfl] at hrun
                   go_must (refine hrun.mono ?_; rintro e wq ⟨rfl, hkq⟩)
                   have HKc := Lib.hid (HKc.out.trans hkq (fun _ _ h => h))
                   clear hrun hkq
                   (try simp only [Act.put, List.setIfInBounds_toArray, List.set_cons_zero, List.set_cons_succ]))
              )
              exact ⟨⟨k + 1, by go_num, by omega, HKc⟩, by simp [intOf]; omega⟩
            · obtain rfl : k = own.length := by omega
              have HKz := Lib.hid (HKw.out.trans HKc.out (fun _ _ h => h))
              go_wp2_with (first
                | (go_at_call 14; go_must (refine (alive_any wr (HT.out.keep HKz.out id)).mono ?_; rintro e w9 ⟨rfl, hk9⟩); (try simp only [Act.put, List.setIfInBounds_toArray, List.set_cons_zero, List.set_cons_succ]))
              )
              go_ret
              exact ⟨rfl, HKz.out.trans hk9 (fun _ _ h => h)⟩
        · skip
          go_wp2_with (first
            | (go_at_call 32
               have hrun := same_any done done _ _ _ _ _ HAll.out HL.out hdl
               rw [decide_eq_true rfl] at hrun
               go_must (refine hrun.mono ?_; rintro e wk ⟨rfl, hkk⟩)
               have HKx := Lib.hid (HKx.out.trans hkk (fun _ _ h => h))
               clear hrun hkk
               (try simp only [Act.put, List.setIfInBounds_toArray, List.set_cons_zero, List.set_cons_succ]))
            | (go_at_call 31; first
               | (with_reducible (show Calls Tryd.prog 31 #[Value.pointer (some ⟨eb, 0, none⟩)] _ _); refine (Revision_any (hst.out.eng.after HKx.out)).mono ?_; rintro e wk ⟨rfl, rfl⟩; (try simp only [Act.put, List.setIfInBounds_toArray, List.set_cons_zero, List.set_cons_succ]))
               | (refine (Revision_any (hst.out.engc.after HKx.out)).mono ?_; rintro e wk ⟨rfl, rfl⟩; (try simp only [Act.put, List.setIfInBounds_toArray, List.set_cons_zero, List.set_cons_succ])))
          )
          have HEx := Lib.hid (hst.out.eng.after HKx.out)
          have HEc := Lib.hid (hst.out.engc.after HKx.out)
          have HKw := Lib.hid (HKr.out.trans HKx.out (fun _ _ h => h))
          go_loopw [101] (fun v wr2 => ∃ k : Nat, v = .int .i64 k ∧ k ≤ own.length ∧ Hid (Keeps Nob wk wr2)) (fun v _ => own.length - (intOf v).toNat)
          case atStart => exact ⟨0, rfl, Nat.zero_le _, Lib.hid (Keeps.refl _ _)⟩
          case round =>
            obtain ⟨k, rfl, hk, HKc⟩ := hrel
            by_cases hkl : k < own.length
            · obtain ⟨fk, fe, hfo⟩ : ∃ x y, foundF E a (k : Int) = (x, y) := ⟨_, _, rfl⟩
              obtain ⟨kv, kb, hkv⟩ : ∃ x y, keptVal E a (k : Int) = (x, y) := ⟨_, _, rfl⟩
              have hfl := Hal.out k
              rw [hfo] at hfl
              have hfl2 : fk.asked.length ≤ 1000000 := by have h : fk.asked.length ≤ 12 := hfl; omega
              have Hfl := Lib.hid (show (foundF E a (k : Int)).1.asked.length ≤ 1000000 by rw [hfo]; exact hfl2)
              have Hfo := Lib.hid hfo
              have Hkv := Lib.hid hkv
              have hb1 : (kb != kb) = false := by simp
              have hb2 : (kv != kv) = false := by simp
              have hb3 : (fk.checked != fk.checked) = false := by simp
              have hb4 : (fk.changed != fk.changed) = false := by simp
              clear hfo hkv hfl
              go_wp2_with (first
                | (go_at_call 19
                   first
                   | (with_reducible (show Calls Tryd.prog 19 #[Value.pointer (some ⟨eb, 0, none⟩), Value.int .i64 k] _ _); have hrun := Kept_any Xx eb ib mb E a k _ (HEx.out.after HKc.out) h200'; rw [Hkv.out] at hrun; refine hrun.mono ?_; rintro e wq ⟨rfl, hkq⟩)
                   | (have hrun := Kept_any Xc ec ic mc E a k _ (HEc.out.after HKc.out) h200'; rw [Hkv.out] at hrun; refine hrun.mono ?_; rintro e wq ⟨rfl, hkq⟩)
                   have HKc := Lib.hid (HKc.out.trans hkq (fun _ _ h => h))
                   clear hrun hkq
                   (try simp only [Act.put, List.setIfInBounds_toArray, List.set_cons_zero, List.set_cons_succ]))
                | (go_at_call 21
                   first
                   | (with_reducible (show Calls Tryd.prog 21 #[Value.pointer (some ⟨eb, 0, none⟩), Value.int .i64 k] _ _); have hrun := When_any Xx eb ib mb E a k _ (HEx.out.after HKc.out) h200'; rw [Hfo.out] at hrun; refine hrun.mono ?_; rintro e wq ⟨rfl, hkq⟩)
                   | (have hrun := When_any Xc ec ic mc E a k _ (HEc.out.after HKc.out) h200'; rw [Hfo.out] at hrun; refine hrun.mono ?_; rintro e wq ⟨rfl, hkq⟩)
                   have HKc := Lib.hid (HKc.out.trans hkq (fun _ _ h => h))
                   clear hrun hkq
                   (try simp only [Act.put, List.setIfInBounds_toArray, List.set_cons_zero, List.set_cons_succ]))
                | (go_at_call 20
                   first
                   | (with_reducible (show Calls Tryd.prog 20 #[Value.pointer (some ⟨eb, 0, none⟩), Value.int .i64 k] _ _); have hrun := Asked_any Xx eb ib mb E a k _ (HEx.out.after HKc.out) h200' Hfl.out; rw [Hfo.out] at hrun; refine hrun.mono ?_; rintro e wq ⟨uv, rfl, hkq, huv⟩
                      obtain ⟨uA, uc, rfl, -, -⟩ := id huv
                      have HU1 := Lib.hid (huv.keep (X' := fun _ => True) (Keeps.refl Nob wq) (fun _ _ _ => id) (fun _ _ _ => trivial)))
                   | (have hrun := Asked_any Xc ec ic mc E a k _ (HEc.out.after HKc.out) h200' Hfl.out; rw [Hfo.out] at hrun; refine hrun.mono ?_; rintro e wq ⟨uv, rfl, hkq, huv⟩
                      obtain ⟨uB, ud, rfl, -, -⟩ := id huv
                      have HU2 := Lib.hid (huv.keep (X' := fun _ => True) (Keeps.refl Nob wq) (fun _ _ _ => id) (fun _ _ _ => trivial))
                      have HU1 := Lib.hid (HU1.out.keep (X' := fun _ => True) hkq (fun _ _ _ => id) (fun _ _ h => h)))
                   have HKc := Lib.hid (HKc.out.trans hkq (fun _ _ h => h))
                   clear hrun hkq huv
                   (try simp only [Act.put, List.setIfInBounds_toArray, List.set_cons_zero, List.set_cons_succ]))
                | (go_at_call 32
                   have hrun := same_any fk.asked fk.asked _ _ _ _ _ HU1.out HU2.out hfl2
                   rw [decide_eq_true rfl] at hrun
                   go_must (refine hrun.mono ?_; rintro e wq ⟨rfl, hkq⟩)
                   have HKc := Lib.hid (HKc.out.trans hkq (fun _ _ h => h))
                   clear hrun hkq
                   (try simp only [Act.put, List.setIfInBounds_toArray, List.set_cons_zero, List.set_cons_succ]))
              )
              exact ⟨⟨k + 1, by go_num, by omega, HKc⟩, by simp [intOf]; omega⟩
            · obtain rfl : k = own.length := by omega
              have HKz := Lib.hid (HKw.out.trans HKc.out (fun _ _ h => h))
              go_wp2_with (first
                | (go_at_call 14; go_must (refine (alive_any wr (HT.out.keep HKz.out id)).mono ?_; rintro e w9 ⟨rfl, hk9⟩); (try simp only [Act.put, List.setIfInBounds_toArray, List.set_cons_zero, List.set_cons_succ]))
              )
              go_ret
              exact ⟨rfl, HKz.out.trans hk9 (fun _ _ h => h)⟩
  · have Hc := Lib.hid hc
    clear hc
    go_enter Tryd.func9, Tryd.ntmps9
    go_wp2_with (first
      | (go_at_call 10; go_must (refine HC.out.mono ?_; rintro e w1 ⟨ov, rfl, hk1, hr1⟩; obtain ⟨oA, oc, rfl, _, _⟩ := id hr1)
         have HK1 := Lib.hid hk1
         have Hr1 := Lib.hid hr1
         have Ha1 := Lib.hid (HA.out.keep (X' := Y) hk1 (fun _ _ _ => id) (fun _ _ h => h))
         clear hk1 hr1
         (try simp only [Act.put, List.setIfInBounds_toArray, List.set_cons_zero, List.set_cons_succ]))
      | (go_at_call 16; go_must (refine (played_any own acts w1 _ _ _ _ Hr1.out Ha1.out (fun _ => HT.out.keep HK1.out id)).mono ?_; rintro e w2 ⟨hk2, hx2, -⟩; obtain rfl := hx2 Hc.out)
         have HK2 := Lib.hid (HK1.out.trans hk2 (fun _ _ h => h))
         clear hk2 hx2
         (try simp only [Act.put, List.setIfInBounds_toArray, List.set_cons_zero, List.set_cons_succ]))
      | (go_at_call 14; go_must (refine (alive_any w2 (HT.out.keep HK2.out id)).mono ?_; rintro e w9 ⟨rfl, hk9⟩); (try simp only [Act.put, List.setIfInBounds_toArray, List.set_cons_zero, List.set_cons_succ]))
    )
    go_ret
    exact ⟨rfl, HK2.out.trans hk9 (fun _ _ h => h)⟩
end Go.Proofs.QW

/-
  From a row's list of laid variables to the table of kinds in memory. Condition: the list that the rows of this seat have.
-/
namespace Go.Proofs.QW
open Go.RowKit Go.Proofs.KL Go.Proofs.QM Go.Lib

theorem tab2_cell {H : Type} {enc : TypeId × Value → H} {P : Program} {w : World} {base : Nat} {sp : Nat → Bool} {held : Bool} {fuel : Nat} {t e ee : TypeId} {n m : Nat} {k : IntKind} {cs : List Value} {rows : List (List Int)} {p : List MemPlace}
    (ht : P.underlying t = some (.array n e)) (he : P.underlying e = some (.array m ee)) (hee : P.underlying ee = some (.int k)) (hcee : P.cellsOf ee = 1) (hce : P.cellsOf e = m)
    (h : DataW.trod enc P w base sp held fuel t cs = some (.agg (rows.map (tabData k)), p)) : ∀ i, i < n → ∀ row, rows[i]? = some row → ∀ j, j < m → cs[i * m + j]? = (row.map fun z => Value.int k z)[j]? := by
  intro i hi row hrow j hj
  cases fuel with
  | zero => simp [DataW.trod] at h
  | succ fuel =>
    simp only [DataW.trod, ht] at h
    split at h
    · obtain ⟨xs, hm, hx⟩ := Option.map_eq_some_iff.1 h
      obtain ⟨b, hb, hf⟩ := mapM_at hm i i (by simp [hi])
      have hxs : xs.map (·.1) = rows.map (tabData k) := by
        have := congrArg Prod.fst hx
        simpa using this
      have hb1 : b.1 = tabData k row := by
        have h2 := congrArg (·[i]?) hxs
        simpa [hb, hrow] using h2
      obtain ⟨b1, b2⟩ := b
      simp only at hb1
      subst hb1
      have := cells_of_tab he hee hcee hce hf
      rw [hce] at this
      rw [← this, List.getElem?_take, if_pos hj, List.getElem?_drop]
    · cases h
theorem gTab : Tryd.prog.globalNamed "marginalia/query.asksOf" = some 0 := by kernel_rfl
theorem gTabType : (Tryd.prog.globals[0]?).map (·.type) = some 110 := by kernel_rfl
theorem cells109 : Tryd.prog.cellsOf 109 = 4 := by kernel_rfl
theorem cells3 : Tryd.prog.cellsOf 3 = 1 := by kernel_rfl
def tabRows : List (List Int) := [[0, 0, 0, 0], [0, 0, 0, 0], [0, 12, 1, 1048576], [2, 12, 0, 0], [0, 12, 0, 0], [2, 2, 0, 0], [1, 1, -1000, 1000]]
theorem tab_of_laid {W : World} (h : laidMet Tryd.prog [("marginalia/query.asksOf", YtohpkolkagddiaaDoor.Rows.laid_marginalia_query_asksOf)] W) : Tab W := by
  obtain ⟨ps, ⟨g', t', cs, fuel, p, q, hg', ht', hvar, hd, _, _⟩, _⟩ := h
  obtain rfl := Option.some.inj (gTab.symm.trans hg')
  obtain rfl := Option.some.inj (gTabType.symm.trans ht')
  have key := tab2_cell (rows := tabRows) Tryd.underlying110 Tryd.underlying109 Tryd.underlying3 cells3 cells109 hd
  have cell : ∀ i j, i < 7 → j < 4 → ∀ row, tabRows[i]? = some row → W.cell? ⟨0, i * 4 + j, none⟩ = (row.map fun z => Value.int .i64 z)[j]? := fun i j hi hj row hrow => by
    rw [← key i hi row hrow j hj]
    have := World.var?_cell gTab hvar (i * 4 + j)
    simpa using this
  intro k h1 h7
  match k, h1, h7 with
  | 1, _, _ => exact ⟨cell 1 0 (by decide) (by decide) _ rfl, cell 1 1 (by decide) (by decide) _ rfl, cell 1 2 (by decide) (by decide) _ rfl, cell 1 3 (by decide) (by decide) _ rfl⟩
  | 2, _, _ => exact ⟨cell 2 0 (by decide) (by decide) _ rfl, cell 2 1 (by decide) (by decide) _ rfl, cell 2 2 (by decide) (by decide) _ rfl, cell 2 3 (by decide) (by decide) _ rfl⟩
  | 3, _, _ => exact ⟨cell 3 0 (by decide) (by decide) _ rfl, cell 3 1 (by decide) (by decide) _ rfl, cell 3 2 (by decide) (by decide) _ rfl, cell 3 3 (by decide) (by decide) _ rfl⟩
  | 4, _, _ => exact ⟨cell 4 0 (by decide) (by decide) _ rfl, cell 4 1 (by decide) (by decide) _ rfl, cell 4 2 (by decide) (by decide) _ rfl, cell 4 3 (by decide) (by decide) _ rfl⟩
  | 5, _, _ => exact ⟨cell 5 0 (by decide) (by decide) _ rfl, cell 5 1 (by decide) (by decide) _ rfl, cell 5 2 (by decide) (by decide) _ rfl, cell 5 3 (by decide) (by decide) _ rfl⟩
  | 6, _, _ => exact ⟨cell 6 0 (by decide) (by decide) _ rfl, cell 6 1 (by decide) (by decide) _ rfl, cell 6 2 (by decide) (by decide) _ rfl, cell 6 3 (by decide) (by decide) _ rfl⟩
end Go.Proofs.QW

/-
  What the claims of layer 22 share: the rule that joins a contract to a row's post, and a world for the witness. No condition.
-/
namespace Go.Proofs.YtohpkolkagddiaaDoor.base
open Go.ChangeShapes Go.WideShapes Go.ChangeAt Go.RowKit
set_option maxRecDepth 100000

/-- As 'post_of_same', where blocks that are new may be of any kind. -/
theorem post_of_old {H : Type} {enc : TypeId × Value → H} {P : Program} {f : Func} {s : ChangeSpec} {apart fresh handsOn again : Bool} {W W' : World} {args : Array Value} {v : Value} {ds gs : List (DataW H)} {before pa pv : List MemPlace}
    (hW : DataW.Whole enc P f.params.toList s.vars apart W args.toList ds gs before)
    (hres : ∀ (b : Nat) (sp : Nat → Bool) (hd : Bool), DataW.TrodAll enc P W' b sp hd f.resultTypes.toList (v.resultList f.resultTypes.size) (s.fn H (ds ++ gs)).results [])
    (hargs : ∀ sp : Nat → Bool, (∀ p ∈ before, sp p.block = true) → DataW.TrodAll enc P W' 0 sp true f.params.toList args.toList (s.fn H (ds ++ gs)).args pa)
    (hvars : ∀ sp : Nat → Bool, (∀ p ∈ before, sp p.block = true) → DataW.TrodVars enc P W' sp s.vars (s.fn H (ds ++ gs)).vars pv)
    (hps : before = pa ++ pv) (hb : Below W.heap.size W W')
    (hok : ∀ (j : Nat) (t : TypeId) (r : Value), f.resultTypes[j]? = some t → (v.resultList f.resultTypes.size)[j]? = some r → Value.okWide P W' .any 0 t r) :
    s.post enc P f apart fresh handsOn again W args v W' := by
  have hlt := hW.lt
  have hold : ∀ p ∈ before, (fun b => decide (b < W.heap.size)) p.block = true := fun p hp => by simpa using hlt p hp
  refine ⟨ds, gs, before, [], pa, pv, hW, hres _ _ _, hargs _ hold, hvars _ hold, World.keptBut_mono (fun p hp => ⟨hp, ?_⟩) (hb.frame (· ∈ before)), fun _ => ?_⟩
  · rw [hps, List.mem_append] at hp
    exact Or.inr hp
  · obtain ⟨_, _, _, _, _, hz, hn⟩ := hW
    refine ⟨hok, _, _, ([] ++ pa) ++ pv, ⟨[] ++ pa, pv, trodAll_append (hargs _ (fun _ _ => rfl)) (hres _ _ _), hvars _ (fun _ _ => rfl), rfl, ?_, ?_⟩, ?_⟩
    · intro b off hp
      have hp' : MemPlace.cell b off ∈ before := by rw [hps]; simpa using hp
      rw [hb.frozen (p := ⟨b, off, none⟩) (hlt _ hp')]
      exact hz b off hp'
    · intro ha
      have := hn ha
      rw [hps] at this
      simpa using this
    · intro p hp _
      rw [hps]
      simpa using hp
theorem own : ownKnob Tryd.prog.godebug = none := by kernel_rfl

/-- A world for the witness: the table (block 0) holds what its initialiser lays. -/
noncomputable def laidWorld (os : Os) : World :=
  { World.holding Tryd.prog os ⟨#[], #[], []⟩ with heap := (World.holding Tryd.prog os ⟨#[], #[], []⟩).heap.modify 0 fun
      | .cells _ t frozen => .cells #[.int .i64 0, .int .i64 0, .int .i64 0, .int .i64 0, .int .i64 0, .int .i64 0, .int .i64 0, .int .i64 0, .int .i64 0, .int .i64 12, .int .i64 1, .int .i64 1048576, .int .i64 2, .int .i64 12, .int .i64 0, .int .i64 0, .int .i64 0, .int .i64 12, .int .i64 0, .int .i64 0, .int .i64 2, .int .i64 2, .int .i64 0, .int .i64 0, .int .i64 1, .int .i64 1, .int .i64 (-1000), .int .i64 1000] t frozen
      | o => o }
end Go.Proofs.YtohpkolkagddiaaDoor.base

/-
  How the statements' arguments lie in memory, out of their readings: lists of ints, and of rules; and that they read behind a call as before. No condition.
-/
namespace Go.Proofs.QW
open Go.RowKit Go.Proofs.KL Go.Proofs.QM Go.ChangeShapes
set_option maxRecDepth 100000

theorem laidOut : laidOutB Tryd.prog = true := by kernel_rfl
theorem spot_none {w : World} {a : Addr} {v : Value} (h : w.cell? a = some v) : ∃ b o, a = ⟨b, o, none⟩ := by
  obtain ⟨b, o, s⟩ := a
  cases s with
  | none => exact ⟨b, o, rfl⟩
  | some x => unfold World.cell? at h; simp only [Option.isSome_some, if_true] at h; split at h <;> cases h
theorem add_at (b o i : Nat) : (⟨b, o, none⟩ : Addr).add i = ⟨b, o + i, none⟩ := by
  unfold Addr.add
  split
  · rename_i h; subst h; rfl
  · rfl
section
variable {H : Type} {enc : TypeId × Value → H} {W : World} {base : Nat} {sp : Nat → Bool} {held : Bool}
theorem ints_of {fuel : Nat} {v : Value} {x : DataW H × List MemPlace} (h : DataW.trod enc Tryd.prog W base sp held fuel 23 [v] = some x) : ∃ zs, IntsX W (fun _ => True) v zs := by
  rcases open_ints Tryd.underlying23 Tryd.underlying3 cells3 h with ⟨hc, _⟩ | ⟨a, len, cap, zs, hc, _, hl, _, hz, _, hcell, _⟩
  · injection hc with hc _
    subst hc
    exact ⟨[], none, 0, rfl, Nat.le_refl _, fun i hi => absurd hi (by simp)⟩
  · injection hc with hc _
    subst hc
    have hle : len ≤ zs.length := by rw [hz]; split <;> omega
    have hlt : (zs.take len).length = len := by rw [List.length_take]; omega
    refine ⟨zs.take len, some a, cap, by rw [hlt], by omega, fun i hi => ?_⟩
    rw [hlt] at hi
    obtain ⟨b, o, rfl⟩ := spot_none (hcell 0 (by omega) : W.cell? (a.add 0) = _)
    refine ⟨b, o, rfl, trivial, ?_⟩
    have := hcell i (by omega)
    rw [add_at] at this
    rw [this, List.getD_eq_getElem?_getD, List.getD_eq_getElem?_getD, List.getElem?_take, if_pos hi]
theorem list_of {α : Type} [Inhabited α] {n : Nat} {p : Nat → α → Prop} (h : ∀ i, i < n → ∃ a, p i a) : ∃ l : List α, l.length = n ∧ ∀ i, i < n → p i (l.getD i default) := by
  induction n with
  | zero => exact ⟨[], rfl, fun i hi => absurd hi (by omega)⟩
  | succ n ih =>
    obtain ⟨l, hl, hp⟩ := ih (fun i hi => h i (by omega))
    obtain ⟨a, ha⟩ := h n (by omega)
    refine ⟨l ++ [a], by simp [hl], fun i hi => ?_⟩
    rw [List.getD_eq_getElem?_getD, List.getElem?_append]
    by_cases e : i < n
    · rw [if_pos (by omega), ← List.getD_eq_getElem?_getD]; exact hp i e
    · obtain rfl : i = n := by omega
      rw [if_neg (by omega), hl]; simpa using ha
theorem cells72 : Tryd.prog.cellsOf 72 = 3 := by kernel_rfl
theorem cells23 : Tryd.prog.cellsOf 23 = 1 := by kernel_rfl
theorem one_of {l : List Value} {i : Nat} {v : Value} (h : l[i]? = some v) : (l.drop i).take 1 = [v] := by
  obtain ⟨hi, hv⟩ := List.getElem?_eq_some_iff.1 h
  rw [List.drop_eq_getElem_cons hi, hv]; rfl
theorem rules_of {fuel : Nat} {v : Value} {x : DataW H × List MemPlace} (h : DataW.trod enc Tryd.prog W base sp held fuel 22 [v] = some x) : ∃ rs, RulesX W (fun _ => True) v rs := by
  rcases DataW.trod_slice Tryd.underlying22 h with ⟨hc, _⟩ | ⟨a, len, cap, elems, rest, n, _, hc, _, _, hl, _, hel, hget, _, _⟩
  · injection hc with hc _
    subst hc
    exact ⟨[], none, 0, rfl, Nat.le_refl _, fun i hi => absurd hi (by simp)⟩
  · injection hc with hc _
    subst hc
    have key : ∀ i, i < len → ∃ r : QRule, ∃ u b o, a = ⟨b, o, none⟩ ∧ W.cell? ⟨b, o + i * 3, none⟩ = some (.int .i64 r.kind) ∧ W.cell? ⟨b, o + i * 3 + 1, none⟩ = some (.int .i64 r.n) ∧ W.cell? ⟨b, o + i * 3 + 2, none⟩ = some u ∧ IntsX W (fun _ => True) u r.asks := by
      intro i hi
      have hg := hget i hi
      rw [List.getElem?_eq_getElem (by omega), cells72] at hg
      obtain ⟨cs, hcs, hst⟩ := Option.bind_eq_some_iff.1 hg
      obtain ⟨_, hlen, hcell⟩ := World.cells?_some hcs
      obtain ⟨xs, m, _, _, _, hxl, hf⟩ := DataW.trod_struct Tryd.underlying72 hst
      have e0 := hcell 0 (by omega)
      have e1 := hcell 1 (by omega)
      have e2 := hcell 2 (by omega)
      have f0 : DataW.trod enc Tryd.prog W base sp held m 3 ((cs.drop 0).take (Tryd.prog.cellsOf 3)) = xs[0]? := hf 0 _ rfl
      have f1 : DataW.trod enc Tryd.prog W base sp held m 3 ((cs.drop 1).take (Tryd.prog.cellsOf 3)) = xs[1]? := hf 1 _ rfl
      have f2 : DataW.trod enc Tryd.prog W base sp held m 23 ((cs.drop 2).take (Tryd.prog.cellsOf 23)) = xs[2]? := hf 2 _ rfl
      rw [cells3] at f0 f1
      rw [cells23] at f2
      have hxs : xs.length = 3 := hxl
      rw [one_of (List.getElem?_eq_getElem (by omega)), List.getElem?_eq_getElem (by omega)] at f0 f1 f2
      obtain ⟨k0, hk0, _, _⟩ := DataW.trod_int Tryd.underlying3 f0
      obtain ⟨k1, hk1, _, _⟩ := DataW.trod_int Tryd.underlying3 f1
      obtain ⟨zs, hzs⟩ := ints_of f2
      injection hk0 with hk0 _
      injection hk1 with hk1 _
      rw [List.getElem?_eq_getElem (by omega)] at e0 e1 e2
      rw [hk0] at e0
      rw [hk1] at e1
      have hadd : (a.add (i * 3)).add 0 = a.add (i * 3) := by simp [Addr.add]
      rw [hadd] at e0
      have hsp : ∃ b o, a = ⟨b, o, none⟩ := by
        by_cases h0 : i = 0
        · subst h0
          rw [show (0 * 3 : Nat) = 0 from rfl, show a.add 0 = a by simp [Addr.add]] at e0
          exact spot_none e0
        · have hg0 := hget 0 (by omega)
          rw [List.getElem?_eq_getElem (by omega), cells72] at hg0
          obtain ⟨cs0, hcs0, _⟩ := Option.bind_eq_some_iff.1 hg0
          obtain ⟨_, hlen0, hcell0⟩ := World.cells?_some hcs0
          have := hcell0 0 (by omega)
          rw [List.getElem?_eq_getElem (by omega), show (0 * 3 : Nat) = 0 from rfl, show (a.add 0).add 0 = a by simp [Addr.add]] at this
          exact spot_none this
      obtain ⟨b, o, rfl⟩ := hsp
      simp only [add_at] at e0 e1 e2
      exact ⟨⟨k0, k1, zs⟩, _, b, o, rfl, e0, e1, e2, hzs⟩
    obtain ⟨rs, hrl, hp⟩ := list_of key
    refine ⟨rs, some a, cap, by rw [hrl], by omega, fun i hi => ?_⟩
    obtain ⟨u, b, o, rfl, e0, e1, e2, hu⟩ := hp i (by omega)
    exact ⟨b, o, u, rfl, trivial, e0, e1, e2, hu⟩
/-- An argument reads behind a call that wrote nothing old as it did before. -/
theorem arg_stays {t : TypeId} (hr : Tryd.prog.readableRec t = true) (hrow : t < Tryd.prog.types.size) {W' : World} {sp' : Nat → Bool} {v : Value} {d : DataW H} {ps : List MemPlace} (h : DataW.Trod enc Tryd.prog W 0 (fun _ => true) true t v d ps) (hk : Keeps Nob W W')
    (hlt : ∀ p ∈ ps, p.block < W.heap.size) (hs : ∀ p ∈ ps, sp' p.block = true) : DataW.Trod enc Tryd.prog W' 0 sp' true t v d ps :=
  WideElems.Trod_stays laidOut hr hrow h (fun p hp => hk.below.same (hlt p hp)) hs
end
end Go.Proofs.QW

/-
  How the calls of the statements of layer 22 lie in memory, out of their readings. No condition.
-/
namespace Go.Proofs.QW
open Go.RowKit Go.Proofs.KL Go.Proofs.QM Go.ChangeShapes
set_option maxRecDepth 100000

theorem cells56 : Tryd.prog.cellsOf 56 = 3 := by kernel_rfl
theorem cells5 : Tryd.prog.cellsOf 5 = 1 := by kernel_rfl
section
variable {H : Type} {enc : TypeId × Value → H} {W : World} {base : Nat} {sp : Nat → Bool} {held : Bool}
theorem acts_of {fuel : Nat} {v : Value} {x : DataW H × List MemPlace} (h : DataW.trod enc Tryd.prog W base sp held fuel 34 [v] = some x) : ∃ acts, ActsX W (fun _ => True) v acts := by
  rcases DataW.trod_slice Tryd.underlying34 h with ⟨hc, _⟩ | ⟨a, len, cap, elems, rest, n, _, hc, _, _, hl, _, hel, hget, _, _⟩
  · injection hc with hc _
    subst hc
    exact ⟨[], none, 0, rfl, Nat.le_refl _, fun i hi => absurd hi (by simp)⟩
  · injection hc with hc _
    subst hc
    have key : ∀ i, i < len → ∃ r : ActR, ∃ b o, a = ⟨b, o, none⟩ ∧ W.cell? ⟨b, o + i * 3, none⟩ = some (.int .u8 r.kind) ∧ W.cell? ⟨b, o + i * 3 + 1, none⟩ = some (.int .i64 r.q) ∧ W.cell? ⟨b, o + i * 3 + 2, none⟩ = some (.int .i64 r.v) ∧ (0 ≤ r.kind ∧ r.kind ≤ 255) ∧ r.v ≤ 9223372036854775807 := by
      intro i hi
      have hg := hget i hi
      rw [List.getElem?_eq_getElem (by omega), cells56] at hg
      obtain ⟨cs, hcs, hst⟩ := Option.bind_eq_some_iff.1 hg
      obtain ⟨_, hlen, hcell⟩ := World.cells?_some hcs
      obtain ⟨xs, m, _, _, _, hxl, hf⟩ := DataW.trod_struct Tryd.underlying56 hst
      have e0 := hcell 0 (by omega)
      have e1 := hcell 1 (by omega)
      have e2 := hcell 2 (by omega)
      have f0 : DataW.trod enc Tryd.prog W base sp held m 5 ((cs.drop 0).take (Tryd.prog.cellsOf 5)) = xs[0]? := hf 0 _ rfl
      have f1 : DataW.trod enc Tryd.prog W base sp held m 3 ((cs.drop 1).take (Tryd.prog.cellsOf 3)) = xs[1]? := hf 1 _ rfl
      have f2 : DataW.trod enc Tryd.prog W base sp held m 3 ((cs.drop 2).take (Tryd.prog.cellsOf 3)) = xs[2]? := hf 2 _ rfl
      rw [cells5] at f0
      rw [cells3] at f1 f2
      have hxs : xs.length = 3 := hxl
      rw [one_of (List.getElem?_eq_getElem (by omega)), List.getElem?_eq_getElem (by omega)] at f0 f1 f2
      obtain ⟨k0, hk0, _, w0⟩ := DataW.trod_int Tryd.underlying5 f0
      obtain ⟨k1, hk1, _, _⟩ := DataW.trod_int Tryd.underlying3 f1
      obtain ⟨k2, hk2, _, w2⟩ := DataW.trod_int Tryd.underlying3 f2
      injection hk0 with hk0 _
      injection hk1 with hk1 _
      injection hk2 with hk2 _
      rw [List.getElem?_eq_getElem (by omega)] at e0 e1 e2
      rw [hk0] at e0
      rw [hk1] at e1
      rw [hk2] at e2
      have hadd : (a.add (i * 3)).add 0 = a.add (i * 3) := by simp [Addr.add]
      rw [hadd] at e0
      have hsp : ∃ b o, a = ⟨b, o, none⟩ := by
        by_cases h0 : i = 0
        · subst h0
          rw [show (0 * 3 : Nat) = 0 from rfl, show a.add 0 = a by simp [Addr.add]] at e0
          exact spot_none e0
        · have hg0 := hget 0 (by omega)
          rw [List.getElem?_eq_getElem (by omega), cells56] at hg0
          obtain ⟨cs0, hcs0, _⟩ := Option.bind_eq_some_iff.1 hg0
          obtain ⟨_, hlen0, hcell0⟩ := World.cells?_some hcs0
          have := hcell0 0 (by omega)
          rw [List.getElem?_eq_getElem (by omega), show (0 * 3 : Nat) = 0 from rfl, show (a.add 0).add 0 = a by simp [Addr.add]] at this
          exact spot_none this
      obtain ⟨b, o, rfl⟩ := hsp
      simp only [add_at] at e0 e1 e2
      simp only [Lit.wf, Bool.and_eq_true, decide_eq_true_eq] at w0 w2
      rw [show IntKind.u8.min = 0 by decide, show IntKind.u8.max = 255 by decide] at w0
      rw [show IntKind.i64.max = 9223372036854775807 by decide] at w2
      exact ⟨⟨k0, k1, k2⟩, b, o, rfl, e0, e1, e2, by simp only; omega, by simp only; omega⟩
    obtain ⟨acts, hrl, hp⟩ := list_of key
    refine ⟨acts, some a, cap, by rw [hrl], by omega, fun i hi => ?_⟩
    obtain ⟨b, o, rfl, e0, e1, e2, hu⟩ := hp i (by omega)
    exact ⟨b, o, rfl, trivial, e0, e1, e2, hu⟩
end
end Go.Proofs.QW
