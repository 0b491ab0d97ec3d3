/-
  QueryTwice, in memory: the law returns true. Condition: rules and calls lie, and the table of kinds is as laid.
-/
import Derived.Test.YtohpkolkagddiaaDoorQ46
namespace Go.Proofs.QW
open Go.RowKit Go.Proofs.KL Go.Proofs.QM
set_option maxRecDepth 100000
set_option linter.unusedSimpArgs false
set_option linter.unusedVariables false

/-- What an Ask without an error leaves of its question. -/
theorem askR_cur {rs : List QRule} {n : Int} {E : Env} {ans : List (Option KeptR)} (h : SInv rs n (E, ans)) {q m : Int} (h1 : m ≤ 9223372036854775807) (he : (askR E ans q m).e = 0) :
    InQ E q ∧ 0 ≤ m ∧ ∃ ch, Cur E ⟨askS E ans q m, []⟩ q (askR E ans q m).v ch := by
  unfold askR at he ⊢
  unfold askS
  by_cases hq : isErr E.rules.length q ≠ 0
  · rw [if_pos hq] at he; exact absurd (show (5 : Int) = 0 from he) (by decide)
  · rw [if_neg hq] at he ⊢
    by_cases hm : m < 0
    · rw [if_pos hm] at he; exact absurd (show (2 : Int) = 0 from he) (by decide)
    · rw [if_neg hm] at he ⊢
      have hin : InQ E q := isErr_in hq
      have h0 : 0 ≤ m := by omega
      refine ⟨hin, h0, ?_⟩
      rw [if_neg (by simp only [not_or]; exact ⟨hq, hm⟩)]
      obtain ⟨hist, hh⟩ := h.his
      obtain ⟨_, _, h3, h4⟩ := askF_h (h.env h0 h1) (hist := hist) (E.rules.length + 1) [] (by simp [Env.bound]) ⟨ans, []⟩ q (h.pinv h0) (HInv.bound hh rfl) hin (fun p hp => by cases hp)
      rcases ha : askF (Env.bound E m) (E.rules.length + 1) [] ⟨ans, []⟩ q with ⟨s1, r1⟩
      rw [ha] at h3 h4 he
      cases r1 with
      | error e =>
        have he : e = 0 := he
        rcases h4 e rfl with h | ⟨h, _⟩ <;> omega
      | ok x =>
        obtain ⟨v, ch⟩ := x
        exact ⟨ch, (h3 v ch rfl).2⟩
theorem askR_nodup {rs : List QRule} {n : Int} {E : Env} {ans : List (Option KeptR)} (h : SInv rs n (E, ans)) {q m : Int} (h1 : m ≤ 9223372036854775807) : (askR E ans q m).worked.Nodup := by
  unfold askR
  split
  · exact List.nodup_nil
  split
  · exact List.nodup_nil
  · rename_i hq hm
    have h0 : 0 ≤ m := by omega
    exact (askF_good (h.env h0 h1) (E.rules.length + 1) [] ⟨ans, []⟩ q (h.pinv h0) (isErr_in hq)).1.inv.dnd
theorem askR_twice {rs : List QRule} {n : Int} {E : Env} {ans : List (Option KeptR)} (h : SInv rs n (E, ans)) {q m : Int} (h1 : m ≤ 9223372036854775807) (he : (askR E ans q m).e = 0) :
    (askR E (askS E ans q m) q m).worked = [] ∧ (askR E (askS E ans q m) q m).v = (askR E ans q m).v ∧ (askR E (askS E ans q m) q m).e = 0 := by
  obtain ⟨hin, h0, ch, hc⟩ := askR_cur h h1 he
  generalize askS E ans q m = ans' at *
  generalize (askR E ans q m).v = v at *
  unfold askR
  rw [if_neg (by unfold isErr; rw [if_neg (by have := hin.1; have := hin.2; omega)]; decide), if_neg (by omega)]
  have key : (askF (Env.bound E m) (E.rules.length + 1) [] ⟨ans', []⟩ q) = (⟨ans', []⟩, .ok (v, ch)) := by
    unfold askF
    rcases hc with ⟨hk, hv, hch⟩ | ⟨hk, k, hg, hck, hv, hch⟩
    · rw [if_pos (show ((Env.bound E m).rule q).kind = 1 from hk), hv, hch]; rfl
    · rw [if_neg (show ¬ ((Env.bound E m).rule q).kind = 1 from hk), if_neg (by simp)]
      simp only [hg]
      rw [if_pos (show k.checked = (Env.bound E m).rev from hck), hv, hch]
  rw [key]
  exact ⟨rfl, rfl, rfl⟩
set_option maxHeartbeats 40000000 in
/-- QUERYTWICE. -/
theorem QueryTwice_any (rs : List QRule) (acts : List ActR) (q : Int) (w : World) (X Y : Nat → Prop) (rv av : Value) (hr : RulesX w X rv rs) (ha : ActsX w Y av acts) (ht : Tab w) :
    Calls Tryd.prog 5 #[rv, av, .int .i64 q] w fun e w' => e = .returned (.bool true) ∧ Keeps Nob w w' := by
  have HC := Lib.hid (cut_any rs w X rv hr)
  have HT := Lib.hid ht
  have HT0 := Lib.hid (show 0 < w.heap.size from World.block_lt_of_cell? _ _ (ht 1 (by omega) (by omega)).1)
  have HA := Lib.hid ha
  have Hvm := Lib.hid ha.vmax
  obtain ⟨rA, rc, rfl, -, -⟩ := id hr
  obtain ⟨aA, ac, rfl, -, -⟩ := id ha
  have hpn : ∀ (n : Nat) (w : World), (binOp .eql 35 (.pointer (some ⟨n, 0, none⟩)) (.pointer none)).run Tryd.prog w = .ok (.bool false) w := fun _ _ => by kernel_rfl
  have hp0 : ∀ (w : World), (binOp .eql 35 (.pointer none) (.pointer none)).run Tryd.prog w = .ok (.bool true) w := fun _ => by kernel_rfl
  generalize cutM rs = own at *
  clear hr ha ht
  by_cases hc : (check own).2 = 0
  · have Hc := Lib.hid hc
    have hinv := playedTo_inv hc Hvm.out 60 (by decide)
    obtain ⟨E, ans, hS⟩ : ∃ E ans, playedF own acts = (E, ans) := ⟨_, _, rfl⟩
    have HS := Lib.hid hS
    rw [show playedTo own acts 60 = (E, ans) from hS] at hinv
    have Hinv := Lib.hid hinv
    have hnd := askR_nodup hinv (q := q) (m := 1073741824) (by decide)
    have htw := askR_twice hinv (q := q) (m := 1073741824) (by decide)
    have Hinv2 := Lib.hid (hinv.ask q 1073741824 (by decide))
    rw [← askR_ans] at htw
    obtain ⟨R, hR⟩ : ∃ R, askR E ans q 1073741824 = R := ⟨_, rfl⟩
    have hRa : askS E ans q 1073741824 = R.ans := by rw [← askR_ans, hR]
    rw [hR] at hnd htw
    obtain ⟨Ra, Rw, Rv, Re⟩ := R
    simp only at hnd htw hRa
    have Hnd := Lib.hid hnd
    have Htw := Lib.hid htw
    have HR := Lib.hid hR
    have Hlen := Lib.hid (show Rw.length ≤ 200 by
      have hdl : Rw.length ≤ E.rules.length := by
        have h := congrArg AskRes.worked hR
        rw [show Rw = (askR E ans q 1073741824).worked from h.symm]
        unfold askR
        split
        · simp
        split
        · simp
        · rename_i hq hm
          exact (askF_good (hinv.env (m := 1073741824) (by decide) (by decide)) (E.rules.length + 1) [] ⟨ans, []⟩ q (hinv.pinv (by decide)) (isErr_in hq)).1.inv.dlen
      have := hinv.ok.len
      have h2 : E.rules.length ≤ 200 := this
      omega)
    have HRa := Lib.hid hRa
    clear hc hS hinv hnd htw hR hRa
    go_enter Tryd.func5, Tryd.ntmps5
    go_wp2_with (first
      | (go_at_call 10; go_must (refine HC.out.mono ?_; rintro e w1 ⟨ov, rfl, hk1, hr1⟩; obtain ⟨oA, oc, rfl, _, _⟩ := id hr1)
         have HK1 := Lib.hid hk1
         have Hr1 := Lib.hid hr1
         have Ha1 := Lib.hid (HA.out.keep (X' := Y) hk1 (fun _ _ _ => id) (fun _ _ h => h))
         clear hk1 hr1
         (try simp only [Act.put, List.setIfInBounds_toArray, List.set_cons_zero, List.set_cons_succ]))
      | (go_at_call 16; go_must (refine (played_any own acts w1 _ _ _ _ Hr1.out Ha1.out (fun _ => HT.out.keep HK1.out id)).mono ?_; rintro e w2 ⟨hk2, -, hx2⟩; obtain ⟨eb, ib, mb, Xe, rfl, he2, hxe2, be1, be2, be3⟩ := hx2 Hc.out)
         have HK2 := Lib.hid (HK1.out.trans hk2 (fun _ _ h => h))
         have Hr2 := Lib.hid (Hr1.out.keep (X' := fun k => w.heap.size ≤ k ∧ k < w1.heap.size) hk2 (fun _ _ _ => id) (fun _ _ h => h))
         rw [HS.out] at he2
         have He2 := Lib.hid he2
         have Hbe := Lib.hid (show (w1.heap.size ≤ eb ∧ w1.heap.size ≤ ib ∧ w1.heap.size ≤ mb) ∧ (∀ k, Xe k → w1.heap.size ≤ k ∧ k < w2.heap.size) from ⟨⟨be1, be2, be3⟩, hxe2⟩)
         clear hk2 hx2 he2 hxe2 be1 be2 be3
         (try simp only [Act.put, List.setIfInBounds_toArray, List.set_cons_zero, List.set_cons_succ]))
      | (go_at_call 18
         have hask := AskR_any Hinv.out w2 Xe eb ib mb q 1073741824 (by decide) He2.out (fun b hb => (Hbe.out.2 b hb).2)
         rw [HR.out] at hask
         go_must (refine hask.mono ?_; rintro e w3 ⟨X3, wl3, rfl, hx3, hxl3, hk3, he3, hw3, -⟩; obtain ⟨wA, wc, rfl⟩ := own_slice hw3)
         have HK3 := Lib.hid (HK2.out.trans hk3 (fun i hi e => by have h1 := Hbe.out.1.2.2; have h2 := HK1.out.size; omega))
         have He3 := Lib.hid he3
         have Hx3 := Lib.hid hxl3
         have Hw3 := Lib.hid (IntsX.own (xs := Rw) hw3 (fun _ => True) (fun _ _ => trivial))
         clear hask hk3 hw3 he3 hxl3 hx3
         (try simp only [Act.put, List.setIfInBounds_toArray, List.set_cons_zero, List.set_cons_succ]))
    )
    have hlen := Hlen.out
    go_loopw [34] (fun v wr => ∃ k : Nat, v = .int .i64 k ∧ k ≤ Rw.length ∧ Hid (Keeps Nob w3 wr)) (fun v _ => Rw.length - (intOf v).toNat)
    case atStart => exact ⟨0, rfl, Nat.zero_le _, Lib.hid (Keeps.refl _ _)⟩
    case round =>
      obtain ⟨k, rfl, hk, hkeep⟩ := hrel
      by_cases hlt : k < Rw.length
      · go_wp2
        go_loopw [13] (fun v wr2 => ∃ j : Nat, v = .int .i64 j ∧ j ≤ k ∧ Hid (Keeps Nob w3 wr2)) (fun v _ => k - (intOf v).toNat)
        case atStart => exact ⟨0, rfl, Nat.zero_le _, hkeep⟩
        case round =>
          obtain ⟨j, rfl, hj, hkeep2⟩ := hrel
          by_cases hjk : j < k
          · have hlj : j < Rw.length := by omega
            have hca := Hw3.out.keep (X' := fun _ => True) hkeep2.out (fun _ _ _ => id) (fun _ _ h => h)
            have hsp : ∃ b o, wA = some ⟨b, o, none⟩ := by
              obtain ⟨A', c', h1, _, h3⟩ := hca
              injection h1 with h1 _ _
              subst h1
              obtain ⟨b, o, h, _⟩ := h3 k hlt
              exact ⟨b, o, h⟩
            obtain ⟨b, o, rfl⟩ := hsp
            have ck := hca.cellAt (k := k) hlt
            have cj := hca.cellAt (k := j) hlj
            have hne : (Rw.getD k 0 == Rw.getD j 0) = false := by
              rw [beq_eq_false_iff_ne, List.getD_eq_getElem?_getD, List.getD_eq_getElem?_getD, List.getElem?_eq_getElem hlt, List.getElem?_eq_getElem hlj]
              intro h
              exact (List.pairwise_iff_getElem.1 Hnd.out) j k hlj hlt hjk (by simpa using h.symm)
            generalize Rw.getD k 0 = xk at *
            generalize Rw.getD j 0 = xj at *
            clear hca
            go_wp2_with fail
            refine wp_region_perm [(0, true), (1, true), (2, true), (3, true), (4, true), (5, true), (6, true), (7, true), (8, true)] (fun w' => w'.cell? ⟨b, o + k, none⟩ = some (.int .i64 xk) ∧ w'.cell? ⟨b, o + j, none⟩ = some (.int .i64 xj)) rfl (by kernel_rfl) (by kernel_rfl) (by decide) (fun c a d v w h => by cases d <;> exact h) ⟨ck, cj⟩ ?_
            refine perm_q (v := ?v1_0) (some 42) rfl rfl rfl ?q1_0 ?h1_0; (case q1_0 => (intro w' hS; obtain ⟨s1, s2⟩ := hS; first | (go_simp; done) | (go_simp; rfl))); (try simp only [Act.put, List.setIfInBounds_toArray, List.set_cons_zero, List.set_cons_succ])
            refine perm_q (v := ?v1_1) (some 43) rfl rfl rfl ?q1_1 ?h1_1; (case q1_1 => (intro w' hS; obtain ⟨s1, s2⟩ := hS; first | (go_simp; done) | (go_simp; rfl))); (try simp only [Act.put, List.setIfInBounds_toArray, List.set_cons_zero, List.set_cons_succ])
            refine perm_q (v := ?v1_2) (some 44) rfl rfl rfl ?q1_2 ?h1_2; (case q1_2 => (intro w' hS; obtain ⟨s1, s2⟩ := hS; first | (go_simp; done) | (go_simp; rfl))); (try simp only [Act.put, List.setIfInBounds_toArray, List.set_cons_zero, List.set_cons_succ])
            refine perm_q (v := ?v1_3) (some 45) rfl rfl rfl ?q1_3 ?h1_3; (case q1_3 => (intro w' hS; obtain ⟨s1, s2⟩ := hS; first | (go_simp; done) | (go_simp; rfl))); (try simp only [Act.put, List.setIfInBounds_toArray, List.set_cons_zero, List.set_cons_succ])
            refine perm_q (v := ?v1_4) (some 46) rfl rfl rfl ?q1_4 ?h1_4; (case q1_4 => (intro w' hS; obtain ⟨s1, s2⟩ := hS; first | (go_simp; done) | (go_simp; rfl))); (try simp only [Act.put, List.setIfInBounds_toArray, List.set_cons_zero, List.set_cons_succ])
            refine perm_q (v := ?v1_5) (some 47) rfl rfl rfl ?q1_5 ?h1_5; (case q1_5 => (intro w' hS; obtain ⟨s1, s2⟩ := hS; first | (go_simp; done) | (go_simp; rfl))); (try simp only [Act.put, List.setIfInBounds_toArray, List.set_cons_zero, List.set_cons_succ])
            refine perm_q (v := ?v1_6) (some 48) rfl rfl rfl ?q1_6 ?h1_6; (case q1_6 => (intro w' hS; obtain ⟨s1, s2⟩ := hS; first | (go_simp; done) | (go_simp; rfl))); (try simp only [Act.put, List.setIfInBounds_toArray, List.set_cons_zero, List.set_cons_succ])
            refine perm_q (v := ?v1_7) (some 49) rfl rfl rfl ?q1_7 ?h1_7; (case q1_7 => (intro w' hS; obtain ⟨s1, s2⟩ := hS; first | (go_simp; done) | (go_simp; rfl))); (try simp only [Act.put, List.setIfInBounds_toArray, List.set_cons_zero, List.set_cons_succ])
            refine perm_q (v := ?v1_8) (some 50) rfl rfl rfl ?q1_8 ?h1_8; (case q1_8 => (intro w' hS; obtain ⟨s1, s2⟩ := hS; first | (go_simp; done) | (go_simp; rfl))); (try simp only [Act.put, List.setIfInBounds_toArray, List.set_cons_zero, List.set_cons_succ])
            refine perm_nil ?_
            go_wp2
            exact ⟨⟨j + 1, by go_num, by omega, Lib.hid hkeep2.out.drew⟩, by simp [intOf]; omega⟩
          · obtain rfl : j = k := by omega
            go_wp2
            exact ⟨⟨j + 1, by go_num, by omega, hkeep2⟩, by simp [intOf]; omega⟩
      · obtain rfl : k = Rw.length := by omega
        have HKr := Lib.hid (HK3.out.trans hkeep.out (fun _ _ h => h))
        by_cases hRe : Re = 0
        · have htw := Htw.out hRe
          obtain ⟨R2, hR2⟩ : ∃ R2, askR E Ra q 1073741824 = R2 := ⟨_, rfl⟩
          rw [hR2] at htw
          obtain ⟨a2, l2, v2, e2⟩ := R2
          obtain ⟨rfl, rfl, rfl⟩ := htw
          have Hinv3 := Lib.hid (show SInv own 60 (E, Ra) by have h := Hinv2.out; rw [HRa.out] at h; exact h)
          have HR2 := Lib.hid hR2
          have hre : (Re != 0) = false := by simp [hRe]
          clear hR2 hRe
          go_wp2_with (first
            | (go_at_call 18
               have hask := AskR_any Hinv3.out wr X3 eb ib mb q 1073741824 (by decide) (He3.out.after hkeep.out) (fun b hb => Nat.lt_of_lt_of_le (Hx3.out b hb) hkeep.out.size)
               rw [HR2.out] at hask
               go_must (refine hask.mono ?_; rintro e w4 ⟨X4, wl4, rfl, -, -, hk4, -, hw4, -⟩; obtain ⟨wA4, wc4, rfl⟩ := own_slice hw4)
               have HK4 := Lib.hid (HKr.out.trans hk4 (fun i hi e => by have h1 := Hbe.out.1.2.2; have h2 := HK1.out.size; omega))
               clear hask hk4 hw4
               (try simp only [Act.put, List.setIfInBounds_toArray, List.set_cons_zero, List.set_cons_succ]))
            | (go_at_call 14; go_must (refine (alive_any w4 (HT.out.keep HK4.out id)).mono ?_; rintro e w9 ⟨rfl, hk9⟩); (try simp only [Act.put, List.setIfInBounds_toArray, List.set_cons_zero, List.set_cons_succ]))
          )
          go_ret
          exact ⟨rfl, HK4.out.trans hk9 (fun _ _ h => h)⟩
        · have hre : (Re != 0) = true := by simpa using hRe
          clear hRe
          go_wp2_with (first
            | (go_at_call 14; go_must (refine (alive_any wr (HT.out.keep HKr.out id)).mono ?_; rintro e w9 ⟨rfl, hk9⟩); (try simp only [Act.put, List.setIfInBounds_toArray, List.set_cons_zero, List.set_cons_succ]))
          )
          go_ret
          exact ⟨rfl, HKr.out.trans hk9 (fun _ _ h => h)⟩
  · have Hc := Lib.hid hc
    clear hc
    go_enter Tryd.func5, Tryd.ntmps5
    go_wp2_with (first
      | (go_at_call 10; go_must (refine HC.out.mono ?_; rintro e w1 ⟨ov, rfl, hk1, hr1⟩; obtain ⟨oA, oc, rfl, _, _⟩ := id hr1)
         have HK1 := Lib.hid hk1
         have Hr1 := Lib.hid hr1
         have Ha1 := Lib.hid (HA.out.keep (X' := Y) hk1 (fun _ _ _ => id) (fun _ _ h => h))
         clear hk1 hr1
         (try simp only [Act.put, List.setIfInBounds_toArray, List.set_cons_zero, List.set_cons_succ]))
      | (go_at_call 16; go_must (refine (played_any own acts w1 _ _ _ _ Hr1.out Ha1.out (fun _ => HT.out.keep HK1.out id)).mono ?_; rintro e w2 ⟨hk2, hx2, -⟩; obtain rfl := hx2 Hc.out)
         have HK2 := Lib.hid (HK1.out.trans hk2 (fun _ _ h => h))
         clear hk2 hx2
         (try simp only [Act.put, List.setIfInBounds_toArray, List.set_cons_zero, List.set_cons_succ]))
      | (go_at_call 14; go_must (refine (alive_any w2 (HT.out.keep HK2.out id)).mono ?_; rintro e w9 ⟨rfl, hk9⟩); (try simp only [Act.put, List.setIfInBounds_toArray, List.set_cons_zero, List.set_cons_succ]))
    )
    go_ret
    exact ⟨rfl, HK2.out.trans hk9 (fun _ _ h => h)⟩
end Go.Proofs.QW
