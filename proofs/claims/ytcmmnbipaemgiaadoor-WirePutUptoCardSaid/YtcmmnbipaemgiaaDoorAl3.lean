/-
  The program's reader: an integer. Condition: the text is not longer than a million bytes.
-/
import Derived.Test.YtcmmnbipaemgiaaDoorAl2
import Derived.Shelf.Bytes.SlSmallAll
import Derived.Shelf.Spec.SlicesGrow
namespace Go.Proofs.WV
open Go.RowKit Go.Proofs.KL Go.Proofs.WM
set_option maxRecDepth 100000
set_option linter.unusedSimpArgs false
set_option linter.unusedVariables false

def signed (m : Bool) (n : Nat) : Int := if m then -(n : Int) else (n : Int)
def signR (m : Bool) : R Nat → R Int
  | .ok x => .ok (signed m x.1, x.2)
  | .error e => .error e
theorem intB_is (s : Bs) : intB s = signR (isB 45 s).1 (digitsB (isB 45 s).1 (isB 45 s).2) := by
  cases s with
  | nil => rfl
  | cons c q =>
    by_cases h : c = 45
    · subst h
      rw [isB_at]
      show (match digitsB true q with | .ok (n, r1) => (Except.ok (-(n : Int), r1) : R Int) | .error e => .error e) = signR true (digitsB true q)
      cases digitsB true q <;> rfl
    · rw [isB_ne h]
      unfold intB
      split
      · rename_i heq
        injection heq with h1 h2
        exact absurd h1 h
      · show (match digitsB false (c :: q) with | .ok (n, r1) => (Except.ok ((n : Int), r1) : R Int) | .error e => .error e) = signR false (digitsB false (c :: q))
        cases digitsB false (c :: q) <;> rfl
/-- What a digit's byte comes to. -/
theorem dig_int (c : UInt8) (h : isDigit c = true) : 48 ≤ (c.toNat : Int) ∧ (c.toNat : Int) ≤ 57 ∧ (c.toNat : Int) - 48 = (digB c : Int) := by
  unfold isDigit at h
  simp only [Bool.and_eq_true, decide_eq_true_eq, UInt8.le_iff_toNat_le] at h
  have h1 : (48 : UInt8).toNat = 48 := rfl
  have h2 : (57 : UInt8).toNat = 57 := rfl
  rw [h1, h2] at h
  unfold digB
  omega
theorem numB_stop (m f : Bool) (n : Nat) (s : Bs) (h : startsDigit s = false) : numB m f n s = .ok (n, s) := by
  cases s with
  | nil => rfl
  | cons c q => unfold startsDigit at h; unfold numB; simp [h]
theorem numB_step (m f : Bool) (n : Nat) (c : UInt8) (q : Bs) (h : isDigit c = true) : numB m f n (c :: q) = if (f = false ∧ n = 0) ∨ (m = true ∧ f = true ∧ c = 48) ∨ 9007199254740991 < n * 10 + digB c then .error (q.length + 1) else numB m false (n * 10 + digB c) q := by
  rw [numB, if_pos h]
set_option maxHeartbeats 4000000 in
/-- int. -/
theorem int77 {w : World} {r : Nat} {T : ByteArray} {s : Bs} (h : Rd w r T s) : Calls Tryd.prog 77 #[.pointer (some ⟨r, 0, none⟩)] w (EndR w r T (Value.int .i64) (intB s)) := by
  obtain ⟨i3, hi3, hs3⟩ := infoS3
  have HI := Lib.hid (And.intro hi3 hs3)
  rw [intB_is]
  have H101 := Lib.hid (is101 h 45 45 rfl)
  rcases hx : isB 45 s with ⟨m, s1⟩
  rw [hx] at H101
  unfold IsOut at H101
  simp only at H101 ⊢
  obtain ⟨R0, hR0⟩ : ∃ x, numB m true 0 s1 = x := ⟨_, rfl⟩
  obtain ⟨RR, hRR⟩ : ∃ x, signR m (digitsB m s1) = x := ⟨_, rfl⟩
  rw [hRR]
  unfold digitsB at hRR
  rw [hR0] at hRR
  have HR0 := Lib.hid hR0
  have HRR0 := Lib.hid hRR
  have Hdig := Lib.hid (fun W (h : Rd W r T s1) => digit76 h)
  clear hi3 hs3 h hx hR0 hRR
  rcases hdg : startsDigit s1 with _ | _
  · rw [hdg] at HRR0 Hdig
    have HR2 := Lib.hid (show RR = .error s1.length from HRR0.out.symm)
    clear hdg
    go_enter Tryd.func77, Tryd.ntmps77
    go_wp2_with (first
      | (go_at_call 101; go_must (refine H101.out.mono ?_; rintro e w1 ⟨rfl, hr1, hk1⟩)
         have HKs := Lib.hid hk1
         have Hr1 := Lib.hid hr1
         have Hle := Lib.hid hr1.le
         clear hk1 hr1
         (try simp only [PU]))
      | (go_at_call 76; go_must (refine (Hdig.out w1 Hr1.out).mono ?_; rintro e w2 ⟨rfl, hk1⟩); have HK1 := Lib.hid hk1
         have q1 := (blk_cell (hk1.blk Hr1.out.blk id) 1).trans rfl
         clear hk1; (try simp only [PU]))
      | (go_at_call 47; go_must (refine (fail47 (Hr1.out.keep HK1.out id) s1.length Hle.out).mono ?_; rintro e w3 ⟨rfl, rfl⟩); unfold stopAt; (try simp only [PU]))
    )
    refine ⟨rfl, ?_⟩
    rw [HR2.out]
    exact ⟨rfl, HKs.out.then HK1.out⟩
  · rw [hdg] at HRR0 Hdig
    have HRR := Lib.hid (show RR = signR m R0 from HRR0.out.symm)
    clear hdg HRR0
    cases m
    · go_enter Tryd.func77, Tryd.ntmps77
      go_wp2_with (first
        | (go_at_call 101; go_must (refine H101.out.mono ?_; rintro e w1 ⟨rfl, hr1, hk1⟩)
           have HKs0 := Lib.hid hk1
           have Hr1 := Lib.hid hr1
           clear hk1 hr1
           (try simp only [PU]))
        | (go_at_call 76; go_must (refine (Hdig.out w1 Hr1.out).mono ?_; rintro e w2 ⟨rfl, hk1⟩)
           have HKs := Lib.hid (HKs0.out.then hk1)
           have HR1 := Lib.hid (Hr1.out.keep hk1 id)
           clear hk1; (try simp only [PU]))
      )
      go_loopg [4, 5] s1.length (fun k nv fv wr => ∃ (n : Nat) (f : Bool) (s' : Bs), nv = .int .i64 n ∧ fv = .bool f ∧ s'.length ≤ k ∧ n ≤ 9007199254740991 ∧ Hid (Rd wr r T s') ∧ Hid (Keeps (· = r) w wr) ∧ Hid (numB false f n s' = R0))
      case atStart => exact ⟨0, true, s1, rfl, rfl, Nat.le_refl _, by omega, HR1, HKs, HR0⟩
      case round =>
        obtain ⟨n, f, s', rfl, rfl, hl, hnb, Hr, HK, HE⟩ := hrel
        have H76 := Lib.hid (fun W (hk : Keeps Nob wr W) => digit76 (Hr.out.keep hk id))
        have HK1 := Lib.hid (Keeps.refl Nob wr)
        rcases hdg : startsDigit s' with _ | _
        · have hst := numB_stop false f n s' hdg
          rw [hdg] at H76
          have HR2 := Lib.hid (show R0 = .ok (n, s') by rw [← HE.out, hst])
          have HK1 := Lib.hid (Keeps.refl Nob wr)
          clear hst hdg
          have Hb := Lib.hid Hr.out.blk
          have q1 := (blk_cell Hr.out.blk 1).trans rfl
          have H73 := Lib.hid True.intro
          have Hfail := Lib.hid True.intro
          go_wp2_with (first
            | (go_at_call 76; go_must (refine (H76.out _ HK1.out).mono ?_; rintro e w2 ⟨rfl, hk1⟩); have HK1 := Lib.hid (HK1.out.trans hk1 (fun _ _ h => h)); clear hk1 q1; have q1 := (blk_cell (HK1.out.blk Hb.out id) 1).trans rfl; (try simp only [PU]))
          )
          go_ret
          rw [HRR.out, HR2.out]
          exact ⟨rfl, Hr.out.keep HK1.out id, HK.out.then HK1.out⟩
        · rw [hdg] at H76
          cases s' with
          | nil => cases hdg
          | cons c q =>
            have hdc : isDigit c = true := hdg
            obtain ⟨hd0, hd1, hd2⟩ := dig_int c hdc
            have H73 := Lib.hid (fun W (hk : Keeps Nob wr W) => next73 (Hr.out.keep hk id))
            have Hfail := Lib.hid (fun W (hk : Keeps Nob wr W) => fail47 (Hr.out.keep hk id) (q.length + 1) Hr.out.le)
            have hstep := numB_step false f n c q hdc
            have HS := Lib.hid (show (if (f = false ∧ n = 0) ∨ (false = true ∧ f = true ∧ c = 48) ∨ 9007199254740991 < n * 10 + digB c then .error (q.length + 1) else numB false false (n * 10 + digB c) q) = R0 by rw [← hstep]; exact HE.out)
            obtain ⟨a, ha, ⟨hb, -⟩, hT, hal, hn⟩ := Hr.out.cons
            have hat : T.size - (q.length + 1) = a := by omega
            rw [hat] at Hfail
            have Hn := Lib.hid hn
            have Hb := Lib.hid hb
            have q1 := (blk_cell hb 1).trans rfl
            have h48 : c = 48 ↔ (c.toNat : Int) = 48 := ⟨fun h => by rw [h]; rfl, fun h => UInt8.toNat_inj.1 (by show c.toNat = 48; omega)⟩
            have H48 := Lib.hid h48
            obtain ⟨cv, hcv⟩ : ∃ x : Int, (c.toNat : Int) = x := ⟨_, rfl⟩
            rw [hcv] at hd0 hd1 hd2 H48
            have hhd : headN (c :: q) = cv := hcv
            rw [hhd] at H73
            have Hd := Lib.hid (show ((n * 10 + digB c : Nat) : Int) = (n : Int) * 10 + (cv - 48) by rw [hd2]; rfl)
            simp only [List.length_cons] at hl
            clear hdg hdc hstep hn hb h48 hcv hhd hd2 hal hat
            cases f
            · by_cases h0 : n = 0
              · subst h0
                have HR2 := Lib.hid (show R0 = .error (q.length + 1) by rw [← HS.out, if_pos (.inl ⟨rfl, rfl⟩)])
                go_wp2_with (first
                  | (go_at_call 76; go_must (refine (H76.out _ HK1.out).mono ?_; rintro e w2 ⟨rfl, hk1⟩); have HK1 := Lib.hid (HK1.out.trans hk1 (fun _ _ h => h)); clear hk1 q1; have q1 := (blk_cell (HK1.out.blk Hb.out id) 1).trans rfl; (try simp only [PU]))
                  | (go_at_call 73; go_must (refine (H73.out _ HK1.out).mono ?_; rintro e w2 ⟨rfl, hk1⟩); have HK1 := Lib.hid (HK1.out.trans hk1 (fun _ _ h => h)); clear hk1 q1; have q1 := (blk_cell (HK1.out.blk Hb.out id) 1).trans rfl; (try simp only [PU]))
                  | (go_at_call 47; go_must (refine (Hfail.out _ HK1.out).mono ?_; rintro e w3 ⟨rfl, rfl⟩); unfold stopAt; (try simp only [PU]))
                  | ((with_reducible refine at_store (t := 3) rfl ?_); go_must (refine ev_store (cs' := #[.string T, .int .i64 ((a : Int) + 1)]) rfl rfl rfl rfl rfl rfl HI.out.1 HI.out.2 rfl (HK1.out.blk Hb.out id) (Nat.le_of_ble_eq_true rfl) rfl ?_; intro w4 hb2 hk2); have Hb2 := Lib.hid hb2; have HK2 := Lib.hid hk2; clear hb2 hk2; (try simp only [PU]))
                )
                refine ⟨rfl, ?_⟩
                rw [HRR.out, HR2.out]
                exact ⟨rfl, HK.out.then HK1.out⟩
              · have n0 : ((n : Int) == 0) = false := by simpa using h0
                by_cases hmx : 9007199254740991 < (n : Int) * 10 + (cv - 48)
                · have HR2 := Lib.hid (show R0 = .error (q.length + 1) by rw [← HS.out, if_pos (.inr (.inr (by have := Hd.out; omega)))])
                  go_wp2_with (first
                    | (go_at_call 76; go_must (refine (H76.out _ HK1.out).mono ?_; rintro e w2 ⟨rfl, hk1⟩); have HK1 := Lib.hid (HK1.out.trans hk1 (fun _ _ h => h)); clear hk1 q1; have q1 := (blk_cell (HK1.out.blk Hb.out id) 1).trans rfl; (try simp only [PU]))
                    | (go_at_call 73; go_must (refine (H73.out _ HK1.out).mono ?_; rintro e w2 ⟨rfl, hk1⟩); have HK1 := Lib.hid (HK1.out.trans hk1 (fun _ _ h => h)); clear hk1 q1; have q1 := (blk_cell (HK1.out.blk Hb.out id) 1).trans rfl; (try simp only [PU]))
                    | (go_at_call 47; go_must (refine (Hfail.out _ HK1.out).mono ?_; rintro e w3 ⟨rfl, rfl⟩); unfold stopAt; (try simp only [PU]))
                    | ((with_reducible refine at_store (t := 3) rfl ?_); go_must (refine ev_store (cs' := #[.string T, .int .i64 ((a : Int) + 1)]) rfl rfl rfl rfl rfl rfl HI.out.1 HI.out.2 rfl (HK1.out.blk Hb.out id) (Nat.le_of_ble_eq_true rfl) rfl ?_; intro w4 hb2 hk2); have Hb2 := Lib.hid hb2; have HK2 := Lib.hid hk2; clear hb2 hk2; (try simp only [PU]))
                  )
                  refine ⟨rfl, ?_⟩
                  rw [HRR.out, HR2.out]
                  exact ⟨rfl, HK.out.then HK1.out⟩
                · have HR2 := Lib.hid (show numB false false (n * 10 + digB c) q = R0 by rw [← HS.out, if_neg (by have := Hd.out; simp; omega)])
                  go_wp2_with (first
                    | (go_at_call 76; go_must (refine (H76.out _ HK1.out).mono ?_; rintro e w2 ⟨rfl, hk1⟩); have HK1 := Lib.hid (HK1.out.trans hk1 (fun _ _ h => h)); clear hk1 q1; have q1 := (blk_cell (HK1.out.blk Hb.out id) 1).trans rfl; (try simp only [PU]))
                    | (go_at_call 73; go_must (refine (H73.out _ HK1.out).mono ?_; rintro e w2 ⟨rfl, hk1⟩); have HK1 := Lib.hid (HK1.out.trans hk1 (fun _ _ h => h)); clear hk1 q1; have q1 := (blk_cell (HK1.out.blk Hb.out id) 1).trans rfl; (try simp only [PU]))
                    | (go_at_call 47; go_must (refine (Hfail.out _ HK1.out).mono ?_; rintro e w3 ⟨rfl, rfl⟩); unfold stopAt; (try simp only [PU]))
                    | ((with_reducible refine at_store (t := 3) rfl ?_); go_must (refine ev_store (cs' := #[.string T, .int .i64 ((a : Int) + 1)]) rfl rfl rfl rfl rfl rfl HI.out.1 HI.out.2 rfl (HK1.out.blk Hb.out id) (Nat.le_of_ble_eq_true rfl) rfl ?_; intro w4 hb2 hk2); have Hb2 := Lib.hid hb2; have HK2 := Lib.hid hk2; clear hb2 hk2; (try simp only [PU]))
                  )
                  go_roundg q.length
                  case measure => omega
                  case rel => exact ⟨n * 10 + digB c, false, q, by rw [Hd.out], rfl, Nat.le_refl _, by have := Hd.out; omega, Lib.hid (Hn.out w4 Hb2.out), Lib.hid ((HK.out.then HK1.out).trans HK2.out (fun _ _ h => h)), HR2⟩
            · skip
              by_cases hmx : 9007199254740991 < (n : Int) * 10 + (cv - 48)
              · have HR2 := Lib.hid (show R0 = .error (q.length + 1) by rw [← HS.out, if_pos (.inr (.inr (by have := Hd.out; omega)))])
                go_wp2_with (first
                  | (go_at_call 76; go_must (refine (H76.out _ HK1.out).mono ?_; rintro e w2 ⟨rfl, hk1⟩); have HK1 := Lib.hid (HK1.out.trans hk1 (fun _ _ h => h)); clear hk1 q1; have q1 := (blk_cell (HK1.out.blk Hb.out id) 1).trans rfl; (try simp only [PU]))
                  | (go_at_call 73; go_must (refine (H73.out _ HK1.out).mono ?_; rintro e w2 ⟨rfl, hk1⟩); have HK1 := Lib.hid (HK1.out.trans hk1 (fun _ _ h => h)); clear hk1 q1; have q1 := (blk_cell (HK1.out.blk Hb.out id) 1).trans rfl; (try simp only [PU]))
                  | (go_at_call 47; go_must (refine (Hfail.out _ HK1.out).mono ?_; rintro e w3 ⟨rfl, rfl⟩); unfold stopAt; (try simp only [PU]))
                  | ((with_reducible refine at_store (t := 3) rfl ?_); go_must (refine ev_store (cs' := #[.string T, .int .i64 ((a : Int) + 1)]) rfl rfl rfl rfl rfl rfl HI.out.1 HI.out.2 rfl (HK1.out.blk Hb.out id) (Nat.le_of_ble_eq_true rfl) rfl ?_; intro w4 hb2 hk2); have Hb2 := Lib.hid hb2; have HK2 := Lib.hid hk2; clear hb2 hk2; (try simp only [PU]))
                )
                refine ⟨rfl, ?_⟩
                rw [HRR.out, HR2.out]
                exact ⟨rfl, HK.out.then HK1.out⟩
              · have HR2 := Lib.hid (show numB false false (n * 10 + digB c) q = R0 by rw [← HS.out, if_neg (by have := Hd.out; simp; omega)])
                go_wp2_with (first
                  | (go_at_call 76; go_must (refine (H76.out _ HK1.out).mono ?_; rintro e w2 ⟨rfl, hk1⟩); have HK1 := Lib.hid (HK1.out.trans hk1 (fun _ _ h => h)); clear hk1 q1; have q1 := (blk_cell (HK1.out.blk Hb.out id) 1).trans rfl; (try simp only [PU]))
                  | (go_at_call 73; go_must (refine (H73.out _ HK1.out).mono ?_; rintro e w2 ⟨rfl, hk1⟩); have HK1 := Lib.hid (HK1.out.trans hk1 (fun _ _ h => h)); clear hk1 q1; have q1 := (blk_cell (HK1.out.blk Hb.out id) 1).trans rfl; (try simp only [PU]))
                  | (go_at_call 47; go_must (refine (Hfail.out _ HK1.out).mono ?_; rintro e w3 ⟨rfl, rfl⟩); unfold stopAt; (try simp only [PU]))
                  | ((with_reducible refine at_store (t := 3) rfl ?_); go_must (refine ev_store (cs' := #[.string T, .int .i64 ((a : Int) + 1)]) rfl rfl rfl rfl rfl rfl HI.out.1 HI.out.2 rfl (HK1.out.blk Hb.out id) (Nat.le_of_ble_eq_true rfl) rfl ?_; intro w4 hb2 hk2); have Hb2 := Lib.hid hb2; have HK2 := Lib.hid hk2; clear hb2 hk2; (try simp only [PU]))
                )
                go_roundg q.length
                case measure => omega
                case rel => exact ⟨n * 10 + digB c, false, q, by rw [Hd.out], rfl, Nat.le_refl _, by have := Hd.out; omega, Lib.hid (Hn.out w4 Hb2.out), Lib.hid ((HK.out.then HK1.out).trans HK2.out (fun _ _ h => h)), HR2⟩
    · go_enter Tryd.func77, Tryd.ntmps77
      go_wp2_with (first
        | (go_at_call 101; go_must (refine H101.out.mono ?_; rintro e w1 ⟨rfl, hr1, hk1⟩)
           have HKs0 := Lib.hid hk1
           have Hr1 := Lib.hid hr1
           clear hk1 hr1
           (try simp only [PU]))
        | (go_at_call 76; go_must (refine (Hdig.out w1 Hr1.out).mono ?_; rintro e w2 ⟨rfl, hk1⟩)
           have HKs := Lib.hid (HKs0.out.then hk1)
           have HR1 := Lib.hid (Hr1.out.keep hk1 id)
           clear hk1; (try simp only [PU]))
      )
      go_loopg [4, 5] s1.length (fun k nv fv wr => ∃ (n : Nat) (f : Bool) (s' : Bs), nv = .int .i64 n ∧ fv = .bool f ∧ s'.length ≤ k ∧ n ≤ 9007199254740991 ∧ Hid (Rd wr r T s') ∧ Hid (Keeps (· = r) w wr) ∧ Hid (numB true f n s' = R0))
      case atStart => exact ⟨0, true, s1, rfl, rfl, Nat.le_refl _, by omega, HR1, HKs, HR0⟩
      case round =>
        obtain ⟨n, f, s', rfl, rfl, hl, hnb, Hr, HK, HE⟩ := hrel
        have H76 := Lib.hid (fun W (hk : Keeps Nob wr W) => digit76 (Hr.out.keep hk id))
        have HK1 := Lib.hid (Keeps.refl Nob wr)
        rcases hdg : startsDigit s' with _ | _
        · have hst := numB_stop true f n s' hdg
          rw [hdg] at H76
          have HR2 := Lib.hid (show R0 = .ok (n, s') by rw [← HE.out, hst])
          have HK1 := Lib.hid (Keeps.refl Nob wr)
          clear hst hdg
          have Hb := Lib.hid Hr.out.blk
          have q1 := (blk_cell Hr.out.blk 1).trans rfl
          have H73 := Lib.hid True.intro
          have Hfail := Lib.hid True.intro
          go_wp2_with (first
            | (go_at_call 76; go_must (refine (H76.out _ HK1.out).mono ?_; rintro e w2 ⟨rfl, hk1⟩); have HK1 := Lib.hid (HK1.out.trans hk1 (fun _ _ h => h)); clear hk1 q1; have q1 := (blk_cell (HK1.out.blk Hb.out id) 1).trans rfl; (try simp only [PU]))
          )
          go_ret
          rw [HRR.out, HR2.out]
          exact ⟨rfl, Hr.out.keep HK1.out id, HK.out.then HK1.out⟩
        · rw [hdg] at H76
          cases s' with
          | nil => cases hdg
          | cons c q =>
            have hdc : isDigit c = true := hdg
            obtain ⟨hd0, hd1, hd2⟩ := dig_int c hdc
            have H73 := Lib.hid (fun W (hk : Keeps Nob wr W) => next73 (Hr.out.keep hk id))
            have Hfail := Lib.hid (fun W (hk : Keeps Nob wr W) => fail47 (Hr.out.keep hk id) (q.length + 1) Hr.out.le)
            have hstep := numB_step true f n c q hdc
            have HS := Lib.hid (show (if (f = false ∧ n = 0) ∨ (true = true ∧ f = true ∧ c = 48) ∨ 9007199254740991 < n * 10 + digB c then .error (q.length + 1) else numB true false (n * 10 + digB c) q) = R0 by rw [← hstep]; exact HE.out)
            obtain ⟨a, ha, ⟨hb, -⟩, hT, hal, hn⟩ := Hr.out.cons
            have hat : T.size - (q.length + 1) = a := by omega
            rw [hat] at Hfail
            have Hn := Lib.hid hn
            have Hb := Lib.hid hb
            have q1 := (blk_cell hb 1).trans rfl
            have h48 : c = 48 ↔ (c.toNat : Int) = 48 := ⟨fun h => by rw [h]; rfl, fun h => UInt8.toNat_inj.1 (by show c.toNat = 48; omega)⟩
            have H48 := Lib.hid h48
            obtain ⟨cv, hcv⟩ : ∃ x : Int, (c.toNat : Int) = x := ⟨_, rfl⟩
            rw [hcv] at hd0 hd1 hd2 H48
            have hhd : headN (c :: q) = cv := hcv
            rw [hhd] at H73
            have Hd := Lib.hid (show ((n * 10 + digB c : Nat) : Int) = (n : Int) * 10 + (cv - 48) by rw [hd2]; rfl)
            simp only [List.length_cons] at hl
            clear hdg hdc hstep hn hb h48 hcv hhd hd2 hal hat
            cases f
            · by_cases h0 : n = 0
              · subst h0
                have HR2 := Lib.hid (show R0 = .error (q.length + 1) by rw [← HS.out, if_pos (.inl ⟨rfl, rfl⟩)])
                go_wp2_with (first
                  | (go_at_call 76; go_must (refine (H76.out _ HK1.out).mono ?_; rintro e w2 ⟨rfl, hk1⟩); have HK1 := Lib.hid (HK1.out.trans hk1 (fun _ _ h => h)); clear hk1 q1; have q1 := (blk_cell (HK1.out.blk Hb.out id) 1).trans rfl; (try simp only [PU]))
                  | (go_at_call 73; go_must (refine (H73.out _ HK1.out).mono ?_; rintro e w2 ⟨rfl, hk1⟩); have HK1 := Lib.hid (HK1.out.trans hk1 (fun _ _ h => h)); clear hk1 q1; have q1 := (blk_cell (HK1.out.blk Hb.out id) 1).trans rfl; (try simp only [PU]))
                  | (go_at_call 47; go_must (refine (Hfail.out _ HK1.out).mono ?_; rintro e w3 ⟨rfl, rfl⟩); unfold stopAt; (try simp only [PU]))
                  | ((with_reducible refine at_store (t := 3) rfl ?_); go_must (refine ev_store (cs' := #[.string T, .int .i64 ((a : Int) + 1)]) rfl rfl rfl rfl rfl rfl HI.out.1 HI.out.2 rfl (HK1.out.blk Hb.out id) (Nat.le_of_ble_eq_true rfl) rfl ?_; intro w4 hb2 hk2); have Hb2 := Lib.hid hb2; have HK2 := Lib.hid hk2; clear hb2 hk2; (try simp only [PU]))
                )
                refine ⟨rfl, ?_⟩
                rw [HRR.out, HR2.out]
                exact ⟨rfl, HK.out.then HK1.out⟩
              · have n0 : ((n : Int) == 0) = false := by simpa using h0
                by_cases hmx : 9007199254740991 < (n : Int) * 10 + (cv - 48)
                · have HR2 := Lib.hid (show R0 = .error (q.length + 1) by rw [← HS.out, if_pos (.inr (.inr (by have := Hd.out; omega)))])
                  go_wp2_with (first
                    | (go_at_call 76; go_must (refine (H76.out _ HK1.out).mono ?_; rintro e w2 ⟨rfl, hk1⟩); have HK1 := Lib.hid (HK1.out.trans hk1 (fun _ _ h => h)); clear hk1 q1; have q1 := (blk_cell (HK1.out.blk Hb.out id) 1).trans rfl; (try simp only [PU]))
                    | (go_at_call 73; go_must (refine (H73.out _ HK1.out).mono ?_; rintro e w2 ⟨rfl, hk1⟩); have HK1 := Lib.hid (HK1.out.trans hk1 (fun _ _ h => h)); clear hk1 q1; have q1 := (blk_cell (HK1.out.blk Hb.out id) 1).trans rfl; (try simp only [PU]))
                    | (go_at_call 47; go_must (refine (Hfail.out _ HK1.out).mono ?_; rintro e w3 ⟨rfl, rfl⟩); unfold stopAt; (try simp only [PU]))
                    | ((with_reducible refine at_store (t := 3) rfl ?_); go_must (refine ev_store (cs' := #[.string T, .int .i64 ((a : Int) + 1)]) rfl rfl rfl rfl rfl rfl HI.out.1 HI.out.2 rfl (HK1.out.blk Hb.out id) (Nat.le_of_ble_eq_true rfl) rfl ?_; intro w4 hb2 hk2); have Hb2 := Lib.hid hb2; have HK2 := Lib.hid hk2; clear hb2 hk2; (try simp only [PU]))
                  )
                  refine ⟨rfl, ?_⟩
                  rw [HRR.out, HR2.out]
                  exact ⟨rfl, HK.out.then HK1.out⟩
                · have HR2 := Lib.hid (show numB true false (n * 10 + digB c) q = R0 by rw [← HS.out, if_neg (by have := Hd.out; simp; omega)])
                  go_wp2_with (first
                    | (go_at_call 76; go_must (refine (H76.out _ HK1.out).mono ?_; rintro e w2 ⟨rfl, hk1⟩); have HK1 := Lib.hid (HK1.out.trans hk1 (fun _ _ h => h)); clear hk1 q1; have q1 := (blk_cell (HK1.out.blk Hb.out id) 1).trans rfl; (try simp only [PU]))
                    | (go_at_call 73; go_must (refine (H73.out _ HK1.out).mono ?_; rintro e w2 ⟨rfl, hk1⟩); have HK1 := Lib.hid (HK1.out.trans hk1 (fun _ _ h => h)); clear hk1 q1; have q1 := (blk_cell (HK1.out.blk Hb.out id) 1).trans rfl; (try simp only [PU]))
                    | (go_at_call 47; go_must (refine (Hfail.out _ HK1.out).mono ?_; rintro e w3 ⟨rfl, rfl⟩); unfold stopAt; (try simp only [PU]))
                    | ((with_reducible refine at_store (t := 3) rfl ?_); go_must (refine ev_store (cs' := #[.string T, .int .i64 ((a : Int) + 1)]) rfl rfl rfl rfl rfl rfl HI.out.1 HI.out.2 rfl (HK1.out.blk Hb.out id) (Nat.le_of_ble_eq_true rfl) rfl ?_; intro w4 hb2 hk2); have Hb2 := Lib.hid hb2; have HK2 := Lib.hid hk2; clear hb2 hk2; (try simp only [PU]))
                  )
                  go_roundg q.length
                  case measure => omega
                  case rel => exact ⟨n * 10 + digB c, false, q, by rw [Hd.out], rfl, Nat.le_refl _, by have := Hd.out; omega, Lib.hid (Hn.out w4 Hb2.out), Lib.hid ((HK.out.then HK1.out).trans HK2.out (fun _ _ h => h)), HR2⟩
            · skip
              by_cases hz : cv = 48
              · have HR2 := Lib.hid (show R0 = .error (q.length + 1) by rw [← HS.out, if_pos (.inr (.inl ⟨rfl, rfl, H48.out.2 hz⟩))])
                subst hz
                go_wp2_with (first
                  | (go_at_call 76; go_must (refine (H76.out _ HK1.out).mono ?_; rintro e w2 ⟨rfl, hk1⟩); have HK1 := Lib.hid (HK1.out.trans hk1 (fun _ _ h => h)); clear hk1 q1; have q1 := (blk_cell (HK1.out.blk Hb.out id) 1).trans rfl; (try simp only [PU]))
                  | (go_at_call 73; go_must (refine (H73.out _ HK1.out).mono ?_; rintro e w2 ⟨rfl, hk1⟩); have HK1 := Lib.hid (HK1.out.trans hk1 (fun _ _ h => h)); clear hk1 q1; have q1 := (blk_cell (HK1.out.blk Hb.out id) 1).trans rfl; (try simp only [PU]))
                  | (go_at_call 47; go_must (refine (Hfail.out _ HK1.out).mono ?_; rintro e w3 ⟨rfl, rfl⟩); unfold stopAt; (try simp only [PU]))
                  | ((with_reducible refine at_store (t := 3) rfl ?_); go_must (refine ev_store (cs' := #[.string T, .int .i64 ((a : Int) + 1)]) rfl rfl rfl rfl rfl rfl HI.out.1 HI.out.2 rfl (HK1.out.blk Hb.out id) (Nat.le_of_ble_eq_true rfl) rfl ?_; intro w4 hb2 hk2); have Hb2 := Lib.hid hb2; have HK2 := Lib.hid hk2; clear hb2 hk2; (try simp only [PU]))
                )
                refine ⟨rfl, ?_⟩
                rw [HRR.out, HR2.out]
                exact ⟨rfl, HK.out.then HK1.out⟩
              · have Hz := Lib.hid (fun h => hz (H48.out.1 h))
                have hzb : (cv == 48) = false := by simpa using hz
                clear hz
                by_cases hmx : 9007199254740991 < (n : Int) * 10 + (cv - 48)
                · have HR2 := Lib.hid (show R0 = .error (q.length + 1) by rw [← HS.out, if_pos (.inr (.inr (by have := Hd.out; omega)))])
                  go_wp2_with (first
                    | (go_at_call 76; go_must (refine (H76.out _ HK1.out).mono ?_; rintro e w2 ⟨rfl, hk1⟩); have HK1 := Lib.hid (HK1.out.trans hk1 (fun _ _ h => h)); clear hk1 q1; have q1 := (blk_cell (HK1.out.blk Hb.out id) 1).trans rfl; (try simp only [PU]))
                    | (go_at_call 73; go_must (refine (H73.out _ HK1.out).mono ?_; rintro e w2 ⟨rfl, hk1⟩); have HK1 := Lib.hid (HK1.out.trans hk1 (fun _ _ h => h)); clear hk1 q1; have q1 := (blk_cell (HK1.out.blk Hb.out id) 1).trans rfl; (try simp only [PU]))
                    | (go_at_call 47; go_must (refine (Hfail.out _ HK1.out).mono ?_; rintro e w3 ⟨rfl, rfl⟩); unfold stopAt; (try simp only [PU]))
                    | ((with_reducible refine at_store (t := 3) rfl ?_); go_must (refine ev_store (cs' := #[.string T, .int .i64 ((a : Int) + 1)]) rfl rfl rfl rfl rfl rfl HI.out.1 HI.out.2 rfl (HK1.out.blk Hb.out id) (Nat.le_of_ble_eq_true rfl) rfl ?_; intro w4 hb2 hk2); have Hb2 := Lib.hid hb2; have HK2 := Lib.hid hk2; clear hb2 hk2; (try simp only [PU]))
                  )
                  refine ⟨rfl, ?_⟩
                  rw [HRR.out, HR2.out]
                  exact ⟨rfl, HK.out.then HK1.out⟩
                · have HR2 := Lib.hid (show numB true false (n * 10 + digB c) q = R0 by rw [← HS.out, if_neg (fun h => h.elim (fun h => absurd h.1 (by decide)) (fun h => h.elim (fun h => Hz.out h.2.2) (fun h => by have := Hd.out; omega)))])
                  go_wp2_with (first
                    | (go_at_call 76; go_must (refine (H76.out _ HK1.out).mono ?_; rintro e w2 ⟨rfl, hk1⟩); have HK1 := Lib.hid (HK1.out.trans hk1 (fun _ _ h => h)); clear hk1 q1; have q1 := (blk_cell (HK1.out.blk Hb.out id) 1).trans rfl; (try simp only [PU]))
                    | (go_at_call 73; go_must (refine (H73.out _ HK1.out).mono ?_; rintro e w2 ⟨rfl, hk1⟩); have HK1 := Lib.hid (HK1.out.trans hk1 (fun _ _ h => h)); clear hk1 q1; have q1 := (blk_cell (HK1.out.blk Hb.out id) 1).trans rfl; (try simp only [PU]))
                    | (go_at_call 47; go_must (refine (Hfail.out _ HK1.out).mono ?_; rintro e w3 ⟨rfl, rfl⟩); unfold stopAt; (try simp only [PU]))
                    | ((with_reducible refine at_store (t := 3) rfl ?_); go_must (refine ev_store (cs' := #[.string T, .int .i64 ((a : Int) + 1)]) rfl rfl rfl rfl rfl rfl HI.out.1 HI.out.2 rfl (HK1.out.blk Hb.out id) (Nat.le_of_ble_eq_true rfl) rfl ?_; intro w4 hb2 hk2); have Hb2 := Lib.hid hb2; have HK2 := Lib.hid hk2; clear hb2 hk2; (try simp only [PU]))
                  )
                  go_roundg q.length
                  case measure => omega
                  case rel => exact ⟨n * 10 + digB c, false, q, by rw [Hd.out], rfl, Nat.le_refl _, by have := Hd.out; omega, Lib.hid (Hn.out w4 Hb2.out), Lib.hid ((HK.out.then HK1.out).trans HK2.out (fun _ _ h => h)), HR2⟩
end Go.Proofs.WV

/-
  Slices of slices of bytes; what a slice of bytes comes to as a string, as a fact of the memory. No condition.
-/
namespace Go.Proofs.KL
open Go.RowKit Go.Proofs.WM
set_option maxRecDepth 100000
set_option linter.unusedVariables false

theorem run_conv_bs {P : Program} {W : World} {src dst : TypeId} (hs : P.underlying src = some (.slice 5)) (h5 : P.underlying 5 = some (.int .u8)) (hd : P.underlying dst = some .string)
    {A : Option Addr} {n c : Nat} {bs : Bs} {X : Nat → Prop} (hb : BytesX W X (.slice A n c) bs) : (convert src dst (.slice A n c)).run P W = .ok (.string (mkB bs)) W := by
  have hr := run_convert_bytes_string (P := P) W src dst 5 A n c hs h5 hd
  rw [hr]
  have hn : n = bs.length := by obtain ⟨_, _, e, _⟩ := hb; injection e
  cases A with
  | none =>
    have : bs = [] := by
      cases bs with
      | nil => rfl
      | cons b bs => obtain ⟨_, _, e2, _, hx⟩ := hb; obtain ⟨b', o', e, _⟩ := hx 0 (by simp); injection e2 with e2 _ _; rw [← e2] at e; cases e
    subst this
    rfl
  | some ad =>
    have hl : (loadCells ad n).run P W = .ok ((bs.map fun c => (c.toNat : Int)).map (Value.int .u8)).toArray W := by
      have e : ((bs.map fun c => (c.toNat : Int)).map (Value.int .u8)) = bs.map byteV := by rw [List.map_map]; rfl
      rw [e]
      rcases Nat.eq_zero_or_pos n with h0 | h0
      · have : bs = [] := List.eq_nil_of_length_eq_zero (by omega)
        subst this
        rw [h0]
        simp [loadCells, loadCellsFrom]
      · obtain ⟨ad', e', hnw⟩ := hb.news h0
        injection e' with e'
        subst e'
        have := run_loadCells_list (P := P) W ad (bs.map byteV) hnw
        rw [List.length_map, ← hn] at this
        exact this
    rw [run_bytesToString W ad n c _ hl, fold_push]
    rfl
/-- b[l:h] of a slice of bytes. -/
def subA (A : Option Addr) (l c : Nat) : Option Addr := if c = l then A else A.map (·.add l)
theorem run_sub {P : Program} {t : TypeId} (ht : ByteT P t) (A : Option Addr) (n c l h : Nat) (hlh : l ≤ h) (hh : h ≤ c) (w : World) :
    (Instr.slice t (.slice A n c) (some (.int .i64 l)) (some (.int .i64 h)) none).run P w = .ok (.slice (subA A l c) (h - l) (c - l)) w := by
  obtain ⟨i, hi, hz⟩ := Option.map_eq_some_iff.1 ht.info
  simp only [Prod.mk.injEq] at hz
  have e1 : (0 : Int) ≤ (l : Int) ∧ (l : Int) ≤ (h : Int) := by omega
  have e2 : (0 : Int) ≤ (h : Int) ∧ (h : Int) ≤ (c : Int) := by omega
  simp [Instr.slice, run_underlying ht.under, Instr.sliceBounds, Instr.sliceBound, asIntOf, e1, e2, hlh, hh, sizeOf, typeInfo, hi, hz.2.1, subA]
theorem run_sub_h {P : Program} {t : TypeId} (ht : ByteT P t) (A : Option Addr) (n c h : Nat) (hh : h ≤ c) (w : World) :
    (Instr.slice t (.slice A n c) none (some (.int .i64 h)) none).run P w = .ok (.slice (subA A 0 c) h c) w := by
  obtain ⟨i, hi, hz⟩ := Option.map_eq_some_iff.1 ht.info
  simp only [Prod.mk.injEq] at hz
  have e2 : (0 : Int) ≤ (h : Int) ∧ (h : Int) ≤ (c : Int) := by omega
  simp [Instr.slice, run_underlying ht.under, Instr.sliceBounds, Instr.sliceBound, asIntOf, e2, hh, sizeOf, typeInfo, hi, subA]
theorem run_sub_l {P : Program} {t : TypeId} (ht : ByteT P t) (A : Option Addr) (n c l : Nat) (hl : l ≤ n) (w : World) :
    (Instr.slice t (.slice A n c) (some (.int .i64 l)) none none).run P w = .ok (.slice (subA A l c) (n - l) (c - l)) w := by
  obtain ⟨i, hi, hz⟩ := Option.map_eq_some_iff.1 ht.info
  simp only [Prod.mk.injEq] at hz
  have e2 : (0 : Int) ≤ (l : Int) ∧ (l : Int) ≤ (n : Int) := by omega
  simp [Instr.slice, run_underlying ht.under, Instr.sliceBounds, Instr.sliceBound, asIntOf, e2, hl, sizeOf, typeInfo, hi, hz.2.1, subA]
theorem BytesX.sub {W : World} {X : Nat → Prop} {A : Option Addr} {n c : Nat} {s : Bs} (hb : BytesX W X (.slice A n c) s) {l h : Nat} (hlh : l ≤ h) (hh : h ≤ n) : BytesX W X (.slice (subA A l c) (h - l) (c - l)) ((s.drop l).take (h - l)) := by
  obtain ⟨A', c', e, hc, hx⟩ := hb
  injection e with e1 e2 e3
  subst e1; subst e2; subst e3
  have hlen : ((s.drop l).take (h - l)).length = h - l := by rw [List.length_take, List.length_drop]; omega
  refine ⟨subA A l c, c - l, by rw [hlen], by omega, fun i hi => ?_⟩
  rw [hlen] at hi
  obtain ⟨b, o, rfl, hX, hcell⟩ := hx (l + i) (by omega)
  have hg : ((s.drop l).take (h - l)).getD i 0 = s.getD (l + i) 0 := by
    rw [List.getD_eq_getElem?_getD, List.getD_eq_getElem?_getD, List.getElem?_take, if_pos hi, List.getElem?_drop]
  rw [hg]
  refine ⟨b, o + l, ?_, hX, by rw [Nat.add_assoc]; exact hcell⟩
  unfold subA
  rw [if_neg (by omega)]
  simp [Addr.add]
theorem BytesX.len {W : World} {X : Nat → Prop} {A : Option Addr} {n c : Nat} {s : Bs} (hb : BytesX W X (.slice A n c) s) : n = s.length ∧ n ≤ c := by
  obtain ⟨A', c', e, hc, hx⟩ := hb
  injection e with e1 e2 e3
  subst e2; subst e3
  exact ⟨rfl, hc⟩
theorem BytesX.at {W : World} {X : Nat → Prop} {A : Option Addr} {n c : Nat} {s : Bs} (hb : BytesX W X (.slice A n c) s) (h0 : 0 < n) : ∃ b o, A = some ⟨b, o, none⟩ ∧ X b ∧ ∀ i, i < n → W.cell? ⟨b, o + i, none⟩ = some (byteV (s.getD i 0)) := by
  obtain ⟨A', c', e, hc, hx⟩ := hb
  injection e with e1 e2 e3
  subst e1; subst e2; subst e3
  obtain ⟨b, o, rfl, hX, -⟩ := hx 0 h0
  refine ⟨b, o, rfl, hX, fun i hi => ?_⟩
  obtain ⟨b', o', e, -, hcell⟩ := hx i hi
  injection e with e
  injection e with e1 e2
  subst e1; subst e2
  exact hcell
theorem BytesX.nums {W : World} {X : Nat → Prop} {A : Option Addr} {n c : Nat} {s : Bs} (hb : BytesX W X (.slice A n c) s) : Lib.BytesIn W A n (s.map fun c => (c.toNat : Int)) := fun h0 => by
  obtain ⟨b, o, e, -, hx⟩ := hb.at h0
  obtain ⟨hn, -⟩ := hb.len
  refine ⟨b, o, e, fun i hi => ?_⟩
  rw [hx i hi, List.getD_eq_getElem?_getD, List.getD_eq_getElem?_getD, List.getElem?_map, List.getElem?_eq_getElem (by omega)]
  rfl
theorem bytesOf_nums (s : Bs) : Lib.bytesOf (s.map fun c => (c.toNat : Int)) = s := by
  unfold Lib.bytesOf
  rw [List.map_map]
  refine (List.map_congr_left (g := id) (fun c _ => ?_)).trans (List.map_id s)
  simp
theorem BytesX.of_own {w : World} {base : Nat} {v : Value} {bs : Bs} (h : OwnB w base v bs) : BytesX w (fun k => base ≤ k) v bs := by
  have := h.bytes.keep (X' := fun k => base ≤ k) (Keeps.refl Nob w) (fun _ _ _ => id) (fun b _ hb => (h.lt b hb).1)
  exact this
section
variable {P : Program} {ops : Array Oper} {rest : List Oper} {o : Oper} {a : Act} {Q : Exit → Act → World → Prop}
/-- An operation whose guard holds is walked as one without. -/
theorem ev_ung {W : World} {d : Option Tmp} {op : Op} {ty : TypeId} {pos : String} {af : Array Edge} {gd : Option (Nat × Bool)} (hw : Region.wanted ⟨d, op, ty, pos, af, gd⟩ (yielded ops a.tmps) = true)
    (h : wpList P ops Q (⟨d, op, ty, pos, af, none⟩ :: rest) a W) : wpList P ops Q (⟨d, op, ty, pos, af, gd⟩ :: rest) a W := by
  unfold wpList at h ⊢
  rw [if_pos hw]
  rw [if_pos (by simp [Region.wanted])] at h
  exact h
theorem run_sliceAt_b {t : TypeId} (ht : ByteT P t) (x : Value) (lo hi mx : Option Value) (w : World) : (Instr.sliceAt t x lo hi mx).run P w = (Instr.slice t x lo hi mx).run P w := by
  simp [Instr.sliceAt, run_underlying ht.under]
theorem freeze1_keeps (W : World) (g k : Nat) : Keeps (· = g) W (W.freeze ⟨g, k, none⟩ 1) := by
  unfold World.freeze
  rw [if_neg (by decide)]
  exact ⟨rfl, rfl, rfl, by simp, fun k _ hn => by simp only [Array.getElem?_modify]; rw [if_neg (fun e => hn e.symm)]⟩
/-- []byte of a slice of bytes: it is marked behind its end. -/
theorem ev_conv_same {W : World} (hgd : o.guard = none) {x : Operand} {t : TypeId} (ho : o.op = .convert t t x) (ht : ByteT P t) (h5 : P.underlying 5 = some (.int .u8)) {g n c : Nat} {cs : Array Value} (hx : a.eval x = .slice (some ⟨g, 0, none⟩) n c) (hg : W.heap[g]? = some (.cells cs 5 (0, 0)))
    (h : ∀ w1, w1.heap[g]? = some (.cells cs 5 (cs.size, cs.size + 1)) → Keeps (· = g) W w1 → wpList P ops Q rest (a.put o.dst (.slice (some ⟨g, 0, none⟩) n c)) w1) : wpList P ops Q (o :: rest) a W := by
  have hsh : W.shape? g = some (5, cs.size) := by simp [World.shape?, hg]
  refine ev_run hgd (v := .slice (some ⟨g, 0, none⟩) n c) (w1 := W.freeze ⟨g, cs.size, none⟩ 1) ?_ (h _ ?_ (freeze1_keeps W g _))
  · simp [execOp, ho, hx, convert, run_underlying ht.under, run_underlying h5, markStringish, hsh]
  · have hs := (Array.getElem?_eq_some_iff.1 hg).1
    simp [World.freeze, Array.getElem?_modify, hg]
/-- b[l:h]. -/
theorem ev_sub {W : World} (hgd : o.guard = none) {x lo hi : Operand} {t : TypeId} (ho : o.op = .slice t x (some lo) (some hi) none) (ht : ByteT P t) {A : Option Addr} {n c l h : Nat} (hx : a.eval x = .slice A n c) (hlo : a.eval lo = .int .i64 l) (hhi : a.eval hi = .int .i64 h) (hlh : l ≤ h) (hh : h ≤ c)
    (k : wpList P ops Q rest (a.put o.dst (.slice (subA A l c) (h - l) (c - l))) W) : wpList P ops Q (o :: rest) a W := by
  refine ev_run hgd (v := .slice (subA A l c) (h - l) (c - l)) (w1 := W) ?_ k
  simp [execOp, ho, hx, hlo, hhi, run_sliceAt_b ht, run_sub ht A n c l h hlh hh]
/-- b[:h]. -/
theorem ev_sub_h {W : World} (hgd : o.guard = none) {x hi : Operand} {t : TypeId} (ho : o.op = .slice t x none (some hi) none) (ht : ByteT P t) {A : Option Addr} {n c h : Nat} (hx : a.eval x = .slice A n c) (hhi : a.eval hi = .int .i64 h) (hh : h ≤ c)
    (k : wpList P ops Q rest (a.put o.dst (.slice (subA A 0 c) h c)) W) : wpList P ops Q (o :: rest) a W := by
  refine ev_run hgd (v := .slice (subA A 0 c) h c) (w1 := W) ?_ k
  simp [execOp, ho, hx, hhi, run_sliceAt_b ht, run_sub_h ht A n c h hh]
/-- b[l:]. -/
theorem ev_sub_l {W : World} (hgd : o.guard = none) {x lo : Operand} {t : TypeId} (ho : o.op = .slice t x (some lo) none none) (ht : ByteT P t) {A : Option Addr} {n c l : Nat} (hx : a.eval x = .slice A n c) (hlo : a.eval lo = .int .i64 l) (hl : l ≤ n)
    (k : wpList P ops Q rest (a.put o.dst (.slice (subA A l c) (n - l) (c - l))) W) : wpList P ops Q (o :: rest) a W := by
  refine ev_run hgd (v := .slice (subA A l c) (n - l) (c - l)) (w1 := W) ?_ k
  simp [execOp, ho, hx, hlo, run_sliceAt_b ht, run_sub_l ht A n c l hl]
end
end Go.Proofs.KL

/-
  The plain law of layer 30 (wire): frames. No program in sight; no condition.
-/
namespace Go.Proofs.WM

/-- What bytes begin with: no frame; the beginning of one; one, and what is behind it. -/
inductive Fr where
  | bad
  | part
  | whole (x rest : Bs)
def beginB : Bs := [76, 101, 110, 103, 116, 104, 58, 32]
def neckB : Bs := [13, 10, 13, 10]
/-- Behind the number. -/
def neckF (n : Nat) : Bs → Bs → Fr
  | [], r => if r.length < n then .part else .whole (r.take n) (r.drop n)
  | _ :: _, [] => .part
  | c :: w, d :: r => if d = c then neckF n w r else .bad
/-- The number: 'any': digits were read. -/
def sizeF : Bool → Nat → Bs → Fr
  | _, _, [] => .part
  | any, n, c :: r =>
    if isDigit c then (if (any = true ∧ n = 0) ∨ 1000000 < n * 10 + digB c then .bad else sizeF true (n * 10 + digB c) r)
    else if any = false then .bad else neckF n neckB (c :: r)
def headF : Bs → Bs → Fr
  | [], r => sizeF false 0 r
  | _ :: _, [] => .part
  | c :: w, d :: r => if d = c then headF w r else .bad
def frameB (b : Bs) : Fr := headF beginB b
def frameOf (b : Bs) : Bs := beginB ++ Lib.itoa b.length ++ neckB ++ b
theorem neckF_len {n : Nat} : ∀ {w r x y : Bs}, neckF n w r = .whole x y → y.length + x.length + w.length = r.length ∧ x.length = n
  | [], r, x, y, h => by
    unfold neckF at h
    split at h
    · cases h
    · rename_i hn
      injection h with h1 h2; subst h1; subst h2
      simp only [List.length_take, List.length_drop, List.length_nil]
      omega
  | c :: w, [], x, y, h => by unfold neckF at h; cases h
  | c :: w, d :: r, x, y, h => by
    unfold neckF at h
    split at h
    · have := neckF_len h; simp only [List.length_cons]; omega
    · cases h
theorem sizeF_len : ∀ {r x y : Bs} {any : Bool} {n : Nat}, sizeF any n r = .whole x y → y.length + x.length < r.length
  | [], x, y, any, n, h => by unfold sizeF at h; cases h
  | c :: r, x, y, any, n, h => by
    unfold sizeF at h
    split at h
    · split at h
      · cases h
      · have := sizeF_len h; simp only [List.length_cons]; omega
    · split at h
      · cases h
      · have := neckF_len h; simp only [List.length_cons, neckB] at this ⊢; simp only [List.length_nil] at this; omega
theorem headF_len : ∀ {w r x y : Bs}, headF w r = .whole x y → y.length + x.length < r.length
  | [], r, x, y, h => sizeF_len h
  | c :: w, [], x, y, h => by unfold headF at h; cases h
  | c :: w, d :: r, x, y, h => by
    unfold headF at h
    split at h
    · have := headF_len h; simp only [List.length_cons]; omega
    · cases h
/-- What waits, and what came out: taken apart as far as it goes. -/
structure Fed where
  out : List Bs
  waits : Bs
  dead : Bool
def feedF : Nat → List Bs → Bs → Fed
  | 0, out, w => ⟨out, w, false⟩
  | f + 1, out, w => match frameB w with
    | .bad => ⟨out, [], true⟩
    | .part => ⟨out, w, false⟩
    | .whole x r => feedF f (out ++ [x]) r
theorem feedF_fuel : ∀ (f f' : Nat) (out : List Bs) (w : Bs), w.length < f → w.length < f' → feedF f out w = feedF f' out w
  | 0, _, _, _, h, _ => by omega
  | f + 1, 0, _, _, _, h => by omega
  | f + 1, f' + 1, out, w, h, h' => by
    unfold feedF
    rcases hw : frameB w with _ | _ | ⟨x, r⟩
    · rfl
    · rfl
    · have := headF_len hw
      exact feedF_fuel f f' _ r (by omega) (by omega)
/-- Feeding: what waits, what came, what goes on. -/
def feedB (waits b : Bs) : Fed := feedF ((waits ++ b).length + 1) [] (waits ++ b)

/-! ### Frames of lists -/
theorem headF_pre : ∀ (w r : Bs), headF w (w ++ r) = sizeF false 0 r
  | [], r => by unfold headF; rfl
  | c :: w, r => by rw [List.cons_append]; unfold headF; rw [if_pos rfl]; exact headF_pre w r
theorem neckF_pre (n : Nat) : ∀ (w r : Bs), neckF n w (w ++ r) = if r.length < n then .part else .whole (r.take n) (r.drop n)
  | [], r => by unfold neckF; rfl
  | c :: w, r => by rw [List.cons_append]; unfold neckF; rw [if_pos rfl]; exact neckF_pre n w r
theorem sizeF_dec : ∀ (u : Nat) (x : Bs), 1 ≤ u → u ≤ 1000000 → sizeF false 0 (Lib.decDigits u ++ x) = sizeF true u x := by
  intro u
  induction u using Nat.strongRecOn with
  | _ u ih =>
    intro x h1 h2
    by_cases h : u < 10
    · obtain ⟨a, b, c⟩ := dig_at h
      rw [Lib.decDigits_one h, List.singleton_append]
      conv => lhs; unfold sizeF
      rw [if_pos a, b, if_neg (by
        rintro (⟨h3, _⟩ | h3)
        · cases h3
        · omega)]
      rw [Nat.zero_mul, Nat.zero_add]
    · obtain ⟨a, b, c⟩ := dig_at (k := u % 10) (Nat.mod_lt _ (by decide))
      rw [decDigits_big h, List.append_assoc, ih (u / 10) (by omega) _ (by omega) (by omega), List.singleton_append]
      conv => lhs; unfold sizeF
      rw [if_pos a, b, if_neg (by
        rintro (⟨_, h3⟩ | h3)
        · omega
        · omega)]
      rw [show u / 10 * 10 + u % 10 = u by omega]
theorem sizeF_neck {n : Nat} {x : Bs} (hx : ∃ q, x = 13 :: q) : sizeF true n x = neckF n neckB x := by
  obtain ⟨q, rfl⟩ := hx
  unfold sizeF
  rw [if_neg (by decide), if_neg (by decide)]
theorem sizeF_itoa {n : Nat} {x : Bs} (hn : n ≤ 1000000) (hx : ∃ q, x = 13 :: q) : sizeF false 0 (Lib.itoa (n : Int) ++ x) = neckF n neckB x := by
  have e : Lib.itoa (n : Int) = Lib.decDigits n := by
    unfold Lib.itoa
    rw [if_neg (by omega), Int.toNat_natCast]
  rw [e]
  rcases Nat.eq_zero_or_pos n with rfl | h
  · obtain ⟨a, b, _⟩ := dig_at (k := 0) (by decide)
    rw [Lib.decDigits_one (by decide), List.singleton_append]
    conv => lhs; unfold sizeF
    rw [if_pos a, b, if_neg (by simp)]
    exact sizeF_neck hx
  · rw [sizeF_dec n x h hn]
    exact sizeF_neck hx
/-- A frame, and what is behind it. -/
theorem frameB_of {b : Bs} (hb : b.length ≤ 1000000) (r : Bs) : frameB (frameOf b ++ r) = .whole b r := by
  have e : frameOf b ++ r = beginB ++ (Lib.itoa (b.length : Int) ++ (neckB ++ (b ++ r))) := by simp [frameOf]
  unfold frameB
  rw [e, headF_pre, sizeF_itoa (x := neckB ++ (b ++ r)) hb ⟨10 :: 13 :: 10 :: (b ++ r), rfl⟩, neckF_pre, if_neg (by simp), List.take_left' rfl, List.drop_left' rfl]
/-- More behind bytes changes nothing of what was whole. -/
theorem neckF_mono {n : Nat} {s : Bs} : ∀ {w p x r : Bs}, neckF n w (p ++ s) = .whole x r → neckF n w p = .part ∨ ∃ r', neckF n w p = .whole x r' ∧ r = r' ++ s
  | [], p, x, r, h => by
    unfold neckF at h ⊢
    split at h
    · cases h
    · rename_i hn
      injection h with h1 h2
      by_cases hp : p.length < n
      · rw [if_pos hp]; exact .inl rfl
      · rw [if_neg hp]
        refine .inr ⟨p.drop n, ?_, ?_⟩
        · rw [← h1, List.take_append_of_le_length (by omega)]
        · rw [← h2, List.drop_append_of_le_length (by omega)]
  | c :: w, [], x, r, h => .inl (by unfold neckF; rfl)
  | c :: w, d :: p, x, r, h => by
    rw [List.cons_append] at h
    unfold neckF at h ⊢
    split at h
    · rename_i e
      rw [if_pos e]
      exact neckF_mono h
    · cases h
theorem sizeF_mono {s : Bs} : ∀ {p x r : Bs} {any : Bool} {n : Nat}, sizeF any n (p ++ s) = .whole x r → sizeF any n p = .part ∨ ∃ r', sizeF any n p = .whole x r' ∧ r = r' ++ s
  | [], x, r, any, n, h => .inl (by unfold sizeF; rfl)
  | c :: p, x, r, any, n, h => by
    rw [List.cons_append] at h
    unfold sizeF at h ⊢
    split at h
    · rename_i hd
      rw [if_pos hd]
      split at h
      · cases h
      · rename_i hn
        rw [if_neg hn]
        exact sizeF_mono h
    · rename_i hd
      rw [if_neg hd]
      split at h
      · cases h
      · rename_i ha
        rw [if_neg ha]
        rw [← List.cons_append] at h
        exact neckF_mono h
theorem headF_mono {s : Bs} : ∀ {w p x r : Bs}, headF w (p ++ s) = .whole x r → headF w p = .part ∨ ∃ r', headF w p = .whole x r' ∧ r = r' ++ s
  | [], p, x, r, h => by unfold headF at h ⊢; exact sizeF_mono h
  | c :: w, [], x, r, h => .inl (by unfold headF; rfl)
  | c :: w, d :: p, x, r, h => by
    rw [List.cons_append] at h
    unfold headF at h ⊢
    split at h
    · rename_i e
      rw [if_pos e]
      exact headF_mono h
    · cases h
/-- The beginning of a frame is one. -/
theorem frameB_part {b p s : Bs} (hb : b.length ≤ 1000000) (hs : p ++ s = frameOf b) (hn : s ≠ []) : frameB p = .part := by
  have h := frameB_of hb []
  rw [List.append_nil, ← hs] at h
  rcases headF_mono h with h | ⟨r', _, h⟩
  · exact h
  · exact absurd (List.append_eq_nil_iff.1 h.symm).2 hn
def framesOf (l : List Bs) : Bs := l.flatMap frameOf
theorem frameB_nil : frameB [] = .part := rfl
theorem feedF_frames (Q : Bs) : ∀ (l : List Bs) (f : Nat) (out : List Bs) (w : Bs), (∀ b ∈ l, b.length ≤ 1000000) → w ++ Q = framesOf l → w.length < f →
    ∃ j, j ≤ l.length ∧ ∃ w', feedF f out w = ⟨out ++ l.take j, w', false⟩ ∧ w' ++ Q = framesOf (l.drop j) ∧ frameB w' = .part
  | [], f, out, w, _, h, hf => by
    obtain ⟨rfl, rfl⟩ := List.append_eq_nil_iff.1 (show w ++ Q = [] from h)
    obtain ⟨f, rfl⟩ : ∃ g, f = g + 1 := ⟨f - 1, by simp at hf; omega⟩
    refine ⟨0, Nat.le_refl _, [], ?_, rfl, frameB_nil⟩
    unfold feedF
    rw [frameB_nil]
    simp
  | b :: l, f, out, w, hl, h, hf => by
    obtain ⟨f, rfl⟩ : ∃ g, f = g + 1 := ⟨f - 1, by omega⟩
    have hb := hl b List.mem_cons_self
    have e : framesOf (b :: l) = frameOf b ++ framesOf l := by simp [framesOf]
    rw [e] at h
    rcases Nat.lt_or_ge w.length (frameOf b).length with hlt | hge
    · have hp : frameB w = .part := by
        refine frameB_part (s := (frameOf b).drop w.length) hb ?_ (fun h0 => ?_)
        · have : (w ++ Q).take w.length = (frameOf b ++ framesOf l).take w.length := by rw [h]
          rw [List.take_left' rfl, List.take_append_of_le_length (by omega)] at this
          conv => lhs; lhs; rw [this]
          exact List.take_append_drop _ _
        · have := congrArg List.length h0
          simp only [List.length_drop, List.length_nil] at this
          omega
      refine ⟨0, Nat.zero_le _, w, ?_, by rw [h, List.drop_zero, e], hp⟩
      unfold feedF
      rw [hp]
      simp
    · obtain ⟨w', rfl⟩ : ∃ w', w = frameOf b ++ w' := by
        refine ⟨w.drop (frameOf b).length, ?_⟩
        have : (w ++ Q).take (frameOf b).length = (frameOf b ++ framesOf l).take (frameOf b).length := by rw [h]
        rw [List.take_left' rfl, List.take_append_of_le_length hge] at this
        conv => rhs; lhs; rw [← this]
        exact (List.take_append_drop _ _).symm
      rw [List.append_assoc] at h
      have h := List.append_cancel_left h
      have hfl : 0 < (frameOf b).length := by simp [frameOf, beginB]
      obtain ⟨j, hj, w2, e1, e2, e3⟩ := feedF_frames Q l f (out ++ [b]) w' (fun c hc => hl c (List.mem_cons_of_mem _ hc)) h (by simp only [List.length_append] at hf; omega)
      refine ⟨j + 1, Nat.succ_le_succ hj, w2, ?_, by rw [List.drop_succ_cons]; exact e2, e3⟩
      unfold feedF
      rw [frameB_of hb]
      simp only
      rw [e1, List.append_assoc]; rfl
/-- FEEDING A PIECE of frames: lists come out, and what waits goes on. -/
theorem feedB_frames {l : List Bs} {w b Q : Bs} (hl : ∀ b ∈ l, b.length ≤ 1000000) (h : w ++ (b ++ Q) = framesOf l) : ∃ j, j ≤ l.length ∧ ∃ w', feedB w b = ⟨l.take j, w', false⟩ ∧ w' ++ Q = framesOf (l.drop j) ∧ frameB w' = .part := by
  obtain ⟨j, hj, w', e1, e2, e3⟩ := feedF_frames Q l ((w ++ b).length + 1) [] (w ++ b) hl (by rw [List.append_assoc]; exact h) (Nat.lt_succ_self _)
  exact ⟨j, hj, w', by unfold feedB; rw [e1, List.nil_append], e2, e3⟩
/-- At the end nothing waits. -/
theorem frames_end {l : List Bs} {w : Bs} (hl : ∀ b ∈ l, b.length ≤ 1000000) (h : w = framesOf l) (hp : frameB w = .part) : l = [] ∧ w = [] := by
  cases l with
  | nil => exact ⟨rfl, h⟩
  | cons b l =>
    exfalso
    have e : framesOf (b :: l) = frameOf b ++ framesOf l := by simp [framesOf]
    rw [h, e, frameB_of (hl b List.mem_cons_self)] at hp
    cases hp
end Go.Proofs.WM

/-
  The plain law of layer 30 (wire): what the head of a frame comes to, as the program works it out. No program in sight; no condition.
-/
namespace Go.Proofs.WM

def numH : Bool → Nat → Bs → Option (Bool × Nat × Bs)
  | any, n, [] => some (any, n, [])
  | any, n, c :: r => if isDigit c then (if (any = true ∧ n = 0) ∨ 1000000 < n * 10 + digB c then none else numH true (n * 10 + digB c) r) else some (any, n, c :: r)
/-- What head answers, when the number is read. -/
def tailH (len : Nat) : Option (Bool × Nat × Bs) → Nat × Nat × Bool × Bool
  | none => (0, 0, false, false)
  | some (any, n, r) => if r = [] then (0, 0, false, true) else if any = false ∨ (r.take 4).isPrefixOf neckB = false then (0, 0, false, false) else (len - r.length + 4, n, decide (4 ≤ r.length), true)
def headH (s : Bs) : Nat × Nat × Bool × Bool := if s.take 8 = beginB.take s.length then tailH s.length (numH false 0 (s.drop 8)) else (0, 0, false, false)
theorem numH_suf : ∀ {r : Bs} {any : Bool} {n : Nat} {x : Bool × Nat × Bs}, numH any n r = some x → n ≤ 1000000 → x.2.1 ≤ 1000000 ∧ ∃ p, r = p ++ x.2.2
  | [], any, n, x, h, hn => by unfold numH at h; injection h with h; subst h; exact ⟨hn, [], rfl⟩
  | c :: r, any, n, x, h, hn => by
    unfold numH at h
    split at h
    · split at h
      · cases h
      · rename_i h2
        obtain ⟨h3, p, hp⟩ := numH_suf h (by omega)
        exact ⟨h3, c :: p, by rw [hp]; rfl⟩
    · injection h with h; subst h; exact ⟨hn, [], rfl⟩
theorem sizeF_num : ∀ (r : Bs) (any : Bool) (n : Nat), sizeF any n r = match numH any n r with
    | none => .bad
    | some x => if x.2.2 = [] then .part else if x.1 = false then .bad else neckF x.2.1 neckB x.2.2
  | [], any, n => by unfold sizeF numH; simp
  | c :: r, any, n => by
    unfold sizeF numH
    split
    · split
      · rfl
      · exact sizeF_num r true _
    · simp
theorem headF_begin : ∀ (w s : Bs), headF w s = if s.take w.length = w.take s.length then sizeF false 0 (s.drop w.length) else .bad
  | [], s => by unfold headF; simp
  | c :: w, [] => by unfold headF sizeF; simp
  | c :: w, d :: s => by
    unfold headF
    rw [headF_begin w s]
    simp only [List.length_cons, List.take_succ_cons, List.cons.injEq, List.drop_succ_cons]
    by_cases h : d = c
    · simp [h]
    · simp [h]
theorem neckF_take (n : Nat) : ∀ (w r : Bs), neckF n w r = if (r.take w.length).isPrefixOf w = false then .bad else if r.length < w.length ∨ r.length < w.length + n then .part else .whole ((r.drop w.length).take n) (r.drop (w.length + n))
  | [], r => by unfold neckF; simp
  | c :: w, [] => by unfold neckF; simp
  | c :: w, d :: r => by
    unfold neckF
    rw [neckF_take n w r]
    simp only [List.length_cons, List.take_succ_cons, List.isPrefixOf, List.drop_succ_cons, Bool.and_eq_false_iff, beq_eq_false_iff_ne]
    by_cases h : d = c
    · subst h
      rw [if_pos rfl]
      rw [show w.length + 1 + n = (w.length + n) + 1 by omega, List.drop_succ_cons]
      simp
    · rw [if_neg h, if_pos (.inl h)]
/-- What bytes begin with, by what head answers. -/
def frOf (s : Bs) (x : Nat × Nat × Bool × Bool) : Fr := if x.2.2.2 = false then .bad else if x.2.2.1 = false ∨ s.length < x.1 + x.2.1 then .part else .whole ((s.drop x.1).take x.2.1) (s.drop (x.1 + x.2.1))
theorem frame_head (s : Bs) : frameB s = frOf s (headH s) := by
  unfold frameB headH
  rw [headF_begin, show beginB.length = 8 from rfl]
  by_cases hb : s.take 8 = beginB.take s.length
  · rw [if_pos hb, if_pos hb, sizeF_num]
    rcases hn : numH false 0 (s.drop 8) with _ | ⟨any, n, r⟩
    · rfl
    · simp only [tailH]
      by_cases hr : r = []
      · rw [if_pos hr, if_pos hr]; rfl
      · rw [if_neg hr, if_neg hr]
        rcases any with _ | _
        · rfl
        · rw [if_neg (by decide), neckF_take, show neckB.length = 4 from rfl]
          obtain ⟨-, p, hp⟩ := numH_suf hn (by omega)
          rcases hpre : (r.take 4).isPrefixOf neckB with _ | _
          · simp [frOf]
          · simp only [Bool.true_eq_false, or_self, if_false, frOf]
            have hs : s = (s.take 8 ++ p) ++ r := by rw [List.append_assoc, ← hp, List.take_append_drop]
            have hl : s.length = (s.take 8 ++ p).length + r.length := by rw [← List.length_append, ← hs]
            have hd : ∀ k, s.drop (s.length - r.length + k) = r.drop k := fun k => by
              rw [show s.length - r.length + k = (s.take 8 ++ p).length + k by omega]
              generalize s.take 8 ++ p = u at *
              subst hs
              rw [List.drop_append, List.drop_of_length_le (by omega), List.nil_append, show u.length + k - u.length = k by omega]
            rw [show s.length - r.length + 4 + n = s.length - r.length + (4 + n) by omega, hd, hd]
            have h1 : r.length ≤ s.length := by omega
            by_cases h4 : 4 ≤ r.length
            · simp only [h4, decide_true, Bool.true_eq_false, false_or]
              by_cases hln : r.length < 4 + n
              · rw [if_pos (.inr hln), if_pos (by omega)]
              · rw [if_neg (by omega), if_neg (by omega)]
            · rw [if_pos (.inl (by omega)), if_pos (.inl (by simpa using h4))]
  · rw [if_neg hb, if_neg hb]; rfl
end Go.Proofs.WM

/-
  The head of a frame (head), by the program, in memory. Condition: at most two thousand million bytes.
-/
namespace Go.Proofs.WV
open Go.RowKit Go.Proofs.KL Go.Proofs.WM
set_option maxRecDepth 100000
set_option linter.unusedSimpArgs false
set_option linter.unusedVariables false

def HeadEnd (W : World) (x : Nat × Nat × Bool × Bool) (e : Ending) (w' : World) : Prop := e = .returned (.tuple #[.int .i64 x.1, .int .i64 x.2.1, .bool x.2.2.1, .bool x.2.2.2]) ∧ Keeps Nob W w'
def beginS : ByteArray := ⟨#[76, 101, 110, 103, 116, 104, 58, 32]⟩
theorem mkB_toList (x : Bs) : (mkB x).toList = x := ByteArray.toList_mk x
theorem begin_take (k : Nat) : (({ data := #[76, 101, 110, 103, 116, 104, 58, 32] } : ByteArray).extract 0 k).toList = beginB.take k := by
  rw [Lib.toList_data]
  simp [beginB]
theorem take_min (s : Bs) {k : Nat} (hk : min s.length 8 = k) : s.take 8 = s.take k ∧ beginB.take s.length = beginB.take k := by
  rcases Nat.le_or_ge s.length 8 with h | h
  · rw [Nat.min_eq_left h] at hk
    subst hk
    exact ⟨by rw [List.take_of_length_le h, List.take_length], rfl⟩
  · rw [Nat.min_eq_right h] at hk
    subst hk
    exact ⟨rfl, by rw [List.take_of_length_le (by exact h), List.take_of_length_le (by decide)]⟩
theorem begin_test (s : Bs) {k : Nat} (hk : min s.length 8 = k) : ((mkB (s.take k)).toList == (({ data := #[76, 101, 110, 103, 116, 104, 58, 32] } : ByteArray).extract 0 k).toList) = decide (s.take 8 = beginB.take s.length) := by
  rw [mkB_toList, begin_take, (take_min s hk).1, (take_min s hk).2]
  exact Bool.beq_eq_decide_eq _ _
theorem results_tmp4 {fn : Func} {t u v x : Tmp} (h : fn.results = #[.tmp t, .tmp u, .tmp v, .tmp x]) (tmps : Array Value) (P : Program) (w : World) :
    (results fn tmps).run P w = .ok (.tuple #[tmps[t]?.getD undef, tmps[u]?.getD undef, tmps[v]?.getD undef, tmps[x]?.getD undef]) w := by
  simp [results, h, Result.andThen]
set_option maxHeartbeats 2000000 in
theorem head_no {W : World} {X : Nat → Prop} {A : Option Addr} {n c : Nat} {s : Bs} (hb : BytesX W X (.slice A n c) s) (hne : s.take 8 ≠ beginB.take s.length) : Calls Tryd.prog 52 #[.slice A n c] W (HeadEnd W (0, 0, false, false)) := by
  obtain ⟨hn, hc⟩ := hb.len
  have hb0 := hb.sub (l := 0) (h := min n 8) (Nat.zero_le _) (Nat.min_le_left _ _)
  simp only [Nat.sub_zero, List.drop_zero] at hb0
  have hki0 : min (n : Int) 8 = ((min n 8 : Nat) : Int) := by omega
  have hkn0 : min n 8 ≤ n ∧ min n 8 ≤ 8 ∧ (n ≤ 8 → min n 8 = n) ∧ (8 ≤ n → min n 8 = 8) := by omega
  have htest := begin_test s (k := min n 8) (by rw [hn])
  obtain ⟨k, hk⟩ : ∃ k, min n 8 = k := ⟨_, rfl⟩
  rw [hk] at hb0 hki0 hkn0 htest
  have HB0 := Lib.hid hb0
  have hki := hki0
  have Hkn := Lib.hid hkn0
  have hkc : k ≤ c := by omega
  have hk8 : (k : Int) ≤ 8 := by omega
  rw [decide_eq_false hne] at htest
  clear hb hb0 hn hki0 hkn0 hk hne
  go_enter Tryd.func52, Tryd.ntmps52
  go_wp2_with fail
  refine wp_region_tree (.q 0 (.q 1 (.q 4 (.q 5 (.br [2] (fun k => .br [3] (fun k => .q 6 (.done)))))))) (fun w' => True) rfl (by kernel_rfl) (by kernel_rfl) (fun c a d v w h => by cases d <;> exact h) trivial ?_
  refine tree_q (v := ?v1_5) (some 12) rfl rfl rfl ?q1_5 ?h1_5; (case q1_5 => (intro w' hS; skip; first | (go_simp; done) | (go_simp; rfl))); (try simp only [PU])
  refine tree_q (v := ?v1_4) (some 13) rfl rfl rfl ?q1_4 ?h1_4; (case q1_4 => (intro w' hS; skip; first | (go_simp; done) | (go_simp; rfl))); (try simp only [PU])
  refine tree_q (v := ?v1_3) (some 16) rfl rfl rfl ?q1_3 ?h1_3; (case q1_3 => (intro w' hS; skip; first | (go_simp; done) | (go_simp; rfl))); (try simp only [PU])
  refine tree_q (v := ?v1_2) (some 17) rfl rfl rfl ?q1_2 ?h1_2; (case q1_2 => (intro w' hS; skip; first | (go_simp; done) | (go_simp; rfl))); (try simp only [PU])
  refine tree_e rfl rfl ?_
  go_must (refine ev_sub_h (h := k) rfl rfl byteT38 rfl rfl hkc ?_)
  (try simp only [PU])
  refine wpList_nil ⟨trivial, ?_⟩
  refine tree_e rfl rfl ?_
  go_must (refine ev_conv_bs rfl rfl Tryd.underlying38 Tryd.underlying5 Tryd.underlying9 (bs := s.take k) rfl (HB0.out.keep (X' := X) (Keeps.refl Nob W).drew (fun _ _ _ => id) (fun _ _ h => h)) ?_)
  (try simp only [PU])
  refine wpList_nil ⟨trivial, ?_⟩
  refine tree_q (v := ?v1_1) (some 18) rfl rfl rfl ?q1_1 ?h1_1; (case q1_1 => (intro w' hS; skip; first | (go_simp; done) | (go_simp; rfl))); (try simp only [PU])
  refine tree_nil ?_
  go_wp2
  refine bodyPost_ret (by rw [results_tmp4 rfl]) rfl ?_
  exact ⟨rfl, (Keeps.refl Nob W).drew⟩
end Go.Proofs.WV

/-
  The head of a frame (head), by the program, in memory, whole. Condition: at most two thousand million bytes.
-/
namespace Go.Proofs.WV
open Go.RowKit Go.Proofs.KL Go.Proofs.WM
set_option maxRecDepth 100000
set_option linter.unusedSimpArgs false
set_option linter.unusedVariables false

theorem drop_cons {s : Bs} {i : Nat} {c : UInt8} {q : Bs} (h : s.drop i = c :: q) : i < s.length ∧ s.getD i 0 = c ∧ s.drop (i + 1) = q := by
  have hi : i < s.length := by
    rcases Nat.lt_or_ge i s.length with h' | h'
    · exact h'
    · rw [List.drop_of_length_le h'] at h; cases h
  rw [List.drop_eq_getElem_cons hi] at h
  injection h with h1 h2
  exact ⟨hi, by rw [List.getD_eq_getElem?_getD, List.getElem?_eq_getElem hi]; exact h1, h2⟩
theorem dig_zero (c : UInt8) (h : isDigit c = true) : digB c = 0 ↔ c = 48 := by
  have := dig_int c h
  constructor
  · intro h0
    refine UInt8.toNat_inj.1 ?_
    show c.toNat = 48
    omega
  · rintro rfl; rfl
theorem notdig (c : UInt8) (h : isDigit c = false) : (c.toNat : Int) < 48 ∨ 57 < (c.toNat : Int) := by
  simp only [isDigit, Bool.and_eq_false_iff, decide_eq_false_iff_not, UInt8.le_iff_toNat_le] at h
  have e1 : (48 : UInt8).toNat = 48 := rfl
  have e2 : (57 : UInt8).toNat = 57 := rfl
  omega
theorem tailH_nil (N : Nat) (any : Bool) (n : Nat) : tailH N (some (any, n, [])) = (0, 0, false, true) := by simp [tailH]
theorem tailH_none (N : Nat) (n : Nat) (r : Bs) (h : r ≠ []) : tailH N (some (false, n, r)) = (0, 0, false, false) := by simp [tailH, h]
theorem neck_prefix {w : World} {g L c : Nat} {A : Option Addr} {X : Nat → Prop} {s : Bs} {fz : Nat × Nat} (hg : w.heap[g]? = some (.cells #[.int .u8 13, .int .u8 10, .int .u8 13, .int .u8 10] 5 fz)) (hb : BytesX w X (.slice A L c) s) :
    Calls Tryd.prog 89 #[.slice (some ⟨g, 0, none⟩) 4 4, .slice A L c] w fun e w' => e = .returned (.bool (s.isPrefixOf neckB)) ∧ w' = w := by
  have hn : BytesX w (fun _ => True) (.slice (some ⟨g, 0, none⟩) 4 4) neckB := by
    refine ⟨_, 4, rfl, Nat.le_refl _, fun i hi => ⟨g, 0, rfl, trivial, ?_⟩⟩
    rw [Nat.zero_add, blk_cell hg i]
    have hi' : i < 4 := hi
    match i, hi' with
    | 0, _ => rfl
    | 1, _ => rfl
    | 2, _ => rfl
    | 3, _ => rfl
  have h := Tryd.bytes_HasPrefix_all (some ⟨g, 0, none⟩) A 4 4 L c (neckB.map fun c => (c.toNat : Int)) (s.map fun c => (c.toNat : Int)) w rfl (by rw [List.length_map]; exact hb.len.1.symm) (Nat.le_refl _) hn.nums hb.nums
  rw [bytesOf_nums, bytesOf_nums] at h
  exact h
set_option maxHeartbeats 8000000 in
theorem head_yes {W : World} {X : Nat → Prop} {A : Option Addr} {n c : Nat} {s : Bs} (hb : BytesX W X (.slice A n c) s) (hl : n ≤ 2000000000) (hne : s.take 8 = beginB.take s.length) : Calls Tryd.prog 52 #[.slice A n c] W (HeadEnd W (headH s)) := by
  obtain ⟨hn, hc⟩ := hb.len
  have hb0 := hb.sub (l := 0) (h := min n 8) (Nat.zero_le _) (Nat.min_le_left _ _)
  simp only [Nat.sub_zero, List.drop_zero] at hb0
  have hki0 : min (n : Int) 8 = ((min n 8 : Nat) : Int) := by omega
  have hkn0 : min n 8 ≤ n ∧ min n 8 ≤ 8 ∧ (n ≤ 8 → min n 8 = n) ∧ (8 ≤ n → min n 8 = 8) := by omega
  have htest := begin_test s (k := min n 8) (by rw [hn])
  obtain ⟨k, hk⟩ : ∃ k, min n 8 = k := ⟨_, rfl⟩
  rw [hk] at hb0 hki0 hkn0 htest
  have HB0 := Lib.hid hb0
  have hki := hki0
  have Hkn := Lib.hid hkn0
  have hkc : k ≤ c := by omega
  have hk8 : (k : Int) ≤ 8 := by omega
  rw [decide_eq_true hne] at htest
  have hR : headH s = tailH n (numH false 0 (s.drop k)) := by
    unfold headH
    rw [if_pos hne, hn]
    rcases Nat.le_or_ge s.length 8 with h | h
    · rw [List.drop_of_length_le h, List.drop_of_length_le (by omega)]
    · rw [show k = 8 by omega]
  rw [hR]
  obtain ⟨R0, hR0⟩ : ∃ x, numH false 0 (s.drop k) = x := ⟨_, rfl⟩
  rw [hR0]
  have HR0 := Lib.hid hR0
  have HB := Lib.hid hb
  have Hn := Lib.hid hn
  have hN : (n : Int) ≤ 2000000000 := by omega
  have hNn : n ≤ 2000000000 := hl
  have Hc := Lib.hid hc
  clear hb hb0 hn hki0 hkn0 hk hne hR hR0 hl hc
  go_enter Tryd.func52, Tryd.ntmps52
  go_wp2_with fail
  refine wp_region_tree (.q 0 (.q 1 (.q 4 (.q 5 (.br [2] (fun k => .br [3] (fun k => .q 6 (.done)))))))) (fun w' => True) rfl (by kernel_rfl) (by kernel_rfl) (fun c a d v w h => by cases d <;> exact h) trivial ?_
  refine tree_q (v := ?v1_5) (some 12) rfl rfl rfl ?q1_5 ?h1_5; (case q1_5 => (intro w' hS; skip; first | (go_simp; done) | (go_simp; rfl))); (try simp only [PU])
  refine tree_q (v := ?v1_4) (some 13) rfl rfl rfl ?q1_4 ?h1_4; (case q1_4 => (intro w' hS; skip; first | (go_simp; done) | (go_simp; rfl))); (try simp only [PU])
  refine tree_q (v := ?v1_3) (some 16) rfl rfl rfl ?q1_3 ?h1_3; (case q1_3 => (intro w' hS; skip; first | (go_simp; done) | (go_simp; rfl))); (try simp only [PU])
  refine tree_q (v := ?v1_2) (some 17) rfl rfl rfl ?q1_2 ?h1_2; (case q1_2 => (intro w' hS; skip; first | (go_simp; done) | (go_simp; rfl))); (try simp only [PU])
  refine tree_e rfl rfl ?_
  go_must (refine ev_sub_h (h := k) rfl rfl byteT38 rfl rfl hkc ?_)
  (try simp only [PU])
  refine wpList_nil ⟨trivial, ?_⟩
  refine tree_e rfl rfl ?_
  go_must (refine ev_conv_bs rfl rfl Tryd.underlying38 Tryd.underlying5 Tryd.underlying9 (bs := s.take k) rfl (HB0.out.keep (X' := X) (Keeps.refl Nob W).drew (fun _ _ _ => id) (fun _ _ h => h)) ?_)
  (try simp only [PU])
  refine wpList_nil ⟨trivial, ?_⟩
  refine tree_q (v := ?v1_1) (some 18) rfl rfl rfl ?q1_1 ?h1_1; (case q1_1 => (intro w' hS; skip; first | (go_simp; done) | (go_simp; rfl))); (try simp only [PU])
  refine tree_nil ?_
  go_upto_region 5 with fail
  go_loopg [7, 3] (n - k) (fun K atv mv wr => ∃ (i m : Nat) (any : Bool) (r : Bs), atv = .int .i64 i ∧ mv = .int .i64 m ∧ r.length ≤ K ∧ i + r.length = n ∧ k ≤ i ∧ m ≤ 1000000 ∧ Hid ((any = true ↔ k < i) ∧ s.drop i = r ∧ (any = true → (s.getD k 0 = 48 ↔ m = 0)) ∧ (any = false → m = 0)) ∧ Hid (numH any m r = R0) ∧ Hid (Keeps Nob W wr))
  case atStart => exact ⟨k, 0, false, s.drop k, rfl, rfl, by rw [List.length_drop, ← Hn.out]; omega, by rw [List.length_drop, ← Hn.out]; have := Hkn.out; omega, Nat.le_refl _, by omega, Lib.hid ⟨by simp, rfl, by simp, fun _ => rfl⟩, HR0, Lib.hid (Keeps.refl Nob W).drew⟩
  case round =>
    obtain ⟨i, m, any, r, rfl, rfl, hl, hi, hki, hm, Hr, HE, HK⟩ := hrel
    rcases r with _ | ⟨ch, q⟩
    · have e : i = n := by simpa using hi
      subst e
      have HR := Lib.hid (show R0 = some (any, m, []) by rw [← HE.out]; unfold numH; rfl)
      clear hi hl HE
      go_wp2
      (try simp only [Exit.inBlock, Exit.then])
      refine bodyPost_ret (results_tmp4 rfl _ _ _) rfl ?_
      rw [HR.out, tailH_nil]
      exact ⟨rfl, HK.out⟩
    · obtain ⟨hin, hget, hdrop⟩ := drop_cons Hr.out.2.1
      rw [← Hn.out] at hin
      simp only [List.length_cons] at hi hl
      obtain ⟨b, o, rfl, hX, hcell⟩ := (HB.out.keep (X' := X) HK.out (fun _ _ _ => id) (fun _ _ h => h)).at (by omega)
      have ci := hcell i hin
      rw [hget] at ci
      unfold byteV at ci
      have hini : (i : Int) < n := by omega
      have hkii : (k : Int) ≤ i := by omega
      obtain ⟨cv, hcv⟩ : ∃ x : Int, (ch.toNat : Int) = x := ⟨_, rfl⟩
      have hcb : 0 ≤ cv ∧ cv ≤ 255 := by have := ch.toNat_lt; omega
      rcases hdg : isDigit ch with _ | _
      · have hrange := notdig ch hdg
        rw [hcv] at ci hrange
        have HR := Lib.hid (show R0 = some (any, m, ch :: q) by rw [← HE.out]; unfold numH; rw [hdg]; rfl)
        have hie : ((i : Int) == n) = false := beq_eq_false_iff_ne.2 (by omega)
        obtain ⟨L, hL⟩ : ∃ L, min n (i + 4) - i = L := ⟨_, rfl⟩
        obtain ⟨H, hH⟩ : ∃ H, min n (i + 4) = H := ⟨_, rfl⟩
        have hmin : min (n : Int) ((i : Int) + 4) = (H : Int) := by omega
        have hsub : (HB.out.keep (X' := X) HK.out (fun _ _ _ => id) (fun _ _ h => h)).sub (l := i) (h := H) (by omega) (by omega) = (HB.out.keep (X' := X) HK.out (fun _ _ _ => id) (fun _ _ h => h)).sub (l := i) (h := H) (by omega) (by omega) := rfl
        have hsb := (HB.out.keep (X' := X) HK.out (fun _ _ _ => id) (fun _ _ h => h)).sub (l := i) (h := H) (by omega) (by omega)
        rw [hH] at hL
        have Hih := Lib.hid (show i ≤ H ∧ H ≤ c ∧ L ≤ c - i ∧ (H - i = L) by have := Hc.out; omega)
        have hLb : ((L : Int) == 4) = decide (4 ≤ (ch :: q).length) := by
          rw [Bool.beq_eq_decide_eq, decide_eq_decide]
          simp only [List.length_cons]
          omega
        have htk : (s.drop i).take (H - i) = (ch :: q).take 4 := by
          rw [Hr.out.2.1, hL]
          rcases Nat.le_or_ge 4 (ch :: q).length with h4 | h4
          · rw [show L = 4 by simp only [List.length_cons] at h4; omega]
          · rw [List.take_of_length_le (by simp only [List.length_cons] at h4 ⊢; omega), List.take_of_length_le h4]
        rw [htk, hL] at hsb
        have Hsb := Lib.hid hsb
        have HL := Lib.hid hLb
        have Hcnt := Lib.hid (show n - (ch :: q).length + 4 = i + 4 by simp only [List.length_cons]; omega)
        cases any
        · have hik : i = k := by
            have := Hr.out.1
            have h' : ¬ k < i := fun h => by have := this.2 h; cases this
            omega
          subst hik
          clear hi hl HE hget hdrop hcell hdg hcv hsub hsb hL hLb htk hH hX
          rcases hrange with hr | hr
          · skip
            go_wp2_with (first
              | ((with_reducible refine at_dst (N := 74) rfl ?_); go_must (refine ev_sub (l := i) (h := H) rfl rfl byteT38 rfl rfl rfl Hih.out.1 Hih.out.2.1 ?_; rw [Hih.out.2.2.2]); (try simp only [PU]))
            )
            (try simp only [Exit.inBlock, Exit.then])
            refine bodyPost_ret (results_tmp4 rfl _ _ _) rfl ?_
            rw [HR.out, tailH_none _ _ _ (by simp)]
            exact ⟨rfl, HK.out⟩
          · skip
            go_wp2_with (first
              | ((with_reducible refine at_dst (N := 74) rfl ?_); go_must (refine ev_sub (l := i) (h := H) rfl rfl byteT38 rfl rfl rfl Hih.out.1 Hih.out.2.1 ?_; rw [Hih.out.2.2.2]); (try simp only [PU]))
            )
            (try simp only [Exit.inBlock, Exit.then])
            refine bodyPost_ret (results_tmp4 rfl _ _ _) rfl ?_
            rw [HR.out, tailH_none _ _ _ (by simp)]
            exact ⟨rfl, HK.out⟩
        · have hik : ((i : Int) == k) = false := beq_eq_false_iff_ne.2 (by have := Hr.out.1.1 rfl; omega)
          rcases hpre : ((ch :: q).take 4).isPrefixOf neckB with _ | _
          · have Hpre := Lib.hid hpre
            clear hi hl HE hget hdrop hcell hdg hcv hsub hsb hL hLb htk hH hX hpre
            rcases hrange with hr | hr
            · skip
              go_wp2_with (first
                | ((with_reducible refine at_dst (N := 74) rfl ?_); go_must (refine ev_sub (l := i) (h := H) rfl rfl byteT38 rfl rfl rfl Hih.out.1 Hih.out.2.1 ?_; rw [Hih.out.2.2.2]); (try simp only [PU]))
                | ((with_reducible refine at_dst (N := 79) rfl ?_); go_must (refine ev_ung rfl ?_; refine ev_slice (cs := #[.int .u8 13, .int .u8 10, .int .u8 13, .int .u8 10]) (t := 5) (n := 4) (c := 4) rfl (by first | (go_simp; done) | (go_simp; rfl)) ?_; intro gk w10 hgk hlk hbk hkk)
                   have Hbk := Lib.hid hbk
                   have Hkk := Lib.hid hkk
                   have Hgk := Lib.hid hgk
                   clear hbk hkk hgk
                   (try simp only [PU]))
                | ((with_reducible refine at_dst (N := 80) rfl ?_); go_must (refine ev_ung rfl ?_; refine ev_conv_same rfl rfl byteT38 Tryd.underlying5 rfl Hbk.out ?_; intro w12 hbk2 hkk2)
                   have Hkk := Lib.hid (Hkk.out.trans hkk2 (fun i hi e => by have := Hgk.out; omega))
                   have Hbk := Lib.hid hbk2
                   clear hbk2 hkk2
                   (try simp only [PU]))
                | (go_at_call 89; go_must (refine (neck_prefix Hbk.out (Hsb.out.keep (X' := X) Hkk.out (fun _ _ _ => id) (fun _ _ h => h))).mono ?_; rintro e w11 ⟨rfl, rfl⟩; rw [Hpre.out]); (try simp only [PU]))
              )
              (try simp only [Exit.inBlock, Exit.then])
              refine bodyPost_ret (results_tmp4 rfl _ _ _) rfl ?_
              rw [HR.out]
              refine ⟨?_, HK.out.then Hkk.out⟩
              have hpp := Hpre.out
              simp only [tailH, hpp, HL.out, Hcnt.out]
              rfl
            · skip
              go_wp2_with (first
                | ((with_reducible refine at_dst (N := 74) rfl ?_); go_must (refine ev_sub (l := i) (h := H) rfl rfl byteT38 rfl rfl rfl Hih.out.1 Hih.out.2.1 ?_; rw [Hih.out.2.2.2]); (try simp only [PU]))
                | ((with_reducible refine at_dst (N := 79) rfl ?_); go_must (refine ev_ung rfl ?_; refine ev_slice (cs := #[.int .u8 13, .int .u8 10, .int .u8 13, .int .u8 10]) (t := 5) (n := 4) (c := 4) rfl (by first | (go_simp; done) | (go_simp; rfl)) ?_; intro gk w10 hgk hlk hbk hkk)
                   have Hbk := Lib.hid hbk
                   have Hkk := Lib.hid hkk
                   have Hgk := Lib.hid hgk
                   clear hbk hkk hgk
                   (try simp only [PU]))
                | ((with_reducible refine at_dst (N := 80) rfl ?_); go_must (refine ev_ung rfl ?_; refine ev_conv_same rfl rfl byteT38 Tryd.underlying5 rfl Hbk.out ?_; intro w12 hbk2 hkk2)
                   have Hkk := Lib.hid (Hkk.out.trans hkk2 (fun i hi e => by have := Hgk.out; omega))
                   have Hbk := Lib.hid hbk2
                   clear hbk2 hkk2
                   (try simp only [PU]))
                | (go_at_call 89; go_must (refine (neck_prefix Hbk.out (Hsb.out.keep (X' := X) Hkk.out (fun _ _ _ => id) (fun _ _ h => h))).mono ?_; rintro e w11 ⟨rfl, rfl⟩; rw [Hpre.out]); (try simp only [PU]))
              )
              (try simp only [Exit.inBlock, Exit.then])
              refine bodyPost_ret (results_tmp4 rfl _ _ _) rfl ?_
              rw [HR.out]
              refine ⟨?_, HK.out.then Hkk.out⟩
              have hpp := Hpre.out
              simp only [tailH, hpp, HL.out, Hcnt.out]
              rfl
          · have Hpre := Lib.hid hpre
            clear hi hl HE hget hdrop hcell hdg hcv hsub hsb hL hLb htk hH hX hpre
            rcases hrange with hr | hr
            · skip
              go_wp2_with (first
                | ((with_reducible refine at_dst (N := 74) rfl ?_); go_must (refine ev_sub (l := i) (h := H) rfl rfl byteT38 rfl rfl rfl Hih.out.1 Hih.out.2.1 ?_; rw [Hih.out.2.2.2]); (try simp only [PU]))
                | ((with_reducible refine at_dst (N := 79) rfl ?_); go_must (refine ev_ung rfl ?_; refine ev_slice (cs := #[.int .u8 13, .int .u8 10, .int .u8 13, .int .u8 10]) (t := 5) (n := 4) (c := 4) rfl (by first | (go_simp; done) | (go_simp; rfl)) ?_; intro gk w10 hgk hlk hbk hkk)
                   have Hbk := Lib.hid hbk
                   have Hkk := Lib.hid hkk
                   have Hgk := Lib.hid hgk
                   clear hbk hkk hgk
                   (try simp only [PU]))
                | ((with_reducible refine at_dst (N := 80) rfl ?_); go_must (refine ev_ung rfl ?_; refine ev_conv_same rfl rfl byteT38 Tryd.underlying5 rfl Hbk.out ?_; intro w12 hbk2 hkk2)
                   have Hkk := Lib.hid (Hkk.out.trans hkk2 (fun i hi e => by have := Hgk.out; omega))
                   have Hbk := Lib.hid hbk2
                   clear hbk2 hkk2
                   (try simp only [PU]))
                | (go_at_call 89; go_must (refine (neck_prefix Hbk.out (Hsb.out.keep (X' := X) Hkk.out (fun _ _ _ => id) (fun _ _ h => h))).mono ?_; rintro e w11 ⟨rfl, rfl⟩; rw [Hpre.out]); (try simp only [PU]))
              )
              (try simp only [Exit.inBlock, Exit.then])
              refine bodyPost_ret (results_tmp4 rfl _ _ _) rfl ?_
              rw [HR.out]
              refine ⟨?_, HK.out.then Hkk.out⟩
              have hpp := Hpre.out
              simp only [tailH, hpp, HL.out, Hcnt.out]
              rfl
            · skip
              go_wp2_with (first
                | ((with_reducible refine at_dst (N := 74) rfl ?_); go_must (refine ev_sub (l := i) (h := H) rfl rfl byteT38 rfl rfl rfl Hih.out.1 Hih.out.2.1 ?_; rw [Hih.out.2.2.2]); (try simp only [PU]))
                | ((with_reducible refine at_dst (N := 79) rfl ?_); go_must (refine ev_ung rfl ?_; refine ev_slice (cs := #[.int .u8 13, .int .u8 10, .int .u8 13, .int .u8 10]) (t := 5) (n := 4) (c := 4) rfl (by first | (go_simp; done) | (go_simp; rfl)) ?_; intro gk w10 hgk hlk hbk hkk)
                   have Hbk := Lib.hid hbk
                   have Hkk := Lib.hid hkk
                   have Hgk := Lib.hid hgk
                   clear hbk hkk hgk
                   (try simp only [PU]))
                | ((with_reducible refine at_dst (N := 80) rfl ?_); go_must (refine ev_ung rfl ?_; refine ev_conv_same rfl rfl byteT38 Tryd.underlying5 rfl Hbk.out ?_; intro w12 hbk2 hkk2)
                   have Hkk := Lib.hid (Hkk.out.trans hkk2 (fun i hi e => by have := Hgk.out; omega))
                   have Hbk := Lib.hid hbk2
                   clear hbk2 hkk2
                   (try simp only [PU]))
                | (go_at_call 89; go_must (refine (neck_prefix Hbk.out (Hsb.out.keep (X' := X) Hkk.out (fun _ _ _ => id) (fun _ _ h => h))).mono ?_; rintro e w11 ⟨rfl, rfl⟩; rw [Hpre.out]); (try simp only [PU]))
              )
              (try simp only [Exit.inBlock, Exit.then])
              refine bodyPost_ret (results_tmp4 rfl _ _ _) rfl ?_
              rw [HR.out]
              refine ⟨?_, HK.out.then Hkk.out⟩
              have hpp := Hpre.out
              simp only [tailH, hpp, HL.out, Hcnt.out]
              rfl
      · obtain ⟨hd0, hd1, hd2⟩ := dig_int ch hdg
        rw [hcv] at ci hd0 hd1 hd2
        have HS := Lib.hid (show (if (any = true ∧ m = 0) ∨ 1000000 < m * 10 + digB ch then none else numH true (m * 10 + digB ch) q) = R0 by rw [← HE.out]; conv => rhs; unfold numH; rw [if_pos hdg])
        have Hd := Lib.hid (show ((m * 10 + digB ch : Nat) : Int) = (m : Int) * 10 + (cv - 48) by rw [hd2]; rfl)
        have Hq := Lib.hid (And.intro hget hdrop)
        have Hdz := Lib.hid (dig_zero ch hdg)
        have hmi : (m : Int) ≤ 1000000 := by omega
        by_cases hmx : 1000000 < (m : Int) * 10 + (cv - 48)
        · have HR := Lib.hid (show R0 = none by rw [← HS.out, if_pos (.inr (by have := Hd.out; omega))])
          clear hi hl HE hget hdrop hcell hdg hcv hX hd2
          go_wp2
          (try simp only [Exit.inBlock, Exit.then])
          refine bodyPost_ret (results_tmp4 rfl _ _ _) rfl ?_
          rw [HR.out]
          exact ⟨rfl, HK.out⟩
        · cases any
          · have hik : i = k := by
              have := Hr.out.1
              have h' : ¬ k < i := fun h => by have := this.2 h; cases this
              omega
            have hm0 : m = 0 := Hr.out.2.2.2 rfl
            subst hik
            subst hm0
            have HR := Lib.hid (show numH true (0 * 10 + digB ch) q = R0 by rw [← HS.out, if_neg (by have := Hd.out; simp; omega)])
            clear HE hget hdrop hcell hdg hcv hX hd2
            go_wp2
            go_roundg (n - i - 1)
            case measure => omega
            case rel => exact ⟨i + 1, 0 * 10 + digB ch, true, q, by rfl, by rw [Hd.out]; congr 1; omega, by omega, by omega, by omega, by have := Hd.out; omega, Lib.hid ⟨by simp, Hq.out.2, fun _ => by rw [Hq.out.1, Nat.zero_mul, Nat.zero_add]; exact Hdz.out.symm, by simp⟩, HR, HK⟩
          · have hkli : (k : Int) < i := by have := Hr.out.1.1 rfl; omega
            have ck := hcell k (by omega)
            unfold byteV at ck
            have Hz := Lib.hid (Hr.out.2.2.1 rfl)
            obtain ⟨d0, hd0'⟩ : ∃ d, s.getD k 0 = d := ⟨_, rfl⟩
            rw [hd0'] at ck
            have Hd0 := Lib.hid hd0'
            obtain ⟨dv, hdv⟩ : ∃ x : Int, (d0.toNat : Int) = x := ⟨_, rfl⟩
            rw [hdv] at ck
            by_cases h48 : dv = 48
            · have hm0 : m = 0 := Hz.out.1 (by rw [hd0']; exact UInt8.toNat_inj.1 (by show d0.toNat = 48; omega))
              have HR := Lib.hid (show R0 = none by rw [← HS.out, if_pos (.inl ⟨rfl, hm0⟩)])
              clear hi hl HE hget hdrop hcell hdg hcv hX hd2 hd0' hdv
              subst h48
              go_wp2
              (try simp only [Exit.inBlock, Exit.then])
              refine bodyPost_ret (results_tmp4 rfl _ _ _) rfl ?_
              rw [HR.out]
              exact ⟨rfl, HK.out⟩
            · have h48b : (dv == 48) = false := beq_eq_false_iff_ne.2 h48
              have hm0 : m ≠ 0 := fun e => h48 (by have := Hz.out.2 e; rw [hd0'] at this; subst this; exact hdv.symm)
              have HR := Lib.hid (show numH true (m * 10 + digB ch) q = R0 by rw [← HS.out, if_neg (by have := Hd.out; simp; omega)])
              have Hm0 := Lib.hid hm0
              have Hz2 := Lib.hid (show ¬ s.getD k 0 = 48 from fun e => hm0 (Hz.out.1 e))
              clear HE hget hdrop hcell hdg hcv hX hd2 hd0' hdv hm0
              go_wp2
              go_roundg (n - i - 1)
              case measure => omega
              case rel => exact ⟨i + 1, m * 10 + digB ch, true, q, by rfl, by rw [Hd.out], by omega, by omega, by omega, by have := Hd.out; omega, Lib.hid ⟨by simp; omega, Hq.out.2, fun _ => ⟨fun h => absurd h Hz2.out, fun h => absurd h (by have := Hm0.out; omega)⟩, by simp⟩, HR, HK⟩
end Go.Proofs.WV

/-
  The head of a frame, whole; a copy of bytes (slices.Clone), room for bytes (slices.Grow), in memory. Condition: at most two thousand million bytes.
-/
namespace Go.Proofs.WV
open Go.RowKit Go.Proofs.KL Go.Proofs.WM
set_option maxRecDepth 100000
set_option linter.unusedSimpArgs false
set_option linter.unusedVariables false

theorem head52 {W : World} {X : Nat → Prop} {A : Option Addr} {n c : Nat} {s : Bs} (hb : BytesX W X (.slice A n c) s) (hl : n ≤ 2000000000) : Calls Tryd.prog 52 #[.slice A n c] W (HeadEnd W (headH s)) := by
  by_cases h : s.take 8 = beginB.take s.length
  · exact head_yes hb hl h
  · have e : headH s = (0, 0, false, false) := by unfold headH; rw [if_neg h]
    rw [e]
    exact head_no hb h
def growRen : Go.Shelf.Ren := ⟨fun | 4 => 88 | n => n, fun | 22 => 38 | 25 => 5 | n => n, fun | n => n⟩
theorem laysGrow : Go.Proofs.Lays8.n4 Tryd.prog growRen := {
  mixed := by kernel_rfl
  f4 := ⟨Tryd.f88.name, by decide, Tryd.func88.trans (congrArg some (by kernel_rfl))⟩
  t0 := Tryd.underlying0
  a0 := Tryd.isAgg0
  z0 := Tryd.sizeOf0
  v0 := Tryd.zeroValue0
  t3 := Tryd.underlying3
  a3 := Tryd.isAgg3
  z3 := Tryd.sizeOf3
  v3 := Tryd.zeroValue3
  t4 := Tryd.underlying4
  a4 := Tryd.isAgg4
  z4 := Tryd.sizeOf4
  v4 := Tryd.zeroValue4
  t9 := Tryd.underlying9
  a9 := Tryd.isAgg9
  z9 := Tryd.sizeOf9
  v9 := Tryd.zeroValue9
  t20 := Tryd.underlying20
  a20 := Tryd.isAgg20
  z20 := Tryd.sizeOf20
  v20 := Tryd.zeroValue20
  t22 := Tryd.underlying38
  a22 := Tryd.isAgg38
  z22 := Tryd.sizeOf38
  v22 := Tryd.zeroValue38 }
/-- What makes a new row of bytes. -/
def NewB (w : World) (bs : Bs) : Ending → World → Prop := fun e w' => (∃ v, e = .returned v ∧ OwnB w' w.heap.size v bs) ∧ Keeps Nob w w'
theorem grow88 (n : Nat) (hn : n ≤ 4000000000) (w : World) : Calls Tryd.prog 88 #[.slice none 0 0, .int .i64 n] w (NewB w []) := by
  by_cases h0 : n = 0
  · subst h0
    refine (Any8.slices_Grow_room laysGrow none 0 0 0 w (Nat.le_refl _) (by decide) (by decide) (Nat.le_refl _)).mono ?_
    rintro e w' ⟨rfl, rfl⟩
    exact ⟨⟨_, rfl, .inl ⟨rfl, rfl⟩⟩, Keeps.refl _ _⟩
  · obtain ⟨i, hi, hz⟩ := Option.map_eq_some_iff.1 byteT38.info
    simp only [Prod.mk.injEq] at hz
    obtain ⟨hz1, hz2, hz3⟩ := hz
    refine (Any8.slices_Grow_grow laysGrow i (.int .u8 0) hi hz1 (by omega) none 0 0 n [] w (Nat.le_refl _) (by omega) (by rw [hz3]; omega) (by omega) (by simp) (fun _ => rfl) (fun a h => by cases h)).mono ?_
    rintro e w' ⟨rfl, rfl⟩
    have hge := grownCap_ge w n 0 5
    have hle := grownCap_le_maxLen w n 0 5 (by unfold maxLen; omega)
    refine ⟨⟨_, rfl, .inr ⟨w.heap.size, grownCap w n 0 5, _, (0, 0), by rw [Nat.zero_add]; rfl, Nat.le_refl _, blk_new w.drew _, .inl (Nat.zero_le _), Nat.zero_le _, hle, ?_, by simp⟩⟩, grown_keeps _⟩
    have hzc : ∀ m, (Builtin.zeroCells (Value.int .u8 0).cells m).size = m := fun m => by simp [Builtin.zeroCells, Value.cells]
    rw [Nat.zero_add, Nat.sub_zero]
    simp only [Array.size_append, List.size_toArray, List.length_nil, hzc]
    show 0 + n + (grownCap w n 0 5 - n) = _
    omega
end Go.Proofs.WV

/-
  A copy of bytes (slices.Clone), two slices of bytes behind one another (slices.Concat), in memory. Condition: at most two thousand million bytes each.
-/
namespace Go.Proofs.WV
open Go.RowKit Go.Proofs.KL Go.Proofs.WM
set_option maxRecDepth 100000
set_option linter.unusedSimpArgs false
set_option linter.unusedVariables false

theorem sl_nil (n c : Nat) (w : World) : (binOp .eql 38 (.slice none n c) (.slice none 0 0)).run Tryd.prog w = .ok (.bool true) w := by kernel_rfl
theorem sl_some (b o : Nat) (sp : Option Nat) (n c : Nat) (w : World) : (binOp .eql 38 (.slice (some ⟨b, o, sp⟩) n c) (.slice none 0 0)).run Tryd.prog w = .ok (.bool false) w := by kernel_rfl
theorem OwnB.weaken {w : World} {b b' : Nat} {v : Value} {bs : Bs} (h : OwnB w b v bs) (hb : b' ≤ b) : OwnB w b' v bs := by
  rcases h with h | ⟨g, cap, cur, fz, e, hg, h⟩
  · exact .inl h
  · exact .inr ⟨g, cap, cur, fz, e, Nat.le_trans hb hg, h⟩
set_option maxHeartbeats 2000000 in
theorem clone53 {W : World} {X : Nat → Prop} {A : Option Addr} {n c : Nat} {s : Bs} (hb : BytesX W X (.slice A n c) s) (hl : n ≤ 2000000000) : Calls Tryd.prog 53 #[.slice A n c] W (NewB W s) := by
  obtain ⟨hn, hc⟩ := hb.len
  have HB := Lib.hid hb
  have Hn := Lib.hid hn
  cases A with
  | none =>
    have hs : s = [] := by
      rcases Nat.eq_zero_or_pos n with h0 | h0
      · exact List.eq_nil_of_length_eq_zero (by omega)
      · obtain ⟨b, o, e, -⟩ := hb.at h0; cases e
    have Hs := Lib.hid hs
    have hnil := sl_nil n c
    clear hb hn hs
    go_enter Tryd.func53, Tryd.ntmps53
    go_wp2
    go_ret
    exact ⟨⟨_, rfl, .inl ⟨rfl, Hs.out⟩⟩, Keeps.refl _ _⟩
  | some ad =>
    obtain ⟨b, o, sp⟩ := ad
    have hnil := sl_some b o sp n c
    clear hb hn
    go_enter Tryd.func53, Tryd.ntmps53
    go_wp2_with (first
      | ((with_reducible refine at_dst (N := 5) rfl ?_); go_must (refine ev_slice (cs := #[]) (t := 5) (n := 0) (c := 0) rfl (by first | (go_simp; done) | (go_simp; rfl)) ?_; intro g w1 hg hlg hbg hkg)
         have Hbg := Lib.hid hbg
         have Hkg := Lib.hid hkg
         have Hg := Lib.hid hg
         clear hbg hkg hg hlg
         (try simp only [PU]))
      | ((with_reducible refine at_dst (N := 7) rfl ?_); go_must (refine ev_app_sl rfl rfl byteT38 (base := W.heap.size) (bs := []) rfl (.inr ⟨g, 0, #[], (0, 0), rfl, Hg.out, Hbg.out, .inl (Nat.zero_le _), Nat.zero_le _, by decide, rfl, rfl⟩) rfl (news := s) Hn.out.symm (HB.out.keep (X' := X) Hkg.out (fun _ _ _ => id) (fun _ _ h => h)).news (by simp only [List.length_nil]; omega) Hkg.out.size ?_; intro v' w2 ho2 ha2; obtain ⟨nA, nc, hv'⟩ := ho2.slice; subst hv')
         have Ho2 := Lib.hid ho2
         have Ha2 := Lib.hid ha2
         clear ho2 ha2
         (try simp only [PU]))
    )
    go_ret
    refine ⟨⟨_, rfl, Ho2.out⟩, ?_⟩
    exact Hkg.out.trans Ha2.out.keep (fun i hi e => by have := Hg.out; have e' : i = g := Option.some.inj e; omega)
def catTo (s t : Bs) (i : Nat) : Bs := if i = 0 then [] else if i = 1 then s else s ++ t
set_option maxHeartbeats 4000000 in
theorem concat51 {W : World} {X Y : Nat → Prop} {A B : Option Addr} {n c m d g : Nat} {s t : Bs} (hg : W.heap[g]? = some (.cells #[.slice A n c, .slice B m d] 38 (0, 0))) (hs : BytesX W X (.slice A n c) s) (ht : BytesX W Y (.slice B m d) t) (hl : n ≤ 1000000000) (hl2 : m ≤ 1000000000) :
    Calls Tryd.prog 51 #[.slice (some ⟨g, 0, none⟩) 2 2] W (NewB W (s ++ t)) := by
  have h0 : W.cell? ⟨g, 0, none⟩ = some (.slice A n c) := (blk_cell hg 0).trans rfl
  have h1 : W.cell? ⟨g, 1, none⟩ = some (.slice B m d) := (blk_cell hg 1).trans rfl
  have Hg := Lib.hid hg
  have HS := Lib.hid hs
  have HT := Lib.hid ht
  have Hns := Lib.hid hs.len.1
  have Hnt := Lib.hid ht.len.1
  have H88 := Lib.hid (fun (k : Nat) (hk : k ≤ 4000000000) w => grow88 k hk w)
  clear hg hs ht
  go_enter Tryd.func51, Tryd.ntmps51
  go_upto_region 3 with fail
  go_loopg [11, 3] 2 (fun K iv sv wr => ∃ i : Nat, iv = .int .i64 i ∧ i + K = 2 ∧ sv = .int .i64 ((if i = 0 then 0 else if i = 1 then n else n + m : Nat) : Int) ∧ Hid (wr = W))
  case atStart => exact ⟨0, rfl, rfl, rfl, Lib.hid rfl⟩
  case round =>
    obtain ⟨i, rfl, hik, rfl, Hw⟩ := hrel
    have hw : W = wr := Hw.out.symm
    subst hw
    rcases (show i = 0 ∨ i = 1 ∨ i = 2 by omega) with e | e | e
    · subst e
      simp only [if_true, Int.natCast_zero] at *
      go_wp2
      go_roundg 1
      case measure => omega
      case rel => exact ⟨1, rfl, rfl, by simp, Lib.hid rfl⟩
    · subst e
      simp only [if_neg (show ¬ (1 : Nat) = 0 by decide), if_true] at *
      go_wp2
      go_roundg 0
      case measure => omega
      case rel => exact ⟨2, rfl, rfl, by simp, Lib.hid rfl⟩
    · subst e
      simp only [if_neg (show ¬ (2 : Nat) = 0 by decide), if_neg (show ¬ (2 : Nat) = 1 by decide)] at *
      have hcast : ((n + m : Nat) : Int) = (n : Int) + m := by omega
      obtain ⟨k, hk⟩ : ∃ k, n + m = k := ⟨_, rfl⟩
      have Hk := Lib.hid (show k ≤ 4000000000 by omega)
      rw [hk]
      clear hcast hk
      go_upto_region 11 with (first
        | (go_at_call 88; go_must (refine (H88.out k Hk.out _).mono ?_; rintro e w1 ⟨⟨v1, rfl, ho1⟩, hk1⟩; obtain ⟨vA, vc, hv1⟩ := ho1.slice; subst hv1)
           have Ho1 := Lib.hid ho1
           have Hk1 := Lib.hid hk1
           clear ho1 hk1
           (try simp only [PU]))
      )
      clear h0 h1
      go_loopg [27, 6] 2 (fun K iv rv wr => ∃ (i : Nat) (R : Option Addr) (rn rc : Nat), iv = .int .i64 i ∧ i + K = 2 ∧ rv = .slice R rn rc ∧ Hid (OwnB wr W.heap.size (.slice R rn rc) (catTo s t i)) ∧ Hid (Keeps Nob W wr))
      case atStart => exact ⟨0, vA, 0, vc, rfl, rfl, rfl, Ho1, Hk1⟩
      case round =>
        obtain ⟨i, R, rn, rc, rfl, hik, rfl, HO, HK⟩ := hrel
        have h0 : wr.cell? ⟨g, 0, none⟩ = some (.slice A n c) := (blk_cell (HK.out.blk Hg.out id) 0).trans rfl
        have h1 : wr.cell? ⟨g, 1, none⟩ = some (.slice B m d) := (blk_cell (HK.out.blk Hg.out id) 1).trans rfl
        have HS2 := Lib.hid (HS.out.keep (X' := X) HK.out (fun _ _ _ => id) (fun _ _ h => h))
        have HT2 := Lib.hid (HT.out.keep (X' := Y) HK.out (fun _ _ _ => id) (fun _ _ h => h))
        rcases (show i = 0 ∨ i = 1 ∨ i = 2 by omega) with e | e | e
        · subst e
          go_wp2_with (first
            | ((with_reducible refine at_dst (N := 33) rfl ?_); go_must (refine ev_app_sl rfl rfl byteT38 (base := W.heap.size) (bs := []) rfl HO.out rfl (news := s) Hns.out.symm HS2.out.news (by simp only [List.length_nil]; omega) HK.out.size ?_; intro v' w3 ho2 ha2; obtain ⟨nA, nc, hv'⟩ := ho2.slice; subst hv')
               have Ho2 := Lib.hid ho2
               have Hk2 := Lib.hid (HK.out.trans ha2.keep (fun i hi e => by have := (HO.out.lt i e.symm).1; omega))
               clear ho2 ha2
               (try simp only [PU]))
          )
          go_roundg 1
          case measure => omega
          case rel => exact ⟨1, _, _, _, rfl, rfl, rfl, Ho2, Hk2⟩
        · subst e
          go_wp2_with (first
            | ((with_reducible refine at_dst (N := 33) rfl ?_); go_must (refine ev_app_sl rfl rfl byteT38 (base := W.heap.size) (bs := s) rfl HO.out rfl (news := t) Hnt.out.symm HT2.out.news (by have := Hns.out; omega) HK.out.size ?_; intro v' w3 ho2 ha2; obtain ⟨nA, nc, hv'⟩ := ho2.slice; subst hv')
               have Ho2 := Lib.hid ho2
               have Hk2 := Lib.hid (HK.out.trans ha2.keep (fun i hi e => by have := (HO.out.lt i e.symm).1; omega))
               clear ho2 ha2
               (try simp only [PU]))
          )
          go_roundg 0
          case measure => omega
          case rel => exact ⟨2, _, _, _, rfl, rfl, rfl, Ho2, Hk2⟩
        · subst e
          go_wp2
          go_ret
          exact ⟨⟨_, rfl, HO.out⟩, HK.out⟩
end Go.Proofs.WV

/-
  A row of slices of bytes that is one's own; a reader's frames in memory. No condition.
-/
namespace Go.Proofs.WV
open Go.RowKit Go.Proofs.KL Go.Proofs.WM
set_option linter.unusedVariables false

abbrev lz : Value := .slice none 0 0
/-- A row of slices of bytes: it, and what it holds, lies in blocks from 'lo' on; what it holds lies apart from it. -/
def OwnL (W : World) (lo : Nat) (v : Value) (ls : List Bs) : Prop :=
  ∃ xs : List Value, W.ownsRow lo 38 1 v ls.length xs ∧ ∀ i, i < ls.length → ∃ A n c, xs.getD i lz = .slice A n c ∧ BytesX W (fun b => lo ≤ b ∧ b < W.heap.size ∧ some b ≠ v.ownBlock) (.slice A n c) (ls.getD i [])
theorem OwnL.nil (W : World) (lo : Nat) : OwnL W lo (.slice none 0 0) [] := ⟨[], ⟨rfl, .inl ⟨rfl, rfl⟩⟩, fun i h => absurd h (Nat.not_lt_zero _)⟩
theorem ownsRow_lt {W : World} {lo n sz : Nat} {t : TypeId} {v : Value} {xs : List Value} (h : W.ownsRow lo t sz v n xs) : ∀ k, v.ownBlock = some k → lo ≤ k ∧ k < W.heap.size := fun k hk => by
  rcases h.2 with ⟨rfl, _⟩ | ⟨g, cap, cur, rfl, hb, hg, _⟩
  · cases hk
  · simp only [Value.ownBlock, Option.some.injEq] at hk; subst hk; exact ⟨hb, blk_lt hg⟩
theorem ownsRow_keep {M : Nat → Prop} {W W' : World} {lo n sz : Nat} {t : TypeId} {v : Value} {xs : List Value} (h : W.ownsRow lo t sz v n xs) (hk : Keeps M W W') (hn : ∀ k, v.ownBlock = some k → ¬ M k) : W'.ownsRow lo t sz v n xs := by
  obtain ⟨hl, h⟩ := h
  refine ⟨hl, ?_⟩
  rcases h with h | ⟨g, cap, cur, rfl, hb, hg, h⟩
  · exact .inl h
  · exact .inr ⟨g, cap, cur, rfl, hb, hk.blk hg (hn g rfl), h⟩
theorem OwnL.lt {W : World} {lo : Nat} {v : Value} {ls : List Bs} (h : OwnL W lo v ls) : ∀ k, v.ownBlock = some k → lo ≤ k ∧ k < W.heap.size := by
  obtain ⟨xs, hr, -⟩ := h
  exact ownsRow_lt hr
theorem OwnL.keep {M : Nat → Prop} {W W' : World} {lo : Nat} {v : Value} {ls : List Bs} (h : OwnL W lo v ls) (hk : Keeps M W W') (hM : ∀ b, b < W.heap.size → M b → b < lo) : OwnL W' lo v ls := by
  obtain ⟨xs, hr, hp⟩ := h
  refine ⟨xs, ownsRow_keep hr hk (fun k hk' hm => by have := ownsRow_lt hr k hk'; have := hM k this.2 hm; omega), fun i hi => ?_⟩
  obtain ⟨A, n, c, e, hb⟩ := hp i hi
  exact ⟨A, n, c, e, hb.keep hk (fun b hl hx hm => by have := hM b hl hm; have := hx.1; omega) (fun b hl hx => ⟨hx.1, Nat.lt_of_lt_of_le hl hk.size, hx.2.2⟩)⟩
theorem OwnL.slice {W : World} {lo : Nat} {v : Value} {ls : List Bs} (h : OwnL W lo v ls) : ∃ A c, v = .slice A ls.length c ∧ ls.length ≤ c := by
  obtain ⟨xs, hr, -⟩ := h
  rcases hr.2 with ⟨rfl, h0⟩ | ⟨g, cap, cur, rfl, _, _, hc, _⟩
  · exact ⟨none, 0, by rw [h0], by omega⟩
  · exact ⟨_, cap, rfl, hc⟩
/-- One slice of bytes more. -/
theorem OwnL.push {W w1 : World} {lo : Nat} {v v' : Value} {ls : List Bs} {xs : List Value} (hr : W.ownsRow lo 38 1 v ls.length xs) (hp : ∀ i, i < ls.length → ∃ A n c, xs.getD i lz = .slice A n c ∧ BytesX W (fun b => lo ≤ b ∧ b < W.heap.size ∧ some b ≠ v.ownBlock) (.slice A n c) (ls.getD i []))
    {A : Option Addr} {n c : Nat} {x : Bs} (hx : BytesX W (fun b => lo ≤ b ∧ b < W.heap.size ∧ some b ≠ v.ownBlock) (.slice A n c) x) (hr1 : w1.ownsRow lo 38 1 v' (ls.length + 1) (xs ++ [.slice A n c])) (hk : Keeps (fun k => some k = v.ownBlock) W w1)
    (hrow : v'.ownBlock = v.ownBlock ∨ ∃ b, v'.ownBlock = some b ∧ W.heap.size ≤ b) : OwnL w1 lo v' (ls ++ [x]) := by
  have hxl : xs.length = ls.length := by have := hr.1; omega
  have keep : ∀ {A n c y}, BytesX W (fun b => lo ≤ b ∧ b < W.heap.size ∧ some b ≠ v.ownBlock) (.slice A n c) y → BytesX w1 (fun b => lo ≤ b ∧ b < w1.heap.size ∧ some b ≠ v'.ownBlock) (.slice A n c) y := fun h =>
    h.keep hk (fun b _ hb hm => hb.2.2 hm) (fun b hl hb => ⟨hb.1, Nat.lt_of_lt_of_le hl hk.size, fun e => by
      rcases hrow with e' | ⟨b', e', hb'⟩
      · exact hb.2.2 (by rw [e, e'])
      · rw [e'] at e; injection e with e; omega⟩)
  refine ⟨xs ++ [.slice A n c], by rw [List.length_append]; exact hr1, fun i hi => ?_⟩
  rw [List.length_append] at hi
  simp only [List.length_cons, List.length_nil] at hi
  by_cases hl : i < ls.length
  · obtain ⟨A', n', c', e, hb⟩ := hp i hl
    refine ⟨A', n', c', ?_, ?_⟩
    · rw [List.getD_eq_getElem?_getD, List.getElem?_append_left (by omega), ← List.getD_eq_getElem?_getD]; exact e
    · rw [List.getD_eq_getElem?_getD, List.getElem?_append_left hl, ← List.getD_eq_getElem?_getD]; exact keep hb
  · have e : i = ls.length := by omega
    subst e
    refine ⟨A, n, c, ?_, ?_⟩
    · rw [List.getD_eq_getElem?_getD, List.getElem?_append_right (by omega), hxl, Nat.sub_self]; rfl
    · rw [List.getD_eq_getElem?_getD, List.getElem?_append_right (Nat.le_refl _), Nat.sub_self]; exact keep hx
/-- A reader that is alive: what waits, in the block kb. -/
def FdX (W : World) (rb : Nat) (kb : Option Nat) (waits : Bs) (dead : Bool) : Prop :=
  ∃ A n c, W.heap[rb]? = some (.cells #[.slice A n c, .bool true, .bool dead] 41 (0, 0)) ∧ BytesX W (fun b => some b = kb) (.slice A n c) waits
theorem FdX.keep {M : Nat → Prop} {W W' : World} {rb : Nat} {kb : Option Nat} {waits : Bs} {dead : Bool} (h : FdX W rb kb waits dead) (hk : Keeps M W W') (hr : ¬ M rb) (hb : ∀ b, some b = kb → ¬ M b) : FdX W' rb kb waits dead := by
  obtain ⟨A, n, c, hblk, hx⟩ := h
  exact ⟨A, n, c, hk.blk hblk hr, hx.keep hk (fun b _ hx => hb b hx) (fun _ _ h => h)⟩
theorem headH_le (s : Bs) : (headH s).1 ≤ s.length + 4 ∧ (headH s).2.1 ≤ 1000000 := by
  unfold headH
  split
  · rcases hn : numH false 0 (s.drop 8) with _ | ⟨any, n, r⟩
    · exact ⟨Nat.zero_le _, Nat.zero_le _⟩
    · have h := (numH_suf hn (by omega)).1
      simp only [tailH]
      split
      · exact ⟨Nat.zero_le _, Nat.zero_le _⟩
      split
      · exact ⟨Nat.zero_le _, Nat.zero_le _⟩
      · exact ⟨by show s.length - r.length + 4 ≤ _; omega, h⟩
  · exact ⟨Nat.zero_le _, Nat.zero_le _⟩
theorem feedF_step (f : Nat) (out : List Bs) (w : Bs) : feedF (f + 1) out w = match frOf w (headH w) with
    | .bad => ⟨out, [], true⟩
    | .part => ⟨out, w, false⟩
    | .whole x r => feedF f (out ++ [x]) r := by
  rw [← frame_head]
  (conv => lhs; unfold feedF) <;> (cases frameB w <;> rfl)
end Go.Proofs.WV

/-
  Feed, by the program, in memory: a reader that is alive and goes on. Condition: at most a thousand million bytes wait.
-/
namespace Go.Proofs.WV
open Go.RowKit Go.Proofs.KL Go.Proofs.WM
set_option maxRecDepth 100000
set_option linter.unusedSimpArgs false
set_option linter.unusedVariables false

theorem info38b : (Tryd.prog.info? 38).map (fun i => (i.zero, i.size, i.bytes)) = some (some (.slice none 0 0), 1, 24) := by kernel_rfl
theorem infoS38 : ∃ i, Tryd.prog.info? 38 = some i ∧ i.size = 1 := by
  have h : (Tryd.prog.info? 38).map (·.size) = some 1 := by kernel_rfl
  obtain ⟨i, hi, hs⟩ := Option.map_eq_some_iff.1 h
  exact ⟨i, hi, hs⟩
theorem infoS4 : ∃ i, Tryd.prog.info? 4 = some i ∧ i.size = 1 := by
  have h : (Tryd.prog.info? 4).map (·.size) = some 1 := by kernel_rfl
  obtain ⟨i, hi, hs⟩ := Option.map_eq_some_iff.1 h
  exact ⟨i, hi, hs⟩
theorem ptr39_n (w : World) : (binOp .eql 39 (.pointer none) (.pointer none)).run Tryd.prog w = .ok (.bool true) w := by kernel_rfl
theorem ptr39_s (g : Nat) (w : World) : (binOp .eql 39 (.pointer (some ⟨g, 0, none⟩)) (.pointer none)).run Tryd.prog w = .ok (.bool false) w := by kernel_rfl
/-- What Feed comes to. -/
def FeedEnd (W0 : World) (rb : Nat) (F : Fed) (e : Ending) (w' : World) : Prop :=
  (∃ ov, e = .returned (.tuple #[ov, .int .i64 (if F.dead = true then 4 else 0)]) ∧ OwnL w' W0.heap.size ov F.out) ∧ (∃ kb, (∀ b, kb = some b → W0.heap.size ≤ b ∧ b < w'.heap.size) ∧ FdX w' rb kb F.waits F.dead) ∧ Keeps (· = rb) W0 w'
set_option maxHeartbeats 8000000 in
theorem feed21 {W : World} {rb : Nat} {kb : Option Nat} {ws bs : Bs} {X : Nat → Prop} {B : Option Addr} {m d : Nat} (h : FdX W rb kb ws false) (hb : BytesX W X (.slice B m d) bs) (hw : ws.length ≤ 999000000) (hm : m ≤ 1000000) :
    Calls Tryd.prog 21 #[.pointer (some ⟨rb, 0, none⟩), .slice B m d] W (FeedEnd W rb (feedB ws bs)) := by
  obtain ⟨A, n, c, hblk, hx⟩ := h
  obtain ⟨i38, hi38, hs38⟩ := infoS38
  obtain ⟨i4, hi4, hs4⟩ := infoS4
  have HI := Lib.hid (And.intro (And.intro hi38 hs38) (And.intro hi4 hs4))
  have hnil := ptr39_s rb
  have hmi : (m : Int) ≤ 1000000 := by omega
  have Hn := Lib.hid hx.len.1
  have Hm := Lib.hid hb.len.1
  have Hblk := Lib.hid hblk
  have HX := Lib.hid hx
  have HB := Lib.hid hb
  have Hrb := Lib.hid (blk_lt hblk)
  have Hw := Lib.hid hw
  have Hmm := Lib.hid hm
  have c0 : W.cell? ⟨rb, 0, none⟩ = some (.slice A n c) := (blk_cell hblk 0).trans rfl
  have c1 : W.cell? ⟨rb, 1, none⟩ = some (.bool true) := (blk_cell hblk 1).trans rfl
  have c2 : W.cell? ⟨rb, 2, none⟩ = some (.bool false) := (blk_cell hblk 2).trans rfl
  obtain ⟨R, hR⟩ : ∃ x, feedB ws bs = x := ⟨_, rfl⟩
  have HR := Lib.hid hR
  rw [hR]
  clear hblk hx hb hi38 hs38 hi4 hs4 hw hm hR
  go_enter Tryd.func21, Tryd.ntmps21
  go_wp2_with (first
    | ((with_reducible refine at_dst (N := 36) rfl ?_); go_must (refine ev_slice (cs := #[.slice A n c, .slice B m d]) (t := 38) (n := 2) (c := 2) rfl (by first | (go_simp; done) | (go_simp; rfl)) ?_; intro gt w1 hgt hlt hbt hkt)
       have Hbt := Lib.hid hbt
       have Hk1 := Lib.hid hkt
       clear hbt hkt hgt hlt c0 c1 c2
       (try simp only [PU]))
    | (go_at_call 51; go_must (refine (concat51 Hbt.out (HX.out.keep (X' := fun b => some b = kb) Hk1.out (fun _ _ _ => id) (fun _ _ h => h)) (HB.out.keep (X' := X) Hk1.out (fun _ _ _ => id) (fun _ _ h => h)) (by have := Hn.out; have := Hw.out; omega) (by have := Hmm.out; omega)).mono ?_; rintro e w2 ⟨⟨v2, rfl, ho2⟩, hk2⟩; obtain ⟨cA, cc, hv2⟩ := ho2.slice; subst hv2)
       have Ho2 := Lib.hid (OwnB.weaken ho2 Hk1.out.size)
       have Hk2 := Lib.hid (Hk1.out.trans hk2 (fun _ _ h => h))
       have Hbr := Lib.hid (Hk2.out.blk Hblk.out id)
       clear ho2 hk2
       generalize hL0 : (ws ++ bs).length = L0 at *
       have HL0 := Lib.hid hL0
       clear hL0
       (try simp only [PU]))
    | ((with_reducible refine at_store (t := 38) rfl ?_); go_must (refine ev_store (cs' := #[.slice cA L0 cc, .bool true, .bool false]) rfl rfl rfl rfl rfl rfl HI.out.1.1 HI.out.1.2 rfl Hbr.out (Nat.le_of_ble_eq_true rfl) rfl ?_; intro w3 hb3 hk3)
       have Hbr3 := Lib.hid hb3
       have Ho3 := Lib.hid (Ho2.out.keep hk3 (fun k hk e => by have := (Ho2.out.lt k hk).1; have := Hrb.out; omega))
       have Hk3 := Lib.hid (show Keeps (· = rb) W w3 from Hk2.out.any.trans hk3 (fun _ _ h => h))
       clear hb3 hk3
       (try simp only [PU]))
  )
  obtain ⟨ws0, hws0⟩ : ∃ x, ws ++ bs = x := ⟨_, rfl⟩
  have HR0 := Lib.hid (show feedF (ws0.length + 1) [] ws0 = R by rw [← hws0]; exact HR.out)
  have hl0 : ws0.length ≤ 1000000000 := by rw [← hws0, List.length_append]; have := Hw.out; have := Hm.out; have := Hmm.out; omega
  rw [hws0] at Ho3
  have hL : L0 = ws0.length := by rw [← hws0, HL0.out]
  have Hbr3 := Lib.hid (hL ▸ Hbr3.out : w3.heap[rb]? = some (.cells #[.slice cA ws0.length cc, .bool true, .bool false] 41 (0, 0)))
  have Ho3 := Lib.hid (hL ▸ Ho3.out : OwnB w3 W.heap.size (.slice cA ws0.length cc) ws0)
  clear hL
  obtain ⟨kc, hkc⟩ : ∃ x, (Value.slice cA ws0.length cc).ownBlock = x := ⟨_, rfl⟩
  have HX3 := Lib.hid (show BytesX w3 (fun b => some b = kc) (.slice cA ws0.length cc) ws0 from (hkc ▸ Ho3.out.bytes.keep (X' := fun b => some b = (Value.slice cA ws0.length cc).ownBlock) (Keeps.refl Nob w3) (fun _ _ _ => id) (fun b _ e => e.symm)))
  have Hkc := Lib.hid (show ∀ b, kc = some b → W.heap.size ≤ b ∧ b < w3.heap.size from fun b e => Ho3.out.lt b (hkc.trans e))
  clear hws0 hkc HR
  go_loopg [6] ws0.length (fun K ov wr => ∃ (oA : Option Addr) (oc : Nat) (A' : Option Addr) (c' f : Nat) (out : List Bs) (r : Bs), ov = .slice oA out.length oc ∧ r.length ≤ K ∧ r.length ≤ 1000000000 ∧ out.length + r.length ≤ 1000000000 ∧ Hid (r.length < f) ∧ Hid (OwnL wr W.heap.size (.slice oA out.length oc) out) ∧ Hid (wr.heap[rb]? = some (.cells #[.slice A' r.length c', .bool true, .bool false] 41 (0, 0))) ∧ Hid (BytesX wr (fun b => some b = kc) (.slice A' r.length c') r) ∧ Hid (w3.heap.size ≤ wr.heap.size) ∧ Hid (∀ b, (Value.slice oA out.length oc).ownBlock = some b → kc ≠ some b) ∧ Hid (Keeps (· = rb) W wr) ∧ Hid (feedF f out r = R))
  case atStart => exact ⟨none, 0, cA, cc, ws0.length + 1, [], ws0, rfl, Nat.le_refl _, hl0, by simpa using hl0, Lib.hid (Nat.lt_succ_self _), Lib.hid (OwnL.nil _ _), Hbr3, HX3, Lib.hid (Nat.le_refl _), Lib.hid (fun b e => by cases e), Hk3, HR0⟩
  case round =>
    obtain ⟨oA, oc, A', c', f, out, r, rfl, hlK, hlr, hlo, Hf, HO, Hbr, HX', Hsz, Hap, HK, HE⟩ := hrel
    obtain ⟨f, rfl⟩ : ∃ f', f = f' + 1 := ⟨f - 1, by have := Hf.out; omega⟩
    have hst := feedF_step f out r
    have hhd := head52 HX'.out (by omega)
    have hle := headH_le r
    have hfr := frame_head r
    have HsW := Lib.hid HK.out.size
    rcases hH : headH r with ⟨size, k, whole, may⟩
    rw [hH] at hst hhd hle hfr
    rw [HE.out] at hst
    simp only [frOf] at hst hfr
    simp only at hle
    have H52 := Lib.hid hhd
    have c0 : wr.cell? ⟨rb, 0, none⟩ = some (.slice A' r.length c') := (blk_cell Hbr.out 0).trans rfl
    obtain ⟨e, he⟩ : ∃ e, size + k = e := ⟨_, rfl⟩
    have hcast : (size : Int) + (k : Int) = (e : Int) := by omega
    rw [he] at hst hfr
    have hsz9 : (size : Int) ≤ 2000000000 := by omega
    have hk9 : (k : Int) ≤ 1000000 := by omega
    have Hek := Lib.hid (show size ≤ e ∧ e - size = k by omega)
    clear hhd hle hH HE he
    rcases may with _ | _
    · have HRR := Lib.hid (show R = ⟨out, [], true⟩ from hst)
      obtain ⟨N, hN⟩ : ∃ N, r.length = N := ⟨_, rfl⟩
      have HN := Lib.hid hN
      rw [hN] at c0 Hbr HX' H52
      clear hst hN hfr
      go_wp2_with (first
        | (go_at_call 52; go_must (refine H52.out.mono ?_; rintro e4 w4 ⟨rfl, hk4⟩)
           have HK4 := Lib.hid hk4
           have Hbr4 := Lib.hid (hk4.blk Hbr.out id)
           clear hk4 c0
           have c0 := (blk_cell Hbr4.out 0).trans rfl
           (try simp only [PU]))
        | ((with_reducible refine at_store (t := 4) rfl ?_); go_must (refine ev_store (off := 2) (cs' := #[.slice A' N c', .bool true, .bool true]) rfl rfl rfl rfl rfl rfl HI.out.2.1 HI.out.2.2 rfl Hbr4.out (Nat.le_of_ble_eq_true rfl) rfl ?_; intro w5 hb5 hk5)
           have Hb5 := Lib.hid hb5
           have Hk5 := Lib.hid (HK4.out.any.trans hk5 (fun _ _ h => h))
           clear hb5 hk5
           (try simp only [PU]))
        | ((with_reducible refine at_store (t := 38) rfl ?_); go_must (refine ev_store (cs' := #[.slice none 0 0, .bool true, .bool true]) rfl rfl rfl rfl rfl rfl HI.out.1.1 HI.out.1.2 rfl Hb5.out (Nat.le_of_ble_eq_true rfl) rfl ?_; intro w6 hb6 hk6)
           have Hb6 := Lib.hid hb6
           have Hk6 := Lib.hid (Hk5.out.trans hk6 (fun _ _ h => h))
           clear hb6 hk6
           (try simp only [PU]))
      )
      go_ret2
      rw [HRR.out]
      exact ⟨⟨_, rfl, HO.out.keep Hk6.out (fun b _ e => by rw [e]; exact Hrb.out)⟩, ⟨none, (fun b e => by cases e), none, 0, 0, Hb6.out, BytesX.nil _ _⟩, HK.out.trans Hk6.out (fun _ _ h => h)⟩
    · rcases whole with _ | _
      · have HRR := Lib.hid (show R = ⟨out, r, false⟩ from hst)
        obtain ⟨N, hN⟩ : ∃ N, r.length = N := ⟨_, rfl⟩
        have HN := Lib.hid hN
        (try rw [hN] at hlti)
        rw [hN] at c0 Hbr H52
        clear hst hN hfr
        (try clear hlt)
        go_wp2_with (first
          | (go_at_call 52; go_must (refine H52.out.mono ?_; rintro e4 w4 ⟨rfl, hk4⟩)
             have HK4 := Lib.hid hk4
             have Hbr4 := Lib.hid (hk4.blk Hbr.out id)
             clear hk4 c0
             have c0 := (blk_cell Hbr4.out 0).trans rfl
             (try simp only [PU]))
        )
        go_ret2
        rw [HRR.out]
        exact ⟨⟨_, rfl, HO.out.keep HK4.out (fun b _ h => h.elim)⟩, ⟨kc, (fun b e => ⟨(Hkc.out b e).1, Nat.lt_of_lt_of_le (Hkc.out b e).2 (Nat.le_trans Hsz.out HK4.out.size)⟩), A', N, c', Hbr4.out, by rw [← HN.out]; exact HX'.out.keep HK4.out (fun _ _ _ => id) (fun _ _ h => h)⟩, HK.out.trans HK4.out (fun _ _ h => h.elim)⟩
      · by_cases hlt : r.length < e
        · have HRR := Lib.hid (show R = ⟨out, r, false⟩ by simpa [hlt] using hst)
          have hlti : (r.length : Int) < (e : Int) := by omega
          obtain ⟨N, hN⟩ : ∃ N, r.length = N := ⟨_, rfl⟩
          have HN := Lib.hid hN
          (try rw [hN] at hlti)
          rw [hN] at c0 Hbr H52
          clear hst hN hfr
          (try clear hlt)
          go_wp2_with (first
            | (go_at_call 52; go_must (refine H52.out.mono ?_; rintro e4 w4 ⟨rfl, hk4⟩)
               have HK4 := Lib.hid hk4
               have Hbr4 := Lib.hid (hk4.blk Hbr.out id)
               clear hk4 c0
               have c0 := (blk_cell Hbr4.out 0).trans rfl
               (try simp only [PU]))
          )
          go_ret2
          rw [HRR.out]
          exact ⟨⟨_, rfl, HO.out.keep HK4.out (fun b _ h => h.elim)⟩, ⟨kc, (fun b e => ⟨(Hkc.out b e).1, Nat.lt_of_lt_of_le (Hkc.out b e).2 (Nat.le_trans Hsz.out HK4.out.size)⟩), A', N, c', Hbr4.out, by rw [← HN.out]; exact HX'.out.keep HK4.out (fun _ _ _ => id) (fun _ _ h => h)⟩, HK.out.trans HK4.out (fun _ _ h => h.elim)⟩
        · have HRR := Lib.hid (show R = feedF f (out ++ [(r.drop size).take k]) (r.drop e) by simpa [hlt] using hst)
          have Hfr := Lib.hid (show frameB r = .whole ((r.drop size).take k) (r.drop e) by simpa [hlt] using hfr)
          have hlti : ¬ (r.length : Int) < (e : Int) := by omega
          have Hdl := Lib.hid (show (r.drop e).length + 1 ≤ r.length by have := headF_len (show headF beginB r = .whole _ _ from Hfr.out); omega)
          have Hle := Lib.hid (show e ≤ r.length ∧ r.length ≤ c' by have := HX'.out.len; omega)
          have hsub := HX'.out.sub (l := size) (h := e) (by have := Hek.out; omega) (by have := Hle.out; omega)
          rw [Hek.out.2] at hsub
          have hsub2 := HX'.out.sub (l := e) (h := r.length) (by have := Hle.out; omega) (Nat.le_refl _)
          rw [List.take_of_length_le (by rw [List.length_drop]; exact Nat.le_refl _)] at hsub2
          have Hsub := Lib.hid hsub
          have Hsub2 := Lib.hid hsub2
          obtain ⟨N, hN⟩ : ∃ N, r.length = N := ⟨_, rfl⟩
          have HN := Lib.hid hN
          obtain ⟨on, hon⟩ : ∃ N, out.length = N := ⟨_, rfl⟩
          have Hon := Lib.hid hon
          rw [hN] at c0 Hbr H52 hlti Hle Hsub2
          rw [hon] at HO Hap ⊢
          rw [hN, hon] at hlo
          have hoi : (on : Int) ≤ 1000000000 := by omega
          clear hst hN hon hfr hsub hsub2 hlt
          go_wp2_with (first
            | (go_at_call 52; go_must (refine H52.out.mono ?_; rintro e4 w4 ⟨rfl, hk4⟩)
               have HK4 := Lib.hid hk4
               have Hbr4 := Lib.hid (hk4.blk Hbr.out id)
               clear hk4 c0
               have c0 := (blk_cell Hbr4.out 0).trans rfl
               (try simp only [PU]))
            | ((with_reducible refine at_dst (N := 84) rfl ?_); go_must (refine ev_sub (l := size) (h := e) rfl rfl byteT38 rfl rfl rfl Hek.out.1 (by have := Hle.out; omega) ?_; rw [Hek.out.2]); (try simp only [PU]))
            | (go_at_call 53; go_must (refine (clone53 (Hsub.out.keep (X' := fun b => some b = kc) HK4.out (fun _ _ _ => id) (fun _ _ h => h)) (by omega)).mono ?_; rintro e5 w5 ⟨⟨v5, rfl, ho5⟩, hk5⟩; obtain ⟨xA, xc, hv5⟩ := ho5.slice; subst hv5)
               have Ho5 := Lib.hid ho5
               have HK5 := Lib.hid (HK4.out.trans hk5 (fun _ _ h => h))
               have Hs4 := Lib.hid HK4.out.size
               clear ho5 hk5 c0
               (try simp only [PU]))
            | ((with_reducible refine at_dst (N := 86) rfl ?_); go_must (refine ev_slice (cs := #[.slice xA ((r.drop size).take k).length xc]) (t := 38) (n := 1) (c := 1) rfl (by first | (go_simp; done) | (go_simp; rfl)) ?_; intro gx w6 hgx hlx hbx hkx)
               have Hbx := Lib.hid hbx
               have Ho6 := Lib.hid (Ho5.out.keep hkx (fun _ _ => id))
               have HK6 := Lib.hid (HK5.out.trans hkx (fun _ _ h => h))
               clear hbx hkx hgx hlx
               (try simp only [PU]))
            | ((with_reducible refine at_dst (N := 87) rfl ?_)
               obtain ⟨xs, hrow, hp⟩ := HO.out.keep HK6.out (fun b _ h => h.elim)
               have Hp := Lib.hid hp
               have Hrow := Lib.hid hrow
               rw [Hon.out] at hrow
               have Hrn := Lib.hid hrow
               clear hp hrow
               go_must (refine ev_append rfl rfl Tryd.underlying43 info38b rfl (by decide) (base := W.heap.size) rfl Hrn.out rfl (news := [.slice xA ((r.drop size).take k).length xc]) rfl (fun _ => ⟨_, rfl, World.news_of_block Hbx.out⟩) (by simp [Value.oneCell']) (by omega) (by decide) (Nat.le_trans HsW.out HK6.out.size) ?_; intro v7 w7 hown7 hk7 hr7 hf7; obtain ⟨gr, cap, rfl⟩ := hf7 (by decide))
               have Hrow7 := Lib.hid (show (Value.slice (some ⟨gr, 0, none⟩) (on + 1) cap).ownBlock = (Value.slice oA on oc).ownBlock ∨ ∃ b, (Value.slice (some ⟨gr, 0, none⟩) (on + 1) cap).ownBlock = some b ∧ w6.heap.size ≤ b from hr7)
               have Hpush := Lib.hid (OwnL.push Hrow.out Hp.out (Ho6.out.bytes.keep (X' := fun b => W.heap.size ≤ b ∧ b < w6.heap.size ∧ some b ≠ (Value.slice oA on oc).ownBlock) (Keeps.refl Nob w6) (fun _ _ _ => id) (fun b _ hb => by
                   have h1 := Ho6.out.lt b hb
                   have h2 := HsW.out
                   have h3 := Hs4.out
                   exact ⟨by omega, h1.2, fun e => by have := (HO.out.lt b e.symm).2; omega⟩)) (by rw [Hon.out]; exact hown7) hk7 hr7)
               have Hk7 := Lib.hid hk7
               have Hbr7 := Lib.hid (hk7.blk (HK6.out.blk Hbr.out id) (fun e => by have := (HO.out.lt rb e.symm).1; have := Hrb.out; omega))
               have c07 : w7.cell? ⟨rb, 0, none⟩ = some (.slice A' N c') := (blk_cell Hbr7.out 0).trans rfl
               have Hs67 := Lib.hid (hk7.size)
               have Hw7 := Lib.hid (show Keeps (fun j => some j = (Value.slice oA on oc).ownBlock) wr w7 from HK6.out.any.trans hk7 (fun _ _ h => h))
               clear hown7 hk7 hr7 hf7
               (try simp only [PU]))
            | ((with_reducible refine at_dst (N := 96) rfl ?_); go_must (refine ev_sub_l (l := e) rfl rfl byteT38 rfl rfl Hle.out.1 ?_); (try simp only [PU]))
            | ((with_reducible refine at_store (t := 38) rfl ?_); go_must (refine ev_store (cs' := #[.slice (subA A' e c') (N - e) (c' - e), .bool true, .bool false]) rfl rfl rfl rfl rfl rfl HI.out.1.1 HI.out.1.2 rfl Hbr7.out (Nat.le_of_ble_eq_true rfl) rfl ?_; intro w8 hb8 hk8)
               have Hb8 := Lib.hid hb8
               have Hpush8 := Lib.hid (Hpush.out.keep hk8 (fun b _ e => by rw [e]; exact Hrb.out))
               have Hk8 := Lib.hid hk8
               clear hb8 hk8 c07
               (try simp only [PU]))
          )
          have hdl : (r.drop e).length = N - e := by rw [List.length_drop, HN.out]
          have hol : (out ++ [(r.drop size).take k]).length = on + 1 := by rw [List.length_append, Hon.out]; rfl
          go_roundg (r.drop e).length
          case measure => have := Hdl.out; omega
          case rel => exact ⟨some ⟨gr, 0, none⟩, cap, subA A' e c', c' - e, f, out ++ [(r.drop size).take k], r.drop e, by rw [hol], Nat.le_refl _, by have := Hdl.out; omega, by rw [hol]; have := Hdl.out; have := HN.out; omega, Lib.hid (by have := Hdl.out; have := Hf.out; omega), Lib.hid (by rw [hol]; exact Hpush8.out), Lib.hid (by rw [hdl]; exact Hb8.out), Lib.hid (by rw [hdl]; exact (Hsub2.out.keep (X' := fun b => some b = kc) Hw7.out (fun b _ hb e => Hap.out b e.symm hb.symm) (fun _ _ h => h)).keep Hk8.out (fun b _ hb e => by have := (Hkc.out b hb.symm).1; have := Hrb.out; omega) (fun _ _ h => h)), Lib.hid (Nat.le_trans Hsz.out (Nat.le_trans Hw7.out.size Hk8.out.size)), Lib.hid (fun b e => by
              rcases Hrow7.out with h | ⟨b', h, hb'⟩
              · exact Hap.out b (by rw [← h, ← e, hol])
              · intro e2
                have e3 : (Value.slice (some ⟨gr, 0, none⟩) (on + 1) cap).ownBlock = some b := by rw [← e, hol]
                rw [h] at e3
                injection e3 with e3
                have := (Hkc.out b e2).2
                have := Hsz.out
                have := HK6.out.size
                omega), Lib.hid ((HK.out.trans Hw7.out (fun i hi e => by have := (HO.out.lt i e.symm).1; omega)).trans Hk8.out (fun _ _ h => h)), Lib.hid HRR.out.symm⟩
end Go.Proofs.WV

/-
  NewReader, Left, and Feed where nothing is read, by the program, in memory. No condition.
-/
namespace Go.Proofs.WV
open Go.RowKit Go.Proofs.KL Go.Proofs.WM
set_option maxRecDepth 100000
set_option linter.unusedSimpArgs false
set_option linter.unusedVariables false

/-- What Feed answers when it reads nothing. -/
def NoFeed (W : World) (c : Int) : Ending → World → Prop := fun e w' => e = .returned (.tuple #[.slice none 0 0, .int .i64 c]) ∧ w' = W
theorem feed_nil (v : Value) (W : World) : Calls Tryd.prog 21 #[.pointer none, v] W (NoFeed W 1) := by
  have hnil := ptr39_n
  go_enter Tryd.func21, Tryd.ntmps21
  go_wp2
  go_ret2
  exact ⟨rfl, rfl⟩
theorem feed_zero {rb : Nat} {x : Value} {W : World} {y : Value} {n : Nat} (v : Value) (h : W.heap[rb]? = some (.cells #[x, .bool false, y] 41 (0, 0))) : Calls Tryd.prog 21 #[.pointer (some ⟨rb, 0, none⟩), v] W (NoFeed W 1) := by
  have hnil := ptr39_s rb
  have c1 : W.cell? ⟨rb, 1, none⟩ = some (.bool false) := (blk_cell h 1).trans rfl
  clear h
  go_enter Tryd.func21, Tryd.ntmps21
  go_wp2
  go_ret2
  exact ⟨rfl, rfl⟩
theorem feed_dead {rb : Nat} {kb : Option Nat} {ws : Bs} {W : World} (v : Value) (h : FdX W rb kb ws true) : Calls Tryd.prog 21 #[.pointer (some ⟨rb, 0, none⟩), v] W (NoFeed W 8) := by
  have hnil := ptr39_s rb
  obtain ⟨A, n, c, h, -⟩ := h
  have c1 : W.cell? ⟨rb, 1, none⟩ = some (.bool true) := (blk_cell h 1).trans rfl
  have c2 : W.cell? ⟨rb, 2, none⟩ = some (.bool true) := (blk_cell h 2).trans rfl
  clear h
  go_enter Tryd.func21, Tryd.ntmps21
  go_wp2
  go_ret2
  exact ⟨rfl, rfl⟩
theorem feed_long {rb : Nat} {kb : Option Nat} {ws : Bs} {W : World} {B : Option Addr} {m d : Nat} (hm : 1000000 < m) (h : FdX W rb kb ws false) : Calls Tryd.prog 21 #[.pointer (some ⟨rb, 0, none⟩), .slice B m d] W (NoFeed W 3) := by
  have hnil := ptr39_s rb
  obtain ⟨A, n, c, h, -⟩ := h
  have c1 : W.cell? ⟨rb, 1, none⟩ = some (.bool true) := (blk_cell h 1).trans rfl
  have c2 : W.cell? ⟨rb, 2, none⟩ = some (.bool false) := (blk_cell h 2).trans rfl
  have hmi : (1000000 : Int) < m := by omega
  clear h hm
  go_enter Tryd.func21, Tryd.ntmps21
  go_wp2
  go_ret2
  exact ⟨rfl, rfl⟩
theorem left_nil (W : World) : Calls Tryd.prog 22 #[.pointer none] W fun e w' => e = .returned (.int .i64 0) ∧ w' = W := by
  have hnil := ptr39_n
  go_enter Tryd.func22, Tryd.ntmps22
  go_wp2
  go_ret
  exact ⟨rfl, rfl⟩
theorem left_at {rb : Nat} {W : World} {A : Option Addr} {n c : Nat} {x y : Value} (h : W.heap[rb]? = some (.cells #[.slice A n c, x, y] 41 (0, 0))) : Calls Tryd.prog 22 #[.pointer (some ⟨rb, 0, none⟩)] W fun e w' => e = .returned (.int .i64 n) ∧ w' = W := by
  have hnil := ptr39_s rb
  have c0 : W.cell? ⟨rb, 0, none⟩ = some (.slice A n c) := (blk_cell h 0).trans rfl
  clear h
  go_enter Tryd.func22, Tryd.ntmps22
  go_wp2
  go_ret
  exact ⟨rfl, rfl⟩
theorem left_fd {rb : Nat} {kb : Option Nat} {ws : Bs} {dead : Bool} {W : World} (h : FdX W rb kb ws dead) : Calls Tryd.prog 22 #[.pointer (some ⟨rb, 0, none⟩)] W fun e w' => e = .returned (.int .i64 ws.length) ∧ w' = W := by
  obtain ⟨A, n, c, hb, hx⟩ := h
  rw [← hx.len.1]
  exact left_at hb
theorem new27 (W : World) : Calls Tryd.prog 27 #[] W fun e w' => ∃ rb, e = .returned (.pointer (some ⟨rb, 0, none⟩)) ∧ W.heap.size ≤ rb ∧ rb < w'.heap.size ∧ FdX w' rb none [] false ∧ Keeps Nob W w' := by
  go_enter Tryd.func27, Tryd.ntmps27
  go_wp2_with (first
    | ((with_reducible refine at_dst (N := 2) rfl ?_); go_must (refine ev_box (cs := #[.slice none 0 0, .bool true, .bool false]) rfl rfl rfl ?_; intro g w1 hg hl hb hk)
       have Hb := Lib.hid hb
       have Hk := Lib.hid hk
       clear hb hk
       (try simp only [PU]))
  )
  go_ret
  exact ⟨g, rfl, hg, hl, ⟨none, 0, 0, Hb.out, BytesX.nil _ _⟩, Hk.out⟩
end Go.Proofs.WV

/-
  The plain law of what Read answers; how large what is read can be. No program in sight; no condition.
-/
namespace Go.Proofs.WM

theorem quoteB_ge (s : Bs) : s.length + 2 ≤ (quoteB s).length := by
  have h : s.length ≤ (s.flatMap esc).length := by
    induction s with
    | nil => exact Nat.le_refl _
    | cons c q ih =>
      have hc : 1 ≤ (esc c).length := by
        unfold esc
        split
        · simp
        split
        · simp
        split <;> simp
      simp only [List.flatMap_cons, List.length_append, List.length_cons]
      omega
  simp only [quoteB, List.length_append, List.length_cons, List.length_nil]
  omega
theorem lens_joinC : ∀ ps : List Bs, lens ps ≤ (joinC ps).length
  | [] => Nat.le_refl _
  | p :: ps => by
    have h : ∀ l : List Bs, lens l ≤ (l.flatMap (44 :: ·)).length := by
      intro l
      induction l with
      | nil => exact Nat.le_refl _
      | cons x l ih => simp only [lens, List.map_cons, List.sum_cons, List.flatMap_cons, List.length_append, List.length_cons] at ih ⊢; omega
    have := h ps
    simp only [lens, joinC, List.map_cons, List.sum_cons, List.length_append] at this ⊢
    omega
theorem lens_zip : ∀ (ks : List ByteArray) (ps : List Bs), ks.length = ps.length → (ks.map ByteArray.size).sum + 3 * ks.length + lens ps ≤ lens (List.zipWith (fun q p => quoteB (bl q) ++ [58] ++ p) ks ps)
  | [], [], _ => Nat.le_refl _
  | k :: ks, p :: ps, h => by
    have h1 := lens_zip ks ps (by simpa using h)
    have h2 := quoteB_ge (bl k)
    rw [bl_len] at h2
    simp only [lens, List.map_cons, List.sum_cons, List.zipWith_cons_cons, List.length_append, List.length_cons, List.length_nil] at h1 ⊢
    omega
  | [], _ :: _, h => by simp at h
  | _ :: _, [], h => by simp at h
theorem itoa_pos (n : Int) : 1 ≤ (Lib.itoa n).length := by
  obtain ⟨c, q, e, _⟩ := itoa_head (n := n)
  rw [e]
  simp
mutual
theorem size_text : ∀ j : J, formedJ j = true → sizeJ j ≤ 2 * (textJ j).length
  | .mk k b n t ks vs, hf => by
    unfold formedJ at hf
    simp only [fineJ, Bool.and_eq_true, Bool.or_eq_true, decide_eq_true_eq, Bool.not_eq_true', decide_eq_false_iff_not] at hf
    obtain ⟨⟨⟨⟨⟨⟨⟨⟨⟨⟨h1, h2⟩, hb⟩, hn⟩, ht⟩, hks⟩, hvs⟩, hr⟩, hlen⟩, hnd⟩, hfl⟩ := hf
    have hl := size_textL vs hfl
    have hi := itoa_pos n
    have hq := quoteB_ge (bl t)
    rw [bl_len] at hq
    have hj := lens_joinC (textL vs)
    have hjz := lens_joinC (List.zipWith (fun q p => quoteB (bl q) ++ [58] ++ p) ks (textL vs))
    have ht0 : k ≠ 4 → t.size = 0 := fun h => by
      have h' := ht.resolve_right h
      rw [← bl_len, h']; rfl
    have hk0 : k ≠ 6 → ks = [] := fun h => hks.resolve_right h
    have hv0 : k < 5 → vs = [] := fun h => by
      rcases hvs with h' | h'
      · exact List.length_eq_zero_iff.1 h'
      · omega
    unfold textJ sizeJ
    split
    · rw [ht0 (by omega), hk0 (by omega), hv0 (by omega)]; simp [sizeL]
    split
    · rw [ht0 (by omega), hk0 (by omega), hv0 (by omega)]; split <;> simp [sizeL]
    split
    · rw [ht0 (by omega), hk0 (by omega), hv0 (by omega)]; simp only [List.length_nil, List.map_nil, List.sum_nil, sizeL]; omega
    split
    · rw [hk0 (by omega), hv0 (by omega)]; simp only [List.length_nil, List.map_nil, List.sum_nil, sizeL]; omega
    split
    · rw [ht0 (by omega), hk0 (by omega)]; simp only [List.length_append, List.length_cons, List.length_nil, List.map_nil, List.sum_nil]; omega
    · have h6 : k = 6 := by omega
      have hl6 : ks.length = vs.length := hlen.resolve_left (fun h => h h6)
      have hz := lens_zip ks (textL vs) (by rw [textL_length, hl6])
      rw [ht0 (by omega)]
      simp only [List.length_append, List.length_cons, List.length_nil]
      omega
theorem size_textL : ∀ vs : List J, formedL vs = true → sizeL vs ≤ 2 * lens (textL vs)
  | [], _ => Nat.le_refl _
  | v :: vs, hf => by
    simp only [formedL, Bool.and_eq_true] at hf
    have h1 := size_text v hf.1
    have h2 := size_textL vs hf.2
    simp only [lens, textL, List.map_cons, List.sum_cons, sizeL] at h2 ⊢
    omega
end
def zJ : J := .mk 0 false 0 ByteArray.empty [] []
/-- What Read answers. -/
def readW (T : ByteArray) : J × Int × Int :=
  if 1000000 < T.size then (zJ, 0, 3) else match readJ (bl T) with
  | .error a => (zJ, a, 4)
  | .ok j => if checkJ j = 0 then (j, 0, 0) else (zJ, 0, 3)
theorem read_size {f : Nat} {s r : Bs} {j : J} (h : valueF f 40 s = .ok (j, r)) : sizeJ j ≤ 34 * s.length := by
  have h1 := (read_ok f).1 40 s j r (by decide) h
  have h2 := size_text j h1.2.1
  have h3 := h1.2.2.2
  omega
end Go.Proofs.WM

/-
  The plain law of layer 30 (wire): its closed example. No program in sight; no condition.
-/
namespace Go.Proofs.WV
open Go.Proofs.WM
set_option linter.unusedVariables false

def exList : J := .mk 5 false 0 ⟨#[]⟩ [] [.mk 2 true 0 ⟨#[]⟩ [] [], .mk 1 false 0 ⟨#[]⟩ [] []]
def exV : J := .mk 6 false 0 ⟨#[]⟩ [⟨#[97]⟩, ⟨#[98]⟩] [.mk 3 false 1 ⟨#[]⟩ [] [], exList]
def exText : Bs := [123, 34, 97, 34, 58, 49, 44, 34, 98, 34, 58, 91, 116, 114, 117, 101, 44, 110, 117, 108, 108, 93, 125]
theorem itoa1 : Lib.itoa 1 = [49] := by
  unfold Lib.itoa
  rw [if_neg (by decide)]
  rw [show (1 : Int).toNat = 1 from rfl]
  rw [Lib.decDigits]
  rfl
theorem exText_is : textJ exV = exText := by
  have e1 : List.flatMap esc (bl ⟨#[97]⟩) = [97] := by rfl
  have e2 : List.flatMap esc (bl ⟨#[98]⟩) = [98] := by rfl
  simp [exV, exList, textJ, textL, itoa1, joinC, quoteB, exText, e1, e2]
theorem exWrite : writeJ exV = (exText, 0) := by
  unfold writeJ
  rw [exText_is]
  have h1 : formedJ exV = true := by decide
  have h2 : levelsJ exV = 3 := by decide
  rw [h1, h2]
  rfl
theorem exBad : readW ⟨#[123, 34, 97, 34, 58, 49, 44, 34, 97, 34, 58, 50, 125]⟩ = (zJ, 9, 4) := by kernel_rfl
theorem exRead : readW ⟨#[32, 123, 34, 97, 34, 32, 58, 32, 49, 44, 32, 34, 98, 34, 58, 32, 91, 116, 114, 117, 101, 44, 110, 117, 108, 108, 93, 125]⟩ = (exV, 0, 0) := by
  have h : readJ (bl ⟨#[32, 123, 34, 97, 34, 32, 58, 32, 49, 44, 32, 34, 98, 34, 58, 32, 91, 116, 114, 117, 101, 44, 110, 117, 108, 108, 93, 125]⟩) = .ok exV := by kernel_rfl
  unfold readW
  rw [if_neg (by decide), h]
  have hc : checkJ exV = 0 := by rw [← writeJ_check, exWrite]
  simp only [hc, if_true]
theorem exFeed : feedB [] [76, 101, 110, 103, 116, 104, 58, 32, 50, 13, 10, 13, 10, 97, 98, 76, 101, 110] = ⟨[[97, 98]], [76, 101, 110], false⟩ := by rfl
end Go.Proofs.WV

/-
  The program's reader: what is behind a backslash. Condition: the text is not longer than a million bytes.
-/
namespace Go.Proofs.WV
open Go.RowKit Go.Proofs.KL Go.Proofs.WM
set_option maxRecDepth 100000
set_option linter.unusedSimpArgs false
set_option linter.unusedVariables false

def shortT : Bs := [34, 92, 47, 98, 102, 110, 114, 116]
def meantT : Bs := [34, 92, 47, 8, 12, 10, 13, 9]
def hexT : Bs := [48, 49, 50, 51, 52, 53, 54, 55, 56, 57, 97, 98, 99, 100, 101, 102, 65, 66, 67, 68, 69, 70]
def chkS (n : Nat) : Bool := match shortB (UInt8.ofNat n) with
  | none => Lib.indexByte shortT (UInt8.ofNat n) == -1
  | some b => (List.range 8).any fun i => Lib.indexByte shortT (UInt8.ofNat n) == (i : Int) && meantT.getD i 0 == b
def chkH (n : Nat) : Bool := match hexD (UInt8.ofNat n) with
  | none => Lib.indexByte hexT (UInt8.ofNat n) == -1
  | some d => Nat.ble d 15 && ((Lib.indexByte hexT (UInt8.ofNat n) == (d : Int)) || (Lib.indexByte hexT (UInt8.ofNat n) == ((d + 6 : Nat) : Int) && Nat.ble 10 d))
theorem allS : (List.range 256).all chkS = true := by kernel_rfl
theorem allH : (List.range 256).all chkH = true := by kernel_rfl
theorem all_at {f : Nat → Bool} (h : (List.range 256).all f = true) (c : UInt8) : f c.toNat = true := List.all_eq_true.1 h _ (List.mem_range.2 c.toNat_lt)
theorem shortS (c : UInt8) : (shortB c = none ∧ Lib.indexByte shortT c = -1) ∨ ∃ b i, shortB c = some b ∧ i < 8 ∧ Lib.indexByte shortT c = (i : Nat) ∧ meantT.getD i 0 = b := by
  have h := all_at allS c
  unfold chkS at h
  rw [show UInt8.ofNat c.toNat = c from UInt8.ofNat_toNat] at h
  rcases hs : shortB c with _ | b
  · rw [hs] at h
    exact .inl ⟨rfl, by simpa using h⟩
  · rw [hs] at h
    simp only [List.any_eq_true, List.mem_range, Bool.and_eq_true, beq_iff_eq] at h
    obtain ⟨i, hi, h1, h2⟩ := h
    exact .inr ⟨b, i, rfl, hi, h1, h2⟩
theorem hexS (c : UInt8) : (hexD c = none ∧ Lib.indexByte hexT c = -1) ∨ ∃ d, hexD c = some d ∧ d ≤ 15 ∧ (Lib.indexByte hexT c = (d : Nat) ∨ (Lib.indexByte hexT c = (d : Nat) + 6 ∧ 10 ≤ d)) := by
  have h := all_at allH c
  unfold chkH at h
  rw [show UInt8.ofNat c.toNat = c from UInt8.ofNat_toNat] at h
  rcases hs : hexD c with _ | d
  · rw [hs] at h
    exact .inl ⟨rfl, by simpa using h⟩
  · rw [hs] at h
    simp only [Bool.and_eq_true, Bool.or_eq_true, beq_iff_eq, Nat.ble_eq] at h
    obtain ⟨h1, h2⟩ := h
    refine .inr ⟨d, rfl, h1, ?_⟩
    rcases h2 with h2 | ⟨h2, h3⟩
    · exact .inl h2
    · exact .inr ⟨by rw [h2]; push_cast; rfl, h3⟩
/-- The first byte, as a byte. -/
def headB : Bs → UInt8
  | [] => 0
  | c :: _ => c
theorem headN_B (s : Bs) : headN s = ((headB s).toNat : Int) := by cases s <;> rfl
theorem short72 (s : Bs) (w : World) : Calls Tryd.prog 72 #[.string ⟨#[34, 92, 47, 98, 102, 110, 114, 116]⟩, .int .u8 (headN s)] w fun e w' => e = .returned (.int .i64 (Lib.indexByte shortT (headB s))) ∧ w' = w := by
  rw [headN_B]
  refine (Tryd.strings_IndexByte ⟨#[34, 92, 47, 98, 102, 110, 114, 116]⟩ _ w).mono ?_
  rintro e w' ⟨rfl, rfl⟩
  rw [u8_back]
  exact ⟨rfl, rfl⟩
theorem hex72 (s : Bs) (w : World) : Calls Tryd.prog 72 #[.string ⟨#[48, 49, 50, 51, 52, 53, 54, 55, 56, 57, 97, 98, 99, 100, 101, 102, 65, 66, 67, 68, 69, 70]⟩, .int .u8 (headN s)] w fun e w' => e = .returned (.int .i64 (Lib.indexByte hexT (headB s))) ∧ w' = w := by
  rw [headN_B]
  refine (Tryd.strings_IndexByte ⟨#[48, 49, 50, 51, 52, 53, 54, 55, 56, 57, 97, 98, 99, 100, 101, 102, 65, 66, 67, 68, 69, 70]⟩ _ w).mono ?_
  rintro e w' ⟨rfl, rfl⟩
  rw [u8_back]
  exact ⟨rfl, rfl⟩
theorem hexB4_nil (k n : Nat) : hexB4 (k + 1) n [] = .error 0 := rfl
theorem escB_word (s : Bs) (h : shortB (headB s) = none) : escB s = (match wordB [117] s with | .error n => .error n | .ok r => (match hexB4 4 0 r with | .ok x => .ok (UInt8.ofNat x.1, x.2) | .error e => .error e)) := by
  cases s with
  | nil => rfl
  | cons c q =>
    have h' : shortB c = none := h
    simp only [escB, h']
    by_cases hc : c = 117
    · subst hc
      simp only [wordB, if_true]
      cases hexB4 4 0 q <;> rfl
    · simp [hc, wordB]
set_option maxHeartbeats 4000000 in
/-- escape, of a letter. -/
theorem escShort {w : World} {r : Nat} {T : ByteArray} {c : UInt8} {q : Bs} (h : Rd w r T (c :: q)) (i : Nat) (hi : i < 8) (hx : Lib.indexByte shortT c = (i : Nat)) : Calls Tryd.prog 102 #[.pointer (some ⟨r, 0, none⟩)] w (EndR w r T (fun b => .int .u8 b.toNat) (.ok (meantT.getD i 0, q))) := by
  obtain ⟨i3, hi3, hs3⟩ := infoS3
  have HI := Lib.hid (And.intro hi3 hs3)
  have H73 := Lib.hid (fun W (hk : Keeps Nob w W) => next73 (h.keep hk id))
  have H72 := Lib.hid (fun W => short72 (c :: q) W)
  have hhb : headB (c :: q) = c := rfl
  rw [hhb, hx] at H72
  obtain ⟨a, ha, ⟨hb, -⟩, hT, -, hn⟩ := h.cons
  have Hb := Lib.hid hb
  have Hn := Lib.hid hn
  have hai : (a : Int) < (T.size : Int) := by omega
  generalize headN (c :: q) = hv at *
  have HK1 := Lib.hid (Keeps.refl Nob w)
  clear hi3 hs3 h hx hhb hb hn
  have hcase : i = 0 ∨ i = 1 ∨ i = 2 ∨ i = 3 ∨ i = 4 ∨ i = 5 ∨ i = 6 ∨ i = 7 := by omega
  clear hi
  rcases hcase with rfl | rfl | rfl | rfl | rfl | rfl | rfl | rfl
  · skip
    go_enter Tryd.func102, Tryd.ntmps102
    go_wp2_with (first
      | (go_at_call 73; go_must (refine (H73.out _ HK1.out).mono ?_; rintro e w2 ⟨rfl, hk1⟩); have HK1 := Lib.hid (HK1.out.trans hk1 (fun _ _ h => h)); clear hk1; (try simp only [PU]))
      | (go_at_call 72; go_must (refine (H72.out _).mono ?_; rintro e w3 ⟨rfl, rfl⟩); (try simp only [PU]))
    )
    have c0 := (blk_cell (HK1.out.blk Hb.out id) 0).trans rfl
    have c1 := (blk_cell (HK1.out.blk Hb.out id) 1).trans rfl
    refine wp_region_perm [(0, true), (1, true), (2, true), (3, true), (4, true), (5, true), (6, true), (7, true), (8, true), (9, true), (10, true), (11, true), (12, true), (13, true)] (fun w' => w'.cell? ⟨r, 0, none⟩ = some (.string T) ∧ w'.cell? ⟨r, 1, none⟩ = some (.int .i64 a)) rfl (by kernel_rfl) (by kernel_rfl) (by decide) (fun c a d v w h => by cases d <;> exact h) ⟨c0, c1⟩ ?_
    refine perm_q (v := ?v1_0) (some 12) rfl rfl rfl ?q1_0 ?h1_0; (case q1_0 => (intro w' hS; obtain ⟨s1, s2⟩ := hS; first | (go_simp; done) | (go_simp; rfl))); (try simp only [PU])
    refine perm_q (v := ?v1_1) (some 13) rfl rfl rfl ?q1_1 ?h1_1; (case q1_1 => (intro w' hS; obtain ⟨s1, s2⟩ := hS; first | (go_simp; done) | (go_simp; rfl))); (try simp only [PU])
    refine perm_q (v := ?v1_2) (some 14) rfl rfl rfl ?q1_2 ?h1_2; (case q1_2 => (intro w' hS; obtain ⟨s1, s2⟩ := hS; first | (go_simp; done) | (go_simp; rfl))); (try simp only [PU])
    refine perm_q (v := ?v1_3) (some 15) rfl rfl rfl ?q1_3 ?h1_3; (case q1_3 => (intro w' hS; obtain ⟨s1, s2⟩ := hS; first | (go_simp; done) | (go_simp; rfl))); (try simp only [PU])
    refine perm_q (v := ?v1_4) (some 16) rfl rfl rfl ?q1_4 ?h1_4; (case q1_4 => (intro w' hS; obtain ⟨s1, s2⟩ := hS; first | (go_simp; done) | (go_simp; rfl))); (try simp only [PU])
    refine perm_q (v := ?v1_5) (some 17) rfl rfl rfl ?q1_5 ?h1_5; (case q1_5 => (intro w' hS; obtain ⟨s1, s2⟩ := hS; first | (go_simp; done) | (go_simp; rfl))); (try simp only [PU])
    refine perm_q (v := ?v1_6) (some 18) rfl rfl rfl ?q1_6 ?h1_6; (case q1_6 => (intro w' hS; obtain ⟨s1, s2⟩ := hS; first | (go_simp; done) | (go_simp; rfl))); (try simp only [PU])
    refine perm_q (v := ?v1_7) (some 19) rfl rfl rfl ?q1_7 ?h1_7; (case q1_7 => (intro w' hS; obtain ⟨s1, s2⟩ := hS; first | (go_simp; done) | (go_simp; rfl))); (try simp only [PU])
    refine perm_q (v := ?v1_8) (some 20) rfl rfl rfl ?q1_8 ?h1_8; (case q1_8 => (intro w' hS; obtain ⟨s1, s2⟩ := hS; first | (go_simp; done) | (go_simp; rfl))); (try simp only [PU])
    refine perm_q (v := ?v1_9) (some 21) rfl rfl rfl ?q1_9 ?h1_9; (case q1_9 => (intro w' hS; obtain ⟨s1, s2⟩ := hS; first | (go_simp; done) | (go_simp; rfl))); (try simp only [PU])
    refine perm_q (v := ?v1_10) (some 22) rfl rfl rfl ?q1_10 ?h1_10; (case q1_10 => (intro w' hS; obtain ⟨s1, s2⟩ := hS; first | (go_simp; done) | (go_simp; rfl))); (try simp only [PU])
    refine perm_q (v := ?v1_11) (some 23) rfl rfl rfl ?q1_11 ?h1_11; (case q1_11 => (intro w' hS; obtain ⟨s1, s2⟩ := hS; first | (go_simp; done) | (go_simp; rfl))); (try simp only [PU])
    refine perm_q (v := ?v1_12) (some 24) rfl rfl rfl ?q1_12 ?h1_12; (case q1_12 => (intro w' hS; obtain ⟨s1, s2⟩ := hS; first | (go_simp; done) | (go_simp; rfl))); (try simp only [PU])
    refine perm_q (v := ?v1_13) (some 25) rfl rfl rfl ?q1_13 ?h1_13; (case q1_13 => (intro w' hS; obtain ⟨s1, s2⟩ := hS; first | (go_simp; done) | (go_simp; rfl))); (try simp only [PU])
    refine perm_nil ?_
    go_wp2_with ((with_reducible refine at_store (t := 3) rfl ?_); go_must (refine ev_store (cs' := #[.string T, .int .i64 ((a : Int) + 1)]) rfl rfl rfl rfl rfl rfl HI.out.1 HI.out.2 rfl ((HK1.out.then (Keeps.refl Nob _).drew).blk Hb.out id) (Nat.le_of_ble_eq_true rfl) rfl ?_; intro w4 hb2 hk2); have Hb2 := Lib.hid hb2; have HK2 := Lib.hid hk2; clear hb2 hk2; (try simp only [PU]))
    go_ret
    exact ⟨rfl, Hn.out w4 Hb2.out, ((Keeps.refl (· = r) w).then (HK1.out.then (Keeps.refl Nob _).drew)).trans HK2.out (fun _ _ h => h)⟩
  · skip
    go_enter Tryd.func102, Tryd.ntmps102
    go_wp2_with (first
      | (go_at_call 73; go_must (refine (H73.out _ HK1.out).mono ?_; rintro e w2 ⟨rfl, hk1⟩); have HK1 := Lib.hid (HK1.out.trans hk1 (fun _ _ h => h)); clear hk1; (try simp only [PU]))
      | (go_at_call 72; go_must (refine (H72.out _).mono ?_; rintro e w3 ⟨rfl, rfl⟩); (try simp only [PU]))
    )
    have c0 := (blk_cell (HK1.out.blk Hb.out id) 0).trans rfl
    have c1 := (blk_cell (HK1.out.blk Hb.out id) 1).trans rfl
    refine wp_region_perm [(0, true), (1, true), (2, true), (3, true), (4, true), (5, true), (6, true), (7, true), (8, true), (9, true), (10, true), (11, true), (12, true), (13, true)] (fun w' => w'.cell? ⟨r, 0, none⟩ = some (.string T) ∧ w'.cell? ⟨r, 1, none⟩ = some (.int .i64 a)) rfl (by kernel_rfl) (by kernel_rfl) (by decide) (fun c a d v w h => by cases d <;> exact h) ⟨c0, c1⟩ ?_
    refine perm_q (v := ?v2_0) (some 12) rfl rfl rfl ?q2_0 ?h2_0; (case q2_0 => (intro w' hS; obtain ⟨s1, s2⟩ := hS; first | (go_simp; done) | (go_simp; rfl))); (try simp only [PU])
    refine perm_q (v := ?v2_1) (some 13) rfl rfl rfl ?q2_1 ?h2_1; (case q2_1 => (intro w' hS; obtain ⟨s1, s2⟩ := hS; first | (go_simp; done) | (go_simp; rfl))); (try simp only [PU])
    refine perm_q (v := ?v2_2) (some 14) rfl rfl rfl ?q2_2 ?h2_2; (case q2_2 => (intro w' hS; obtain ⟨s1, s2⟩ := hS; first | (go_simp; done) | (go_simp; rfl))); (try simp only [PU])
    refine perm_q (v := ?v2_3) (some 15) rfl rfl rfl ?q2_3 ?h2_3; (case q2_3 => (intro w' hS; obtain ⟨s1, s2⟩ := hS; first | (go_simp; done) | (go_simp; rfl))); (try simp only [PU])
    refine perm_q (v := ?v2_4) (some 16) rfl rfl rfl ?q2_4 ?h2_4; (case q2_4 => (intro w' hS; obtain ⟨s1, s2⟩ := hS; first | (go_simp; done) | (go_simp; rfl))); (try simp only [PU])
    refine perm_q (v := ?v2_5) (some 17) rfl rfl rfl ?q2_5 ?h2_5; (case q2_5 => (intro w' hS; obtain ⟨s1, s2⟩ := hS; first | (go_simp; done) | (go_simp; rfl))); (try simp only [PU])
    refine perm_q (v := ?v2_6) (some 18) rfl rfl rfl ?q2_6 ?h2_6; (case q2_6 => (intro w' hS; obtain ⟨s1, s2⟩ := hS; first | (go_simp; done) | (go_simp; rfl))); (try simp only [PU])
    refine perm_q (v := ?v2_7) (some 19) rfl rfl rfl ?q2_7 ?h2_7; (case q2_7 => (intro w' hS; obtain ⟨s1, s2⟩ := hS; first | (go_simp; done) | (go_simp; rfl))); (try simp only [PU])
    refine perm_q (v := ?v2_8) (some 20) rfl rfl rfl ?q2_8 ?h2_8; (case q2_8 => (intro w' hS; obtain ⟨s1, s2⟩ := hS; first | (go_simp; done) | (go_simp; rfl))); (try simp only [PU])
    refine perm_q (v := ?v2_9) (some 21) rfl rfl rfl ?q2_9 ?h2_9; (case q2_9 => (intro w' hS; obtain ⟨s1, s2⟩ := hS; first | (go_simp; done) | (go_simp; rfl))); (try simp only [PU])
    refine perm_q (v := ?v2_10) (some 22) rfl rfl rfl ?q2_10 ?h2_10; (case q2_10 => (intro w' hS; obtain ⟨s1, s2⟩ := hS; first | (go_simp; done) | (go_simp; rfl))); (try simp only [PU])
    refine perm_q (v := ?v2_11) (some 23) rfl rfl rfl ?q2_11 ?h2_11; (case q2_11 => (intro w' hS; obtain ⟨s1, s2⟩ := hS; first | (go_simp; done) | (go_simp; rfl))); (try simp only [PU])
    refine perm_q (v := ?v2_12) (some 24) rfl rfl rfl ?q2_12 ?h2_12; (case q2_12 => (intro w' hS; obtain ⟨s1, s2⟩ := hS; first | (go_simp; done) | (go_simp; rfl))); (try simp only [PU])
    refine perm_q (v := ?v2_13) (some 25) rfl rfl rfl ?q2_13 ?h2_13; (case q2_13 => (intro w' hS; obtain ⟨s1, s2⟩ := hS; first | (go_simp; done) | (go_simp; rfl))); (try simp only [PU])
    refine perm_nil ?_
    go_wp2_with ((with_reducible refine at_store (t := 3) rfl ?_); go_must (refine ev_store (cs' := #[.string T, .int .i64 ((a : Int) + 1)]) rfl rfl rfl rfl rfl rfl HI.out.1 HI.out.2 rfl ((HK1.out.then (Keeps.refl Nob _).drew).blk Hb.out id) (Nat.le_of_ble_eq_true rfl) rfl ?_; intro w4 hb2 hk2); have Hb2 := Lib.hid hb2; have HK2 := Lib.hid hk2; clear hb2 hk2; (try simp only [PU]))
    go_ret
    exact ⟨rfl, Hn.out w4 Hb2.out, ((Keeps.refl (· = r) w).then (HK1.out.then (Keeps.refl Nob _).drew)).trans HK2.out (fun _ _ h => h)⟩
  · skip
    go_enter Tryd.func102, Tryd.ntmps102
    go_wp2_with (first
      | (go_at_call 73; go_must (refine (H73.out _ HK1.out).mono ?_; rintro e w2 ⟨rfl, hk1⟩); have HK1 := Lib.hid (HK1.out.trans hk1 (fun _ _ h => h)); clear hk1; (try simp only [PU]))
      | (go_at_call 72; go_must (refine (H72.out _).mono ?_; rintro e w3 ⟨rfl, rfl⟩); (try simp only [PU]))
    )
    have c0 := (blk_cell (HK1.out.blk Hb.out id) 0).trans rfl
    have c1 := (blk_cell (HK1.out.blk Hb.out id) 1).trans rfl
    refine wp_region_perm [(0, true), (1, true), (2, true), (3, true), (4, true), (5, true), (6, true), (7, true), (8, true), (9, true), (10, true), (11, true), (12, true), (13, true)] (fun w' => w'.cell? ⟨r, 0, none⟩ = some (.string T) ∧ w'.cell? ⟨r, 1, none⟩ = some (.int .i64 a)) rfl (by kernel_rfl) (by kernel_rfl) (by decide) (fun c a d v w h => by cases d <;> exact h) ⟨c0, c1⟩ ?_
    refine perm_q (v := ?v3_0) (some 12) rfl rfl rfl ?q3_0 ?h3_0; (case q3_0 => (intro w' hS; obtain ⟨s1, s2⟩ := hS; first | (go_simp; done) | (go_simp; rfl))); (try simp only [PU])
    refine perm_q (v := ?v3_1) (some 13) rfl rfl rfl ?q3_1 ?h3_1; (case q3_1 => (intro w' hS; obtain ⟨s1, s2⟩ := hS; first | (go_simp; done) | (go_simp; rfl))); (try simp only [PU])
    refine perm_q (v := ?v3_2) (some 14) rfl rfl rfl ?q3_2 ?h3_2; (case q3_2 => (intro w' hS; obtain ⟨s1, s2⟩ := hS; first | (go_simp; done) | (go_simp; rfl))); (try simp only [PU])
    refine perm_q (v := ?v3_3) (some 15) rfl rfl rfl ?q3_3 ?h3_3; (case q3_3 => (intro w' hS; obtain ⟨s1, s2⟩ := hS; first | (go_simp; done) | (go_simp; rfl))); (try simp only [PU])
    refine perm_q (v := ?v3_4) (some 16) rfl rfl rfl ?q3_4 ?h3_4; (case q3_4 => (intro w' hS; obtain ⟨s1, s2⟩ := hS; first | (go_simp; done) | (go_simp; rfl))); (try simp only [PU])
    refine perm_q (v := ?v3_5) (some 17) rfl rfl rfl ?q3_5 ?h3_5; (case q3_5 => (intro w' hS; obtain ⟨s1, s2⟩ := hS; first | (go_simp; done) | (go_simp; rfl))); (try simp only [PU])
    refine perm_q (v := ?v3_6) (some 18) rfl rfl rfl ?q3_6 ?h3_6; (case q3_6 => (intro w' hS; obtain ⟨s1, s2⟩ := hS; first | (go_simp; done) | (go_simp; rfl))); (try simp only [PU])
    refine perm_q (v := ?v3_7) (some 19) rfl rfl rfl ?q3_7 ?h3_7; (case q3_7 => (intro w' hS; obtain ⟨s1, s2⟩ := hS; first | (go_simp; done) | (go_simp; rfl))); (try simp only [PU])
    refine perm_q (v := ?v3_8) (some 20) rfl rfl rfl ?q3_8 ?h3_8; (case q3_8 => (intro w' hS; obtain ⟨s1, s2⟩ := hS; first | (go_simp; done) | (go_simp; rfl))); (try simp only [PU])
    refine perm_q (v := ?v3_9) (some 21) rfl rfl rfl ?q3_9 ?h3_9; (case q3_9 => (intro w' hS; obtain ⟨s1, s2⟩ := hS; first | (go_simp; done) | (go_simp; rfl))); (try simp only [PU])
    refine perm_q (v := ?v3_10) (some 22) rfl rfl rfl ?q3_10 ?h3_10; (case q3_10 => (intro w' hS; obtain ⟨s1, s2⟩ := hS; first | (go_simp; done) | (go_simp; rfl))); (try simp only [PU])
    refine perm_q (v := ?v3_11) (some 23) rfl rfl rfl ?q3_11 ?h3_11; (case q3_11 => (intro w' hS; obtain ⟨s1, s2⟩ := hS; first | (go_simp; done) | (go_simp; rfl))); (try simp only [PU])
    refine perm_q (v := ?v3_12) (some 24) rfl rfl rfl ?q3_12 ?h3_12; (case q3_12 => (intro w' hS; obtain ⟨s1, s2⟩ := hS; first | (go_simp; done) | (go_simp; rfl))); (try simp only [PU])
    refine perm_q (v := ?v3_13) (some 25) rfl rfl rfl ?q3_13 ?h3_13; (case q3_13 => (intro w' hS; obtain ⟨s1, s2⟩ := hS; first | (go_simp; done) | (go_simp; rfl))); (try simp only [PU])
    refine perm_nil ?_
    go_wp2_with ((with_reducible refine at_store (t := 3) rfl ?_); go_must (refine ev_store (cs' := #[.string T, .int .i64 ((a : Int) + 1)]) rfl rfl rfl rfl rfl rfl HI.out.1 HI.out.2 rfl ((HK1.out.then (Keeps.refl Nob _).drew).blk Hb.out id) (Nat.le_of_ble_eq_true rfl) rfl ?_; intro w4 hb2 hk2); have Hb2 := Lib.hid hb2; have HK2 := Lib.hid hk2; clear hb2 hk2; (try simp only [PU]))
    go_ret
    exact ⟨rfl, Hn.out w4 Hb2.out, ((Keeps.refl (· = r) w).then (HK1.out.then (Keeps.refl Nob _).drew)).trans HK2.out (fun _ _ h => h)⟩
  · skip
    go_enter Tryd.func102, Tryd.ntmps102
    go_wp2_with (first
      | (go_at_call 73; go_must (refine (H73.out _ HK1.out).mono ?_; rintro e w2 ⟨rfl, hk1⟩); have HK1 := Lib.hid (HK1.out.trans hk1 (fun _ _ h => h)); clear hk1; (try simp only [PU]))
      | (go_at_call 72; go_must (refine (H72.out _).mono ?_; rintro e w3 ⟨rfl, rfl⟩); (try simp only [PU]))
    )
    have c0 := (blk_cell (HK1.out.blk Hb.out id) 0).trans rfl
    have c1 := (blk_cell (HK1.out.blk Hb.out id) 1).trans rfl
    refine wp_region_perm [(0, true), (1, true), (2, true), (3, true), (4, true), (5, true), (6, true), (7, true), (8, true), (9, true), (10, true), (11, true), (12, true), (13, true)] (fun w' => w'.cell? ⟨r, 0, none⟩ = some (.string T) ∧ w'.cell? ⟨r, 1, none⟩ = some (.int .i64 a)) rfl (by kernel_rfl) (by kernel_rfl) (by decide) (fun c a d v w h => by cases d <;> exact h) ⟨c0, c1⟩ ?_
    refine perm_q (v := ?v4_0) (some 12) rfl rfl rfl ?q4_0 ?h4_0; (case q4_0 => (intro w' hS; obtain ⟨s1, s2⟩ := hS; first | (go_simp; done) | (go_simp; rfl))); (try simp only [PU])
    refine perm_q (v := ?v4_1) (some 13) rfl rfl rfl ?q4_1 ?h4_1; (case q4_1 => (intro w' hS; obtain ⟨s1, s2⟩ := hS; first | (go_simp; done) | (go_simp; rfl))); (try simp only [PU])
    refine perm_q (v := ?v4_2) (some 14) rfl rfl rfl ?q4_2 ?h4_2; (case q4_2 => (intro w' hS; obtain ⟨s1, s2⟩ := hS; first | (go_simp; done) | (go_simp; rfl))); (try simp only [PU])
    refine perm_q (v := ?v4_3) (some 15) rfl rfl rfl ?q4_3 ?h4_3; (case q4_3 => (intro w' hS; obtain ⟨s1, s2⟩ := hS; first | (go_simp; done) | (go_simp; rfl))); (try simp only [PU])
    refine perm_q (v := ?v4_4) (some 16) rfl rfl rfl ?q4_4 ?h4_4; (case q4_4 => (intro w' hS; obtain ⟨s1, s2⟩ := hS; first | (go_simp; done) | (go_simp; rfl))); (try simp only [PU])
    refine perm_q (v := ?v4_5) (some 17) rfl rfl rfl ?q4_5 ?h4_5; (case q4_5 => (intro w' hS; obtain ⟨s1, s2⟩ := hS; first | (go_simp; done) | (go_simp; rfl))); (try simp only [PU])
    refine perm_q (v := ?v4_6) (some 18) rfl rfl rfl ?q4_6 ?h4_6; (case q4_6 => (intro w' hS; obtain ⟨s1, s2⟩ := hS; first | (go_simp; done) | (go_simp; rfl))); (try simp only [PU])
    refine perm_q (v := ?v4_7) (some 19) rfl rfl rfl ?q4_7 ?h4_7; (case q4_7 => (intro w' hS; obtain ⟨s1, s2⟩ := hS; first | (go_simp; done) | (go_simp; rfl))); (try simp only [PU])
    refine perm_q (v := ?v4_8) (some 20) rfl rfl rfl ?q4_8 ?h4_8; (case q4_8 => (intro w' hS; obtain ⟨s1, s2⟩ := hS; first | (go_simp; done) | (go_simp; rfl))); (try simp only [PU])
    refine perm_q (v := ?v4_9) (some 21) rfl rfl rfl ?q4_9 ?h4_9; (case q4_9 => (intro w' hS; obtain ⟨s1, s2⟩ := hS; first | (go_simp; done) | (go_simp; rfl))); (try simp only [PU])
    refine perm_q (v := ?v4_10) (some 22) rfl rfl rfl ?q4_10 ?h4_10; (case q4_10 => (intro w' hS; obtain ⟨s1, s2⟩ := hS; first | (go_simp; done) | (go_simp; rfl))); (try simp only [PU])
    refine perm_q (v := ?v4_11) (some 23) rfl rfl rfl ?q4_11 ?h4_11; (case q4_11 => (intro w' hS; obtain ⟨s1, s2⟩ := hS; first | (go_simp; done) | (go_simp; rfl))); (try simp only [PU])
    refine perm_q (v := ?v4_12) (some 24) rfl rfl rfl ?q4_12 ?h4_12; (case q4_12 => (intro w' hS; obtain ⟨s1, s2⟩ := hS; first | (go_simp; done) | (go_simp; rfl))); (try simp only [PU])
    refine perm_q (v := ?v4_13) (some 25) rfl rfl rfl ?q4_13 ?h4_13; (case q4_13 => (intro w' hS; obtain ⟨s1, s2⟩ := hS; first | (go_simp; done) | (go_simp; rfl))); (try simp only [PU])
    refine perm_nil ?_
    go_wp2_with ((with_reducible refine at_store (t := 3) rfl ?_); go_must (refine ev_store (cs' := #[.string T, .int .i64 ((a : Int) + 1)]) rfl rfl rfl rfl rfl rfl HI.out.1 HI.out.2 rfl ((HK1.out.then (Keeps.refl Nob _).drew).blk Hb.out id) (Nat.le_of_ble_eq_true rfl) rfl ?_; intro w4 hb2 hk2); have Hb2 := Lib.hid hb2; have HK2 := Lib.hid hk2; clear hb2 hk2; (try simp only [PU]))
    go_ret
    exact ⟨rfl, Hn.out w4 Hb2.out, ((Keeps.refl (· = r) w).then (HK1.out.then (Keeps.refl Nob _).drew)).trans HK2.out (fun _ _ h => h)⟩
  · skip
    go_enter Tryd.func102, Tryd.ntmps102
    go_wp2_with (first
      | (go_at_call 73; go_must (refine (H73.out _ HK1.out).mono ?_; rintro e w2 ⟨rfl, hk1⟩); have HK1 := Lib.hid (HK1.out.trans hk1 (fun _ _ h => h)); clear hk1; (try simp only [PU]))
      | (go_at_call 72; go_must (refine (H72.out _).mono ?_; rintro e w3 ⟨rfl, rfl⟩); (try simp only [PU]))
    )
    have c0 := (blk_cell (HK1.out.blk Hb.out id) 0).trans rfl
    have c1 := (blk_cell (HK1.out.blk Hb.out id) 1).trans rfl
    refine wp_region_perm [(0, true), (1, true), (2, true), (3, true), (4, true), (5, true), (6, true), (7, true), (8, true), (9, true), (10, true), (11, true), (12, true), (13, true)] (fun w' => w'.cell? ⟨r, 0, none⟩ = some (.string T) ∧ w'.cell? ⟨r, 1, none⟩ = some (.int .i64 a)) rfl (by kernel_rfl) (by kernel_rfl) (by decide) (fun c a d v w h => by cases d <;> exact h) ⟨c0, c1⟩ ?_
    refine perm_q (v := ?v5_0) (some 12) rfl rfl rfl ?q5_0 ?h5_0; (case q5_0 => (intro w' hS; obtain ⟨s1, s2⟩ := hS; first | (go_simp; done) | (go_simp; rfl))); (try simp only [PU])
    refine perm_q (v := ?v5_1) (some 13) rfl rfl rfl ?q5_1 ?h5_1; (case q5_1 => (intro w' hS; obtain ⟨s1, s2⟩ := hS; first | (go_simp; done) | (go_simp; rfl))); (try simp only [PU])
    refine perm_q (v := ?v5_2) (some 14) rfl rfl rfl ?q5_2 ?h5_2; (case q5_2 => (intro w' hS; obtain ⟨s1, s2⟩ := hS; first | (go_simp; done) | (go_simp; rfl))); (try simp only [PU])
    refine perm_q (v := ?v5_3) (some 15) rfl rfl rfl ?q5_3 ?h5_3; (case q5_3 => (intro w' hS; obtain ⟨s1, s2⟩ := hS; first | (go_simp; done) | (go_simp; rfl))); (try simp only [PU])
    refine perm_q (v := ?v5_4) (some 16) rfl rfl rfl ?q5_4 ?h5_4; (case q5_4 => (intro w' hS; obtain ⟨s1, s2⟩ := hS; first | (go_simp; done) | (go_simp; rfl))); (try simp only [PU])
    refine perm_q (v := ?v5_5) (some 17) rfl rfl rfl ?q5_5 ?h5_5; (case q5_5 => (intro w' hS; obtain ⟨s1, s2⟩ := hS; first | (go_simp; done) | (go_simp; rfl))); (try simp only [PU])
    refine perm_q (v := ?v5_6) (some 18) rfl rfl rfl ?q5_6 ?h5_6; (case q5_6 => (intro w' hS; obtain ⟨s1, s2⟩ := hS; first | (go_simp; done) | (go_simp; rfl))); (try simp only [PU])
    refine perm_q (v := ?v5_7) (some 19) rfl rfl rfl ?q5_7 ?h5_7; (case q5_7 => (intro w' hS; obtain ⟨s1, s2⟩ := hS; first | (go_simp; done) | (go_simp; rfl))); (try simp only [PU])
    refine perm_q (v := ?v5_8) (some 20) rfl rfl rfl ?q5_8 ?h5_8; (case q5_8 => (intro w' hS; obtain ⟨s1, s2⟩ := hS; first | (go_simp; done) | (go_simp; rfl))); (try simp only [PU])
    refine perm_q (v := ?v5_9) (some 21) rfl rfl rfl ?q5_9 ?h5_9; (case q5_9 => (intro w' hS; obtain ⟨s1, s2⟩ := hS; first | (go_simp; done) | (go_simp; rfl))); (try simp only [PU])
    refine perm_q (v := ?v5_10) (some 22) rfl rfl rfl ?q5_10 ?h5_10; (case q5_10 => (intro w' hS; obtain ⟨s1, s2⟩ := hS; first | (go_simp; done) | (go_simp; rfl))); (try simp only [PU])
    refine perm_q (v := ?v5_11) (some 23) rfl rfl rfl ?q5_11 ?h5_11; (case q5_11 => (intro w' hS; obtain ⟨s1, s2⟩ := hS; first | (go_simp; done) | (go_simp; rfl))); (try simp only [PU])
    refine perm_q (v := ?v5_12) (some 24) rfl rfl rfl ?q5_12 ?h5_12; (case q5_12 => (intro w' hS; obtain ⟨s1, s2⟩ := hS; first | (go_simp; done) | (go_simp; rfl))); (try simp only [PU])
    refine perm_q (v := ?v5_13) (some 25) rfl rfl rfl ?q5_13 ?h5_13; (case q5_13 => (intro w' hS; obtain ⟨s1, s2⟩ := hS; first | (go_simp; done) | (go_simp; rfl))); (try simp only [PU])
    refine perm_nil ?_
    go_wp2_with ((with_reducible refine at_store (t := 3) rfl ?_); go_must (refine ev_store (cs' := #[.string T, .int .i64 ((a : Int) + 1)]) rfl rfl rfl rfl rfl rfl HI.out.1 HI.out.2 rfl ((HK1.out.then (Keeps.refl Nob _).drew).blk Hb.out id) (Nat.le_of_ble_eq_true rfl) rfl ?_; intro w4 hb2 hk2); have Hb2 := Lib.hid hb2; have HK2 := Lib.hid hk2; clear hb2 hk2; (try simp only [PU]))
    go_ret
    exact ⟨rfl, Hn.out w4 Hb2.out, ((Keeps.refl (· = r) w).then (HK1.out.then (Keeps.refl Nob _).drew)).trans HK2.out (fun _ _ h => h)⟩
  · skip
    go_enter Tryd.func102, Tryd.ntmps102
    go_wp2_with (first
      | (go_at_call 73; go_must (refine (H73.out _ HK1.out).mono ?_; rintro e w2 ⟨rfl, hk1⟩); have HK1 := Lib.hid (HK1.out.trans hk1 (fun _ _ h => h)); clear hk1; (try simp only [PU]))
      | (go_at_call 72; go_must (refine (H72.out _).mono ?_; rintro e w3 ⟨rfl, rfl⟩); (try simp only [PU]))
    )
    have c0 := (blk_cell (HK1.out.blk Hb.out id) 0).trans rfl
    have c1 := (blk_cell (HK1.out.blk Hb.out id) 1).trans rfl
    refine wp_region_perm [(0, true), (1, true), (2, true), (3, true), (4, true), (5, true), (6, true), (7, true), (8, true), (9, true), (10, true), (11, true), (12, true), (13, true)] (fun w' => w'.cell? ⟨r, 0, none⟩ = some (.string T) ∧ w'.cell? ⟨r, 1, none⟩ = some (.int .i64 a)) rfl (by kernel_rfl) (by kernel_rfl) (by decide) (fun c a d v w h => by cases d <;> exact h) ⟨c0, c1⟩ ?_
    refine perm_q (v := ?v6_0) (some 12) rfl rfl rfl ?q6_0 ?h6_0; (case q6_0 => (intro w' hS; obtain ⟨s1, s2⟩ := hS; first | (go_simp; done) | (go_simp; rfl))); (try simp only [PU])
    refine perm_q (v := ?v6_1) (some 13) rfl rfl rfl ?q6_1 ?h6_1; (case q6_1 => (intro w' hS; obtain ⟨s1, s2⟩ := hS; first | (go_simp; done) | (go_simp; rfl))); (try simp only [PU])
    refine perm_q (v := ?v6_2) (some 14) rfl rfl rfl ?q6_2 ?h6_2; (case q6_2 => (intro w' hS; obtain ⟨s1, s2⟩ := hS; first | (go_simp; done) | (go_simp; rfl))); (try simp only [PU])
    refine perm_q (v := ?v6_3) (some 15) rfl rfl rfl ?q6_3 ?h6_3; (case q6_3 => (intro w' hS; obtain ⟨s1, s2⟩ := hS; first | (go_simp; done) | (go_simp; rfl))); (try simp only [PU])
    refine perm_q (v := ?v6_4) (some 16) rfl rfl rfl ?q6_4 ?h6_4; (case q6_4 => (intro w' hS; obtain ⟨s1, s2⟩ := hS; first | (go_simp; done) | (go_simp; rfl))); (try simp only [PU])
    refine perm_q (v := ?v6_5) (some 17) rfl rfl rfl ?q6_5 ?h6_5; (case q6_5 => (intro w' hS; obtain ⟨s1, s2⟩ := hS; first | (go_simp; done) | (go_simp; rfl))); (try simp only [PU])
    refine perm_q (v := ?v6_6) (some 18) rfl rfl rfl ?q6_6 ?h6_6; (case q6_6 => (intro w' hS; obtain ⟨s1, s2⟩ := hS; first | (go_simp; done) | (go_simp; rfl))); (try simp only [PU])
    refine perm_q (v := ?v6_7) (some 19) rfl rfl rfl ?q6_7 ?h6_7; (case q6_7 => (intro w' hS; obtain ⟨s1, s2⟩ := hS; first | (go_simp; done) | (go_simp; rfl))); (try simp only [PU])
    refine perm_q (v := ?v6_8) (some 20) rfl rfl rfl ?q6_8 ?h6_8; (case q6_8 => (intro w' hS; obtain ⟨s1, s2⟩ := hS; first | (go_simp; done) | (go_simp; rfl))); (try simp only [PU])
    refine perm_q (v := ?v6_9) (some 21) rfl rfl rfl ?q6_9 ?h6_9; (case q6_9 => (intro w' hS; obtain ⟨s1, s2⟩ := hS; first | (go_simp; done) | (go_simp; rfl))); (try simp only [PU])
    refine perm_q (v := ?v6_10) (some 22) rfl rfl rfl ?q6_10 ?h6_10; (case q6_10 => (intro w' hS; obtain ⟨s1, s2⟩ := hS; first | (go_simp; done) | (go_simp; rfl))); (try simp only [PU])
    refine perm_q (v := ?v6_11) (some 23) rfl rfl rfl ?q6_11 ?h6_11; (case q6_11 => (intro w' hS; obtain ⟨s1, s2⟩ := hS; first | (go_simp; done) | (go_simp; rfl))); (try simp only [PU])
    refine perm_q (v := ?v6_12) (some 24) rfl rfl rfl ?q6_12 ?h6_12; (case q6_12 => (intro w' hS; obtain ⟨s1, s2⟩ := hS; first | (go_simp; done) | (go_simp; rfl))); (try simp only [PU])
    refine perm_q (v := ?v6_13) (some 25) rfl rfl rfl ?q6_13 ?h6_13; (case q6_13 => (intro w' hS; obtain ⟨s1, s2⟩ := hS; first | (go_simp; done) | (go_simp; rfl))); (try simp only [PU])
    refine perm_nil ?_
    go_wp2_with ((with_reducible refine at_store (t := 3) rfl ?_); go_must (refine ev_store (cs' := #[.string T, .int .i64 ((a : Int) + 1)]) rfl rfl rfl rfl rfl rfl HI.out.1 HI.out.2 rfl ((HK1.out.then (Keeps.refl Nob _).drew).blk Hb.out id) (Nat.le_of_ble_eq_true rfl) rfl ?_; intro w4 hb2 hk2); have Hb2 := Lib.hid hb2; have HK2 := Lib.hid hk2; clear hb2 hk2; (try simp only [PU]))
    go_ret
    exact ⟨rfl, Hn.out w4 Hb2.out, ((Keeps.refl (· = r) w).then (HK1.out.then (Keeps.refl Nob _).drew)).trans HK2.out (fun _ _ h => h)⟩
  · skip
    go_enter Tryd.func102, Tryd.ntmps102
    go_wp2_with (first
      | (go_at_call 73; go_must (refine (H73.out _ HK1.out).mono ?_; rintro e w2 ⟨rfl, hk1⟩); have HK1 := Lib.hid (HK1.out.trans hk1 (fun _ _ h => h)); clear hk1; (try simp only [PU]))
      | (go_at_call 72; go_must (refine (H72.out _).mono ?_; rintro e w3 ⟨rfl, rfl⟩); (try simp only [PU]))
    )
    have c0 := (blk_cell (HK1.out.blk Hb.out id) 0).trans rfl
    have c1 := (blk_cell (HK1.out.blk Hb.out id) 1).trans rfl
    refine wp_region_perm [(0, true), (1, true), (2, true), (3, true), (4, true), (5, true), (6, true), (7, true), (8, true), (9, true), (10, true), (11, true), (12, true), (13, true)] (fun w' => w'.cell? ⟨r, 0, none⟩ = some (.string T) ∧ w'.cell? ⟨r, 1, none⟩ = some (.int .i64 a)) rfl (by kernel_rfl) (by kernel_rfl) (by decide) (fun c a d v w h => by cases d <;> exact h) ⟨c0, c1⟩ ?_
    refine perm_q (v := ?v7_0) (some 12) rfl rfl rfl ?q7_0 ?h7_0; (case q7_0 => (intro w' hS; obtain ⟨s1, s2⟩ := hS; first | (go_simp; done) | (go_simp; rfl))); (try simp only [PU])
    refine perm_q (v := ?v7_1) (some 13) rfl rfl rfl ?q7_1 ?h7_1; (case q7_1 => (intro w' hS; obtain ⟨s1, s2⟩ := hS; first | (go_simp; done) | (go_simp; rfl))); (try simp only [PU])
    refine perm_q (v := ?v7_2) (some 14) rfl rfl rfl ?q7_2 ?h7_2; (case q7_2 => (intro w' hS; obtain ⟨s1, s2⟩ := hS; first | (go_simp; done) | (go_simp; rfl))); (try simp only [PU])
    refine perm_q (v := ?v7_3) (some 15) rfl rfl rfl ?q7_3 ?h7_3; (case q7_3 => (intro w' hS; obtain ⟨s1, s2⟩ := hS; first | (go_simp; done) | (go_simp; rfl))); (try simp only [PU])
    refine perm_q (v := ?v7_4) (some 16) rfl rfl rfl ?q7_4 ?h7_4; (case q7_4 => (intro w' hS; obtain ⟨s1, s2⟩ := hS; first | (go_simp; done) | (go_simp; rfl))); (try simp only [PU])
    refine perm_q (v := ?v7_5) (some 17) rfl rfl rfl ?q7_5 ?h7_5; (case q7_5 => (intro w' hS; obtain ⟨s1, s2⟩ := hS; first | (go_simp; done) | (go_simp; rfl))); (try simp only [PU])
    refine perm_q (v := ?v7_6) (some 18) rfl rfl rfl ?q7_6 ?h7_6; (case q7_6 => (intro w' hS; obtain ⟨s1, s2⟩ := hS; first | (go_simp; done) | (go_simp; rfl))); (try simp only [PU])
    refine perm_q (v := ?v7_7) (some 19) rfl rfl rfl ?q7_7 ?h7_7; (case q7_7 => (intro w' hS; obtain ⟨s1, s2⟩ := hS; first | (go_simp; done) | (go_simp; rfl))); (try simp only [PU])
    refine perm_q (v := ?v7_8) (some 20) rfl rfl rfl ?q7_8 ?h7_8; (case q7_8 => (intro w' hS; obtain ⟨s1, s2⟩ := hS; first | (go_simp; done) | (go_simp; rfl))); (try simp only [PU])
    refine perm_q (v := ?v7_9) (some 21) rfl rfl rfl ?q7_9 ?h7_9; (case q7_9 => (intro w' hS; obtain ⟨s1, s2⟩ := hS; first | (go_simp; done) | (go_simp; rfl))); (try simp only [PU])
    refine perm_q (v := ?v7_10) (some 22) rfl rfl rfl ?q7_10 ?h7_10; (case q7_10 => (intro w' hS; obtain ⟨s1, s2⟩ := hS; first | (go_simp; done) | (go_simp; rfl))); (try simp only [PU])
    refine perm_q (v := ?v7_11) (some 23) rfl rfl rfl ?q7_11 ?h7_11; (case q7_11 => (intro w' hS; obtain ⟨s1, s2⟩ := hS; first | (go_simp; done) | (go_simp; rfl))); (try simp only [PU])
    refine perm_q (v := ?v7_12) (some 24) rfl rfl rfl ?q7_12 ?h7_12; (case q7_12 => (intro w' hS; obtain ⟨s1, s2⟩ := hS; first | (go_simp; done) | (go_simp; rfl))); (try simp only [PU])
    refine perm_q (v := ?v7_13) (some 25) rfl rfl rfl ?q7_13 ?h7_13; (case q7_13 => (intro w' hS; obtain ⟨s1, s2⟩ := hS; first | (go_simp; done) | (go_simp; rfl))); (try simp only [PU])
    refine perm_nil ?_
    go_wp2_with ((with_reducible refine at_store (t := 3) rfl ?_); go_must (refine ev_store (cs' := #[.string T, .int .i64 ((a : Int) + 1)]) rfl rfl rfl rfl rfl rfl HI.out.1 HI.out.2 rfl ((HK1.out.then (Keeps.refl Nob _).drew).blk Hb.out id) (Nat.le_of_ble_eq_true rfl) rfl ?_; intro w4 hb2 hk2); have Hb2 := Lib.hid hb2; have HK2 := Lib.hid hk2; clear hb2 hk2; (try simp only [PU]))
    go_ret
    exact ⟨rfl, Hn.out w4 Hb2.out, ((Keeps.refl (· = r) w).then (HK1.out.then (Keeps.refl Nob _).drew)).trans HK2.out (fun _ _ h => h)⟩
  · skip
    go_enter Tryd.func102, Tryd.ntmps102
    go_wp2_with (first
      | (go_at_call 73; go_must (refine (H73.out _ HK1.out).mono ?_; rintro e w2 ⟨rfl, hk1⟩); have HK1 := Lib.hid (HK1.out.trans hk1 (fun _ _ h => h)); clear hk1; (try simp only [PU]))
      | (go_at_call 72; go_must (refine (H72.out _).mono ?_; rintro e w3 ⟨rfl, rfl⟩); (try simp only [PU]))
    )
    have c0 := (blk_cell (HK1.out.blk Hb.out id) 0).trans rfl
    have c1 := (blk_cell (HK1.out.blk Hb.out id) 1).trans rfl
    refine wp_region_perm [(0, true), (1, true), (2, true), (3, true), (4, true), (5, true), (6, true), (7, true), (8, true), (9, true), (10, true), (11, true), (12, true), (13, true)] (fun w' => w'.cell? ⟨r, 0, none⟩ = some (.string T) ∧ w'.cell? ⟨r, 1, none⟩ = some (.int .i64 a)) rfl (by kernel_rfl) (by kernel_rfl) (by decide) (fun c a d v w h => by cases d <;> exact h) ⟨c0, c1⟩ ?_
    refine perm_q (v := ?v8_0) (some 12) rfl rfl rfl ?q8_0 ?h8_0; (case q8_0 => (intro w' hS; obtain ⟨s1, s2⟩ := hS; first | (go_simp; done) | (go_simp; rfl))); (try simp only [PU])
    refine perm_q (v := ?v8_1) (some 13) rfl rfl rfl ?q8_1 ?h8_1; (case q8_1 => (intro w' hS; obtain ⟨s1, s2⟩ := hS; first | (go_simp; done) | (go_simp; rfl))); (try simp only [PU])
    refine perm_q (v := ?v8_2) (some 14) rfl rfl rfl ?q8_2 ?h8_2; (case q8_2 => (intro w' hS; obtain ⟨s1, s2⟩ := hS; first | (go_simp; done) | (go_simp; rfl))); (try simp only [PU])
    refine perm_q (v := ?v8_3) (some 15) rfl rfl rfl ?q8_3 ?h8_3; (case q8_3 => (intro w' hS; obtain ⟨s1, s2⟩ := hS; first | (go_simp; done) | (go_simp; rfl))); (try simp only [PU])
    refine perm_q (v := ?v8_4) (some 16) rfl rfl rfl ?q8_4 ?h8_4; (case q8_4 => (intro w' hS; obtain ⟨s1, s2⟩ := hS; first | (go_simp; done) | (go_simp; rfl))); (try simp only [PU])
    refine perm_q (v := ?v8_5) (some 17) rfl rfl rfl ?q8_5 ?h8_5; (case q8_5 => (intro w' hS; obtain ⟨s1, s2⟩ := hS; first | (go_simp; done) | (go_simp; rfl))); (try simp only [PU])
    refine perm_q (v := ?v8_6) (some 18) rfl rfl rfl ?q8_6 ?h8_6; (case q8_6 => (intro w' hS; obtain ⟨s1, s2⟩ := hS; first | (go_simp; done) | (go_simp; rfl))); (try simp only [PU])
    refine perm_q (v := ?v8_7) (some 19) rfl rfl rfl ?q8_7 ?h8_7; (case q8_7 => (intro w' hS; obtain ⟨s1, s2⟩ := hS; first | (go_simp; done) | (go_simp; rfl))); (try simp only [PU])
    refine perm_q (v := ?v8_8) (some 20) rfl rfl rfl ?q8_8 ?h8_8; (case q8_8 => (intro w' hS; obtain ⟨s1, s2⟩ := hS; first | (go_simp; done) | (go_simp; rfl))); (try simp only [PU])
    refine perm_q (v := ?v8_9) (some 21) rfl rfl rfl ?q8_9 ?h8_9; (case q8_9 => (intro w' hS; obtain ⟨s1, s2⟩ := hS; first | (go_simp; done) | (go_simp; rfl))); (try simp only [PU])
    refine perm_q (v := ?v8_10) (some 22) rfl rfl rfl ?q8_10 ?h8_10; (case q8_10 => (intro w' hS; obtain ⟨s1, s2⟩ := hS; first | (go_simp; done) | (go_simp; rfl))); (try simp only [PU])
    refine perm_q (v := ?v8_11) (some 23) rfl rfl rfl ?q8_11 ?h8_11; (case q8_11 => (intro w' hS; obtain ⟨s1, s2⟩ := hS; first | (go_simp; done) | (go_simp; rfl))); (try simp only [PU])
    refine perm_q (v := ?v8_12) (some 24) rfl rfl rfl ?q8_12 ?h8_12; (case q8_12 => (intro w' hS; obtain ⟨s1, s2⟩ := hS; first | (go_simp; done) | (go_simp; rfl))); (try simp only [PU])
    refine perm_q (v := ?v8_13) (some 25) rfl rfl rfl ?q8_13 ?h8_13; (case q8_13 => (intro w' hS; obtain ⟨s1, s2⟩ := hS; first | (go_simp; done) | (go_simp; rfl))); (try simp only [PU])
    refine perm_nil ?_
    go_wp2_with ((with_reducible refine at_store (t := 3) rfl ?_); go_must (refine ev_store (cs' := #[.string T, .int .i64 ((a : Int) + 1)]) rfl rfl rfl rfl rfl rfl HI.out.1 HI.out.2 rfl ((HK1.out.then (Keeps.refl Nob _).drew).blk Hb.out id) (Nat.le_of_ble_eq_true rfl) rfl ?_; intro w4 hb2 hk2); have Hb2 := Lib.hid hb2; have HK2 := Lib.hid hk2; clear hb2 hk2; (try simp only [PU]))
    go_ret
    exact ⟨rfl, Hn.out w4 Hb2.out, ((Keeps.refl (· = r) w).then (HK1.out.then (Keeps.refl Nob _).drew)).trans HK2.out (fun _ _ h => h)⟩
theorem nz1 (c : UInt8) (h : c ≠ 0) : ∀ i (hi : i < (ByteArray.mk #[c]).size), (ByteArray.mk #[c])[i] ≠ 0 := by
  intro i hi
  have h1 : i < 1 := hi
  match i, h1 with
  | 0, _ => exact h
theorem hexB4_none (k n : Nat) (s : Bs) (h : hexD (headB s) = none) : hexB4 (k + 1) n s = .error s.length := by
  cases s with
  | nil => rfl
  | cons c q => have h' : hexD c = none := h; simp [hexB4, h']
theorem hexB4_some (k n d : Nat) (c : UInt8) (q : Bs) (h : hexD c = some d) : hexB4 (k + 1) n (c :: q) = if k = 0 ∧ 255 < n * 16 + d then .error (q.length + 1) else hexB4 k (n * 16 + d) q := by
  simp only [hexB4, h]
def byteR : R Nat → R UInt8
  | .ok x => .ok (UInt8.ofNat x.1, x.2)
  | .error e => .error e
theorem u8_wrap (n : Nat) (h : n ≤ 255) : ((UInt8.ofNat n).toNat : Int) = (n : Int) := by
  rw [UInt8.toNat_ofNat']
  omega
set_option maxHeartbeats 4000000 in
/-- escape, otherwise. -/
theorem escLong {w : World} {r : Nat} {T : ByteArray} {s : Bs} (h : Rd w r T s) (hsn : shortB (headB s) = none) : Calls Tryd.prog 102 #[.pointer (some ⟨r, 0, none⟩)] w (EndR w r T (fun b => .int .u8 b.toNat) (escB s)) := by
  obtain ⟨i3, hi3, hs3⟩ := infoS3
  have HI := Lib.hid (And.intro hi3 hs3)
  have H73 := Lib.hid (fun W (hk : Keeps Nob w W) => next73 (h.keep hk id))
  have H72 := Lib.hid (fun W => short72 s W)
  have hx : Lib.indexByte shortT (headB s) = -1 := by
    rcases shortS (headB s) with h1 | ⟨b, i, h1, -⟩
    · exact h1.2
    · rw [hsn] at h1; cases h1
  rw [hx] at H72
  have H74 := Lib.hid (fun W (hk : Keeps Nob w W) => word74 (h.keep hk id) ⟨#[117]⟩ (by decide) (nz1 117 (by decide)))
  rw [escB_word s hsn]
  have hbl : bl ⟨#[117]⟩ = [117] := rfl
  rw [hbl] at H74
  have Hblk := Lib.hid h.blk
  obtain ⟨hv, hhv⟩ : ∃ x, headN s = x := ⟨_, rfl⟩
  rw [hhv] at H73 H72
  have HK1 := Lib.hid (Keeps.refl Nob w)
  clear hx hbl hsn hhv hi3 hs3 h
  rcases hw : wordB [117] s with n | s1
  · rw [hw] at H74
    clear hw
    show Calls _ _ _ _ (EndR w r T (fun b : UInt8 => Value.int .u8 b.toNat) (.error n))
    go_enter Tryd.func102, Tryd.ntmps102
    go_wp2_with (first
      | (go_at_call 73; go_must (refine (H73.out _ HK1.out).mono ?_; rintro e w2 ⟨rfl, hk1⟩); have HK1 := Lib.hid (HK1.out.trans hk1 (fun _ _ h => h)); clear hk1; (try simp only [PU]))
      | (go_at_call 72; go_must (refine (H72.out _).mono ?_; rintro e w3 ⟨rfl, rfl⟩); (try simp only [PU]))
    )
    have c0 := (blk_cell (HK1.out.blk Hblk.out id) 0).trans rfl
    have c1 := (blk_cell (HK1.out.blk Hblk.out id) 1).trans rfl
    refine wp_region_perm [(0, true), (1, true), (2, true), (3, true), (4, true), (5, true), (6, true), (7, true), (8, true), (9, true), (10, true), (11, true), (12, true), (13, true)] (fun w' => True) rfl (by kernel_rfl) (by kernel_rfl) (by decide) (fun c a d v w h => by cases d <;> exact h) trivial ?_
    refine perm_q (v := ?v9_0) (some 12) rfl rfl rfl ?q9_0 ?h9_0; (case q9_0 => (intro w' hS; skip; first | (go_simp; done) | (go_simp; rfl))); (try simp only [PU])
    refine perm_q (v := ?v9_1) (some 13) rfl rfl rfl ?q9_1 ?h9_1; (case q9_1 => (intro w' hS; skip; first | (go_simp; done) | (go_simp; rfl))); (try simp only [PU])
    refine perm_q (v := ?v9_2) (some 14) rfl rfl rfl ?q9_2 ?h9_2; (case q9_2 => (intro w' hS; skip; first | (go_simp; done) | (go_simp; rfl))); (try simp only [PU])
    refine perm_skip (some 15) rfl rfl rfl ?_; (try simp only [PU])
    refine perm_skip (some 16) rfl rfl rfl ?_; (try simp only [PU])
    refine perm_skip (some 17) rfl rfl rfl ?_; (try simp only [PU])
    refine perm_skip (some 18) rfl rfl rfl ?_; (try simp only [PU])
    refine perm_skip (some 19) rfl rfl rfl ?_; (try simp only [PU])
    refine perm_skip (some 20) rfl rfl rfl ?_; (try simp only [PU])
    refine perm_skip (some 21) rfl rfl rfl ?_; (try simp only [PU])
    refine perm_skip (some 22) rfl rfl rfl ?_; (try simp only [PU])
    refine perm_skip (some 23) rfl rfl rfl ?_; (try simp only [PU])
    refine perm_skip (some 24) rfl rfl rfl ?_; (try simp only [PU])
    refine perm_q (v := ?v9_13) (some 25) rfl rfl rfl ?q9_13 ?h9_13; (case q9_13 => (intro w' hS; skip; first | (go_simp; done) | (go_simp; rfl))); (try simp only [PU])
    refine perm_nil ?_
    have HK2 := Lib.hid (HK1.out.then (Keeps.refl Nob _).drew)
    go_wp2_with (first
      | (go_at_call 74; go_must (refine (H74.out _ HK2.out).mono ?_; rintro e w4 ⟨rfl, hk4⟩); have HK4 := Lib.hid hk4; clear hk4; unfold stopAt; (try simp only [PU]))
    )
    exact ⟨rfl, rfl, ((Keeps.refl (· = r) w).then HK2.out).trans HK4.out (fun _ _ h => h)⟩
  · rw [hw] at H74
    clear hw
    obtain ⟨R0, hR0⟩ : ∃ x, hexB4 4 0 s1 = x := ⟨_, rfl⟩
    have hres : (match (Except.ok s1 : Except Nat Bs) with | .error n => (Except.error n : R UInt8) | .ok r => (match hexB4 4 0 r with | .ok x => .ok (UInt8.ofNat x.1, x.2) | .error e => .error e)) = byteR R0 := by
      rw [← hR0]
      show (match hexB4 4 0 s1 with | .ok x => (Except.ok (UInt8.ofNat x.1, x.2) : R UInt8) | .error e => .error e) = _
      cases hexB4 4 0 s1 <;> rfl
    rw [hres]
    obtain ⟨RR, hRR⟩ : ∃ x, byteR R0 = x := ⟨_, rfl⟩
    rw [hRR]
    have HRR := Lib.hid hRR
    have HR0 := Lib.hid hR0
    clear hres hRR hR0
    go_enter Tryd.func102, Tryd.ntmps102
    go_wp2_with (first
      | (go_at_call 73; go_must (refine (H73.out _ HK1.out).mono ?_; rintro e w2 ⟨rfl, hk1⟩); have HK1 := Lib.hid (HK1.out.trans hk1 (fun _ _ h => h)); clear hk1; (try simp only [PU]))
      | (go_at_call 72; go_must (refine (H72.out _).mono ?_; rintro e w3 ⟨rfl, rfl⟩); (try simp only [PU]))
    )
    have c0 := (blk_cell (HK1.out.blk Hblk.out id) 0).trans rfl
    have c1 := (blk_cell (HK1.out.blk Hblk.out id) 1).trans rfl
    refine wp_region_perm [(0, true), (1, true), (2, true), (3, true), (4, true), (5, true), (6, true), (7, true), (8, true), (9, true), (10, true), (11, true), (12, true), (13, true)] (fun w' => True) rfl (by kernel_rfl) (by kernel_rfl) (by decide) (fun c a d v w h => by cases d <;> exact h) trivial ?_
    refine perm_q (v := ?v10_0) (some 12) rfl rfl rfl ?q10_0 ?h10_0; (case q10_0 => (intro w' hS; skip; first | (go_simp; done) | (go_simp; rfl))); (try simp only [PU])
    refine perm_q (v := ?v10_1) (some 13) rfl rfl rfl ?q10_1 ?h10_1; (case q10_1 => (intro w' hS; skip; first | (go_simp; done) | (go_simp; rfl))); (try simp only [PU])
    refine perm_q (v := ?v10_2) (some 14) rfl rfl rfl ?q10_2 ?h10_2; (case q10_2 => (intro w' hS; skip; first | (go_simp; done) | (go_simp; rfl))); (try simp only [PU])
    refine perm_skip (some 15) rfl rfl rfl ?_; (try simp only [PU])
    refine perm_skip (some 16) rfl rfl rfl ?_; (try simp only [PU])
    refine perm_skip (some 17) rfl rfl rfl ?_; (try simp only [PU])
    refine perm_skip (some 18) rfl rfl rfl ?_; (try simp only [PU])
    refine perm_skip (some 19) rfl rfl rfl ?_; (try simp only [PU])
    refine perm_skip (some 20) rfl rfl rfl ?_; (try simp only [PU])
    refine perm_skip (some 21) rfl rfl rfl ?_; (try simp only [PU])
    refine perm_skip (some 22) rfl rfl rfl ?_; (try simp only [PU])
    refine perm_skip (some 23) rfl rfl rfl ?_; (try simp only [PU])
    refine perm_skip (some 24) rfl rfl rfl ?_; (try simp only [PU])
    refine perm_q (v := ?v10_13) (some 25) rfl rfl rfl ?q10_13 ?h10_13; (case q10_13 => (intro w' hS; skip; first | (go_simp; done) | (go_simp; rfl))); (try simp only [PU])
    refine perm_nil ?_
    have HK2 := Lib.hid (HK1.out.then (Keeps.refl Nob _).drew)
    go_wp2_with (first
      | (go_at_call 74; go_must (refine (H74.out _ HK2.out).mono ?_; rintro e w4 ⟨⟨x4, rfl⟩, hr4, hk4⟩); have HR4 := Lib.hid hr4; have HK4 := Lib.hid (((Keeps.refl (· = r) w).then HK2.out).trans hk4 (fun _ _ h => h)); clear hk4 hr4; (try simp only [PU]))
    )
    clear c0 c1
    go_loopw [5, 6, 7, 37] (fun nv iv dv kv wr => ∃ (i n : Nat) (s' : Bs), kv = .int .i64 i ∧ i ≤ 4 ∧ nv = .int .i64 n ∧ n ≤ 65535 ∧ Hid (n < 16 ^ i) ∧ Hid (Rd wr r T s') ∧ Hid (Keeps (· = r) w wr) ∧ Hid (hexB4 (4 - i) n s' = R0) ∧ Hid (i = 4 → n ≤ 255)) (fun _ _ _ kv _ => 4 - (intOf kv).toNat)
    case atStart => exact ⟨0, 0, s1, rfl, by omega, rfl, by omega, Lib.hid (by decide), HR4, HK4, HR0, Lib.hid (fun h => by omega)⟩
    case round =>
      obtain ⟨i, n, s', rfl, hi, rfl, hn, Hp, Hr, HK, HE, H255⟩ := hrel
      by_cases hlt : i < 4
      · have H73 := Lib.hid (fun W (hk : Keeps Nob wr W) => next73 (Hr.out.keep hk id))
        have H72 := Lib.hid (fun W => hex72 s' W)
        have Hfail := Lib.hid (fun W (hk : Keeps Nob wr W) => fail47 (Hr.out.keep hk id) s'.length Hr.out.le)
        have Hb := Lib.hid Hr.out.blk
        have HK1 := Lib.hid (Keeps.refl Nob wr)
        have h4 : 4 - i = (3 - i) + 1 := by omega
        have HE2 := Lib.hid (show hexB4 ((3 - i) + 1) n s' = R0 by rw [← h4]; exact HE.out)
        obtain ⟨hv', hhv⟩ : ∃ x, headN s' = x := ⟨_, rfl⟩
        rw [hhv] at H73 H72
        clear h4 hhv
        rcases hexS (headB s') with ⟨hnone, hidx⟩ | ⟨d, hsome, hd, hidx⟩
        · rw [hidx] at H72
          have HR2 := Lib.hid (show RR = .error s'.length by rw [← HRR.out, ← HE2.out, hexB4_none _ _ _ hnone]; rfl)
          obtain ⟨m, hm⟩ : ∃ x, s'.length = x := ⟨_, rfl⟩
          rw [hm] at HR2 Hfail Hb
          clear hnone hidx hm
          go_wp2_with (first
            | (go_at_call 73; go_must (refine (H73.out _ HK1.out).mono ?_; rintro e w2 ⟨rfl, hk1⟩); have HK1 := Lib.hid (HK1.out.trans hk1 (fun _ _ h => h)); clear hk1; (try simp only [PU]))
            | (go_at_call 72; go_must (refine (H72.out _).mono ?_; rintro e w3 ⟨rfl, rfl⟩); (try simp only [PU]))
            | (go_at_call 47; go_must (refine (Hfail.out _ HK1.out).mono ?_; rintro e w5 ⟨rfl, rfl⟩); unfold stopAt; (try simp only [PU]))
            | ((with_reducible refine at_store (t := 3) rfl ?_); go_must (refine ev_store (cs' := #[.string T, .int .i64 ((a : Int) + 1)]) rfl rfl rfl rfl rfl rfl HI.out.1 HI.out.2 rfl (HK1.out.blk Hb.out id) (Nat.le_of_ble_eq_true rfl) rfl ?_; intro w4 hb2 hk2); have Hb2 := Lib.hid hb2; have HK2 := Lib.hid hk2; clear hb2 hk2; (try simp only [PU]))
          )
          refine wp_region_perm [(0, true), (1, true), (2, true), (3, true), (4, true), (5, true), (6, true), (7, true), (8, true), (9, true), (10, true), (11, true), (12, true), (13, true)] (fun w' => True) rfl (by kernel_rfl) (by kernel_rfl) (by decide) (fun c a d v w h => by cases d <;> exact h) trivial ?_
          refine perm_q (v := ?v11_0) (some 43) rfl rfl rfl ?q11_0 ?h11_0; (case q11_0 => (intro w' hS; skip; first | (go_simp; done) | (go_simp; rfl))); (try simp only [PU])
          refine perm_q (v := ?v11_1) (some 44) rfl rfl rfl ?q11_1 ?h11_1; (case q11_1 => (intro w' hS; skip; first | (go_simp; done) | (go_simp; rfl))); (try simp only [PU])
          refine perm_q (v := ?v11_2) (some 45) rfl rfl rfl ?q11_2 ?h11_2; (case q11_2 => (intro w' hS; skip; first | (go_simp; done) | (go_simp; rfl))); (try simp only [PU])
          refine perm_skip (some 46) rfl rfl rfl ?_; (try simp only [PU])
          refine perm_skip (some 47) rfl rfl rfl ?_; (try simp only [PU])
          refine perm_skip (some 48) rfl rfl rfl ?_; (try simp only [PU])
          refine perm_skip (some 49) rfl rfl rfl ?_; (try simp only [PU])
          refine perm_skip (some 50) rfl rfl rfl ?_; (try simp only [PU])
          refine perm_skip (some 51) rfl rfl rfl ?_; (try simp only [PU])
          refine perm_skip (some 52) rfl rfl rfl ?_; (try simp only [PU])
          refine perm_skip (some 53) rfl rfl rfl ?_; (try simp only [PU])
          refine perm_skip (some 54) rfl rfl rfl ?_; (try simp only [PU])
          refine perm_skip (some 55) rfl rfl rfl ?_; (try simp only [PU])
          refine perm_q (v := ?v11_13) (some 56) rfl rfl rfl ?q11_13 ?h11_13; (case q11_13 => (intro w' hS; skip; first | (go_simp; done) | (go_simp; rfl))); (try simp only [PU])
          refine perm_nil ?_
          have HK1 := Lib.hid (HK1.out.then (Keeps.refl Nob _).drew)
          have q1 := (blk_cell (HK1.out.blk Hb.out id) 1).trans rfl
          go_wp2_with (first
            | (go_at_call 73; go_must (refine (H73.out _ HK1.out).mono ?_; rintro e w2 ⟨rfl, hk1⟩); have HK1 := Lib.hid (HK1.out.trans hk1 (fun _ _ h => h)); clear hk1; (try simp only [PU]))
            | (go_at_call 72; go_must (refine (H72.out _).mono ?_; rintro e w3 ⟨rfl, rfl⟩); (try simp only [PU]))
            | (go_at_call 47; go_must (refine (Hfail.out _ HK1.out).mono ?_; rintro e w5 ⟨rfl, rfl⟩); unfold stopAt; (try simp only [PU]))
            | ((with_reducible refine at_store (t := 3) rfl ?_); go_must (refine ev_store (cs' := #[.string T, .int .i64 ((a : Int) + 1)]) rfl rfl rfl rfl rfl rfl HI.out.1 HI.out.2 rfl (HK1.out.blk Hb.out id) (Nat.le_of_ble_eq_true rfl) rfl ?_; intro w4 hb2 hk2); have Hb2 := Lib.hid hb2; have HK2 := Lib.hid hk2; clear hb2 hk2; (try simp only [PU]))
          )
          exact ⟨rfl, by rw [HR2.out]; exact ⟨rfl, HK.out.then HK1.out⟩⟩
        · cases s' with
          | nil =>
            have hz : hexD (headB []) = none := by decide
            rw [hz] at hsome
            cases hsome
          | cons c q =>
            obtain ⟨a, ha, ⟨hb, -⟩, hT, hal, hnx⟩ := Hr.out.cons
            have Hb := Lib.hid hb
            have Hn := Lib.hid hnx
            have hai : (a : Int) < (T.size : Int) := by omega
            have hat : T.size - (c :: q).length = a := by simp only [List.length_cons]; omega
            rw [hat] at Hfail
            have hs3 := hexB4_some (3 - i) n d c q hsome
            have HS := Lib.hid (show (if 3 - i = 0 ∧ 255 < n * 16 + d then .error (q.length + 1) else hexB4 (3 - i) (n * 16 + d) q) = R0 by rw [← hs3]; exact HE2.out)
            have hpw : n * 16 + d < 16 ^ (i + 1) := by have := Hp.out; rw [Nat.pow_succ]; omega
            have hp4 : n < 4096 := by
              have h1 := Hp.out
              have h2 : 16 ^ i ≤ 16 ^ 3 := Nat.pow_le_pow_right (by decide) (by omega)
              exact Nat.lt_of_lt_of_le h1 h2
            have Hpw := Lib.hid hpw
            have Hat := Lib.hid (show T.size - (q.length + 1) = a by omega)
            clear hb hnx hat hs3 hpw hsome hal
            by_cases h3 : i = 3
            · subst h3
              by_cases hbig : 255 < n * 16 + d
              · have HR2 := Lib.hid (show RR = .error (q.length + 1) by rw [← HRR.out, ← HS.out, if_pos ⟨rfl, hbig⟩]; rfl)
                rcases hidx with hidx | ⟨hidx, hd10⟩
                · rw [hidx] at H72
                  clear hidx
                  go_wp2_with (first
                    | (go_at_call 73; go_must (refine (H73.out _ HK1.out).mono ?_; rintro e w2 ⟨rfl, hk1⟩); have HK1 := Lib.hid (HK1.out.trans hk1 (fun _ _ h => h)); clear hk1; (try simp only [PU]))
                    | (go_at_call 72; go_must (refine (H72.out _).mono ?_; rintro e w3 ⟨rfl, rfl⟩); (try simp only [PU]))
                    | (go_at_call 47; go_must (refine (Hfail.out _ HK1.out).mono ?_; rintro e w5 ⟨rfl, rfl⟩); unfold stopAt; (try simp only [PU]))
                    | ((with_reducible refine at_store (t := 3) rfl ?_); go_must (refine ev_store (cs' := #[.string T, .int .i64 ((a : Int) + 1)]) rfl rfl rfl rfl rfl rfl HI.out.1 HI.out.2 rfl (HK1.out.blk Hb.out id) (Nat.le_of_ble_eq_true rfl) rfl ?_; intro w4 hb2 hk2); have Hb2 := Lib.hid hb2; have HK2 := Lib.hid hk2; clear hb2 hk2; (try simp only [PU]))
                  )
                  have c0 := (blk_cell (HK1.out.blk Hb.out id) 0).trans rfl
                  have c1 := (blk_cell (HK1.out.blk Hb.out id) 1).trans rfl
                  refine wp_region_perm [(0, true), (1, true), (2, true), (3, true), (4, true), (5, true), (6, true), (7, true), (8, true), (9, true), (10, true), (11, true), (12, true), (13, true)] (fun w' => w'.cell? ⟨r, 0, none⟩ = some (.string T) ∧ w'.cell? ⟨r, 1, none⟩ = some (.int .i64 a)) rfl (by kernel_rfl) (by kernel_rfl) (by decide) (fun c a d v w h => by cases d <;> exact h) ⟨c0, c1⟩ ?_
                  refine perm_q (v := ?v12_0) (some 43) rfl rfl rfl ?q12_0 ?h12_0; (case q12_0 => (intro w' hS; obtain ⟨s1, s2⟩ := hS; first | (go_simp; done) | (go_simp; rfl))); (try simp only [PU])
                  refine perm_q (v := ?v12_1) (some 44) rfl rfl rfl ?q12_1 ?h12_1; (case q12_1 => (intro w' hS; obtain ⟨s1, s2⟩ := hS; first | (go_simp; done) | (go_simp; rfl))); (try simp only [PU])
                  refine perm_q (v := ?v12_2) (some 45) rfl rfl rfl ?q12_2 ?h12_2; (case q12_2 => (intro w' hS; obtain ⟨s1, s2⟩ := hS; first | (go_simp; done) | (go_simp; rfl))); (try simp only [PU])
                  refine perm_q (v := ?v12_3) (some 46) rfl rfl rfl ?q12_3 ?h12_3; (case q12_3 => (intro w' hS; obtain ⟨s1, s2⟩ := hS; first | (go_simp; done) | (go_simp; rfl))); (try simp only [PU])
                  refine perm_q (v := ?v12_4) (some 47) rfl rfl rfl ?q12_4 ?h12_4; (case q12_4 => (intro w' hS; obtain ⟨s1, s2⟩ := hS; first | (go_simp; done) | (go_simp; rfl))); (try simp only [PU])
                  refine perm_q (v := ?v12_5) (some 48) rfl rfl rfl ?q12_5 ?h12_5; (case q12_5 => (intro w' hS; obtain ⟨s1, s2⟩ := hS; first | (go_simp; done) | (go_simp; rfl))); (try simp only [PU])
                  refine perm_q (v := ?v12_6) (some 49) rfl rfl rfl ?q12_6 ?h12_6; (case q12_6 => (intro w' hS; obtain ⟨s1, s2⟩ := hS; first | (go_simp; done) | (go_simp; rfl))); (try simp only [PU])
                  refine perm_q (v := ?v12_7) (some 50) rfl rfl rfl ?q12_7 ?h12_7; (case q12_7 => (intro w' hS; obtain ⟨s1, s2⟩ := hS; first | (go_simp; done) | (go_simp; rfl))); (try simp only [PU])
                  refine perm_q (v := ?v12_8) (some 51) rfl rfl rfl ?q12_8 ?h12_8; (case q12_8 => (intro w' hS; obtain ⟨s1, s2⟩ := hS; first | (go_simp; done) | (go_simp; rfl))); (try simp only [PU])
                  refine perm_q (v := ?v12_9) (some 52) rfl rfl rfl ?q12_9 ?h12_9; (case q12_9 => (intro w' hS; obtain ⟨s1, s2⟩ := hS; first | (go_simp; done) | (go_simp; rfl))); (try simp only [PU])
                  refine perm_q (v := ?v12_10) (some 53) rfl rfl rfl ?q12_10 ?h12_10; (case q12_10 => (intro w' hS; obtain ⟨s1, s2⟩ := hS; first | (go_simp; done) | (go_simp; rfl))); (try simp only [PU])
                  refine perm_q (v := ?v12_11) (some 54) rfl rfl rfl ?q12_11 ?h12_11; (case q12_11 => (intro w' hS; obtain ⟨s1, s2⟩ := hS; first | (go_simp; done) | (go_simp; rfl))); (try simp only [PU])
                  refine perm_q (v := ?v12_12) (some 55) rfl rfl rfl ?q12_12 ?h12_12; (case q12_12 => (intro w' hS; obtain ⟨s1, s2⟩ := hS; first | (go_simp; done) | (go_simp; rfl))); (try simp only [PU])
                  refine perm_q (v := ?v12_13) (some 56) rfl rfl rfl ?q12_13 ?h12_13; (case q12_13 => (intro w' hS; obtain ⟨s1, s2⟩ := hS; first | (go_simp; done) | (go_simp; rfl))); (try simp only [PU])
                  refine perm_nil ?_
                  have HK1 := Lib.hid (HK1.out.then (Keeps.refl Nob _).drew)
                  go_wp2_with (first
                    | (go_at_call 73; go_must (refine (H73.out _ HK1.out).mono ?_; rintro e w2 ⟨rfl, hk1⟩); have HK1 := Lib.hid (HK1.out.trans hk1 (fun _ _ h => h)); clear hk1; (try simp only [PU]))
                    | (go_at_call 72; go_must (refine (H72.out _).mono ?_; rintro e w3 ⟨rfl, rfl⟩); (try simp only [PU]))
                    | (go_at_call 47; go_must (refine (Hfail.out _ HK1.out).mono ?_; rintro e w5 ⟨rfl, rfl⟩); unfold stopAt; (try simp only [PU]))
                    | ((with_reducible refine at_store (t := 3) rfl ?_); go_must (refine ev_store (cs' := #[.string T, .int .i64 ((a : Int) + 1)]) rfl rfl rfl rfl rfl rfl HI.out.1 HI.out.2 rfl (HK1.out.blk Hb.out id) (Nat.le_of_ble_eq_true rfl) rfl ?_; intro w4 hb2 hk2); have Hb2 := Lib.hid hb2; have HK2 := Lib.hid hk2; clear hb2 hk2; (try simp only [PU]))
                  )
                  exact ⟨rfl, by rw [HR2.out]; exact ⟨rfl, HK.out.then HK1.out⟩⟩
                · rw [hidx] at H72
                  clear hidx
                  go_wp2_with (first
                    | (go_at_call 73; go_must (refine (H73.out _ HK1.out).mono ?_; rintro e w2 ⟨rfl, hk1⟩); have HK1 := Lib.hid (HK1.out.trans hk1 (fun _ _ h => h)); clear hk1; (try simp only [PU]))
                    | (go_at_call 72; go_must (refine (H72.out _).mono ?_; rintro e w3 ⟨rfl, rfl⟩); (try simp only [PU]))
                    | (go_at_call 47; go_must (refine (Hfail.out _ HK1.out).mono ?_; rintro e w5 ⟨rfl, rfl⟩); unfold stopAt; (try simp only [PU]))
                    | ((with_reducible refine at_store (t := 3) rfl ?_); go_must (refine ev_store (cs' := #[.string T, .int .i64 ((a : Int) + 1)]) rfl rfl rfl rfl rfl rfl HI.out.1 HI.out.2 rfl (HK1.out.blk Hb.out id) (Nat.le_of_ble_eq_true rfl) rfl ?_; intro w4 hb2 hk2); have Hb2 := Lib.hid hb2; have HK2 := Lib.hid hk2; clear hb2 hk2; (try simp only [PU]))
                  )
                  have c0 := (blk_cell (HK1.out.blk Hb.out id) 0).trans rfl
                  have c1 := (blk_cell (HK1.out.blk Hb.out id) 1).trans rfl
                  refine wp_region_perm [(0, true), (1, true), (2, true), (3, true), (4, true), (5, true), (6, true), (7, true), (8, true), (9, true), (10, true), (11, true), (12, true), (13, true)] (fun w' => w'.cell? ⟨r, 0, none⟩ = some (.string T) ∧ w'.cell? ⟨r, 1, none⟩ = some (.int .i64 a)) rfl (by kernel_rfl) (by kernel_rfl) (by decide) (fun c a d v w h => by cases d <;> exact h) ⟨c0, c1⟩ ?_
                  refine perm_q (v := ?v13_0) (some 43) rfl rfl rfl ?q13_0 ?h13_0; (case q13_0 => (intro w' hS; obtain ⟨s1, s2⟩ := hS; first | (go_simp; done) | (go_simp; rfl))); (try simp only [PU])
                  refine perm_q (v := ?v13_1) (some 44) rfl rfl rfl ?q13_1 ?h13_1; (case q13_1 => (intro w' hS; obtain ⟨s1, s2⟩ := hS; first | (go_simp; done) | (go_simp; rfl))); (try simp only [PU])
                  refine perm_q (v := ?v13_2) (some 45) rfl rfl rfl ?q13_2 ?h13_2; (case q13_2 => (intro w' hS; obtain ⟨s1, s2⟩ := hS; first | (go_simp; done) | (go_simp; rfl))); (try simp only [PU])
                  refine perm_q (v := ?v13_3) (some 46) rfl rfl rfl ?q13_3 ?h13_3; (case q13_3 => (intro w' hS; obtain ⟨s1, s2⟩ := hS; first | (go_simp; done) | (go_simp; rfl))); (try simp only [PU])
                  refine perm_q (v := ?v13_4) (some 47) rfl rfl rfl ?q13_4 ?h13_4; (case q13_4 => (intro w' hS; obtain ⟨s1, s2⟩ := hS; first | (go_simp; done) | (go_simp; rfl))); (try simp only [PU])
                  refine perm_q (v := ?v13_5) (some 48) rfl rfl rfl ?q13_5 ?h13_5; (case q13_5 => (intro w' hS; obtain ⟨s1, s2⟩ := hS; first | (go_simp; done) | (go_simp; rfl))); (try simp only [PU])
                  refine perm_q (v := ?v13_6) (some 49) rfl rfl rfl ?q13_6 ?h13_6; (case q13_6 => (intro w' hS; obtain ⟨s1, s2⟩ := hS; first | (go_simp; done) | (go_simp; rfl))); (try simp only [PU])
                  refine perm_q (v := ?v13_7) (some 50) rfl rfl rfl ?q13_7 ?h13_7; (case q13_7 => (intro w' hS; obtain ⟨s1, s2⟩ := hS; first | (go_simp; done) | (go_simp; rfl))); (try simp only [PU])
                  refine perm_q (v := ?v13_8) (some 51) rfl rfl rfl ?q13_8 ?h13_8; (case q13_8 => (intro w' hS; obtain ⟨s1, s2⟩ := hS; first | (go_simp; done) | (go_simp; rfl))); (try simp only [PU])
                  refine perm_q (v := ?v13_9) (some 52) rfl rfl rfl ?q13_9 ?h13_9; (case q13_9 => (intro w' hS; obtain ⟨s1, s2⟩ := hS; first | (go_simp; done) | (go_simp; rfl))); (try simp only [PU])
                  refine perm_q (v := ?v13_10) (some 53) rfl rfl rfl ?q13_10 ?h13_10; (case q13_10 => (intro w' hS; obtain ⟨s1, s2⟩ := hS; first | (go_simp; done) | (go_simp; rfl))); (try simp only [PU])
                  refine perm_q (v := ?v13_11) (some 54) rfl rfl rfl ?q13_11 ?h13_11; (case q13_11 => (intro w' hS; obtain ⟨s1, s2⟩ := hS; first | (go_simp; done) | (go_simp; rfl))); (try simp only [PU])
                  refine perm_q (v := ?v13_12) (some 55) rfl rfl rfl ?q13_12 ?h13_12; (case q13_12 => (intro w' hS; obtain ⟨s1, s2⟩ := hS; first | (go_simp; done) | (go_simp; rfl))); (try simp only [PU])
                  refine perm_q (v := ?v13_13) (some 56) rfl rfl rfl ?q13_13 ?h13_13; (case q13_13 => (intro w' hS; obtain ⟨s1, s2⟩ := hS; first | (go_simp; done) | (go_simp; rfl))); (try simp only [PU])
                  refine perm_nil ?_
                  have HK1 := Lib.hid (HK1.out.then (Keeps.refl Nob _).drew)
                  go_wp2_with (first
                    | (go_at_call 73; go_must (refine (H73.out _ HK1.out).mono ?_; rintro e w2 ⟨rfl, hk1⟩); have HK1 := Lib.hid (HK1.out.trans hk1 (fun _ _ h => h)); clear hk1; (try simp only [PU]))
                    | (go_at_call 72; go_must (refine (H72.out _).mono ?_; rintro e w3 ⟨rfl, rfl⟩); (try simp only [PU]))
                    | (go_at_call 47; go_must (refine (Hfail.out _ HK1.out).mono ?_; rintro e w5 ⟨rfl, rfl⟩); unfold stopAt; (try simp only [PU]))
                    | ((with_reducible refine at_store (t := 3) rfl ?_); go_must (refine ev_store (cs' := #[.string T, .int .i64 ((a : Int) + 1)]) rfl rfl rfl rfl rfl rfl HI.out.1 HI.out.2 rfl (HK1.out.blk Hb.out id) (Nat.le_of_ble_eq_true rfl) rfl ?_; intro w4 hb2 hk2); have Hb2 := Lib.hid hb2; have HK2 := Lib.hid hk2; clear hb2 hk2; (try simp only [PU]))
                  )
                  exact ⟨rfl, by rw [HR2.out]; exact ⟨rfl, HK.out.then HK1.out⟩⟩
              · have HR2 := Lib.hid (show hexB4 (4 - (3 + 1)) (n * 16 + d) q = R0 by rw [← HS.out, if_neg (fun h => hbig h.2)])
                rcases hidx with hidx | ⟨hidx, hd10⟩
                · rw [hidx] at H72
                  clear hidx
                  go_wp2_with (first
                    | (go_at_call 73; go_must (refine (H73.out _ HK1.out).mono ?_; rintro e w2 ⟨rfl, hk1⟩); have HK1 := Lib.hid (HK1.out.trans hk1 (fun _ _ h => h)); clear hk1; (try simp only [PU]))
                    | (go_at_call 72; go_must (refine (H72.out _).mono ?_; rintro e w3 ⟨rfl, rfl⟩); (try simp only [PU]))
                    | (go_at_call 47; go_must (refine (Hfail.out _ HK1.out).mono ?_; rintro e w5 ⟨rfl, rfl⟩); unfold stopAt; (try simp only [PU]))
                    | ((with_reducible refine at_store (t := 3) rfl ?_); go_must (refine ev_store (cs' := #[.string T, .int .i64 ((a : Int) + 1)]) rfl rfl rfl rfl rfl rfl HI.out.1 HI.out.2 rfl (HK1.out.blk Hb.out id) (Nat.le_of_ble_eq_true rfl) rfl ?_; intro w4 hb2 hk2); have Hb2 := Lib.hid hb2; have HK2 := Lib.hid hk2; clear hb2 hk2; (try simp only [PU]))
                  )
                  have c0 := (blk_cell (HK1.out.blk Hb.out id) 0).trans rfl
                  have c1 := (blk_cell (HK1.out.blk Hb.out id) 1).trans rfl
                  refine wp_region_perm [(0, true), (1, true), (2, true), (3, true), (4, true), (5, true), (6, true), (7, true), (8, true), (9, true), (10, true), (11, true), (12, true), (13, true)] (fun w' => w'.cell? ⟨r, 0, none⟩ = some (.string T) ∧ w'.cell? ⟨r, 1, none⟩ = some (.int .i64 a)) rfl (by kernel_rfl) (by kernel_rfl) (by decide) (fun c a d v w h => by cases d <;> exact h) ⟨c0, c1⟩ ?_
                  refine perm_q (v := ?v14_0) (some 43) rfl rfl rfl ?q14_0 ?h14_0; (case q14_0 => (intro w' hS; obtain ⟨s1, s2⟩ := hS; first | (go_simp; done) | (go_simp; rfl))); (try simp only [PU])
                  refine perm_q (v := ?v14_1) (some 44) rfl rfl rfl ?q14_1 ?h14_1; (case q14_1 => (intro w' hS; obtain ⟨s1, s2⟩ := hS; first | (go_simp; done) | (go_simp; rfl))); (try simp only [PU])
                  refine perm_q (v := ?v14_2) (some 45) rfl rfl rfl ?q14_2 ?h14_2; (case q14_2 => (intro w' hS; obtain ⟨s1, s2⟩ := hS; first | (go_simp; done) | (go_simp; rfl))); (try simp only [PU])
                  refine perm_q (v := ?v14_3) (some 46) rfl rfl rfl ?q14_3 ?h14_3; (case q14_3 => (intro w' hS; obtain ⟨s1, s2⟩ := hS; first | (go_simp; done) | (go_simp; rfl))); (try simp only [PU])
                  refine perm_q (v := ?v14_4) (some 47) rfl rfl rfl ?q14_4 ?h14_4; (case q14_4 => (intro w' hS; obtain ⟨s1, s2⟩ := hS; first | (go_simp; done) | (go_simp; rfl))); (try simp only [PU])
                  refine perm_q (v := ?v14_5) (some 48) rfl rfl rfl ?q14_5 ?h14_5; (case q14_5 => (intro w' hS; obtain ⟨s1, s2⟩ := hS; first | (go_simp; done) | (go_simp; rfl))); (try simp only [PU])
                  refine perm_q (v := ?v14_6) (some 49) rfl rfl rfl ?q14_6 ?h14_6; (case q14_6 => (intro w' hS; obtain ⟨s1, s2⟩ := hS; first | (go_simp; done) | (go_simp; rfl))); (try simp only [PU])
                  refine perm_q (v := ?v14_7) (some 50) rfl rfl rfl ?q14_7 ?h14_7; (case q14_7 => (intro w' hS; obtain ⟨s1, s2⟩ := hS; first | (go_simp; done) | (go_simp; rfl))); (try simp only [PU])
                  refine perm_q (v := ?v14_8) (some 51) rfl rfl rfl ?q14_8 ?h14_8; (case q14_8 => (intro w' hS; obtain ⟨s1, s2⟩ := hS; first | (go_simp; done) | (go_simp; rfl))); (try simp only [PU])
                  refine perm_q (v := ?v14_9) (some 52) rfl rfl rfl ?q14_9 ?h14_9; (case q14_9 => (intro w' hS; obtain ⟨s1, s2⟩ := hS; first | (go_simp; done) | (go_simp; rfl))); (try simp only [PU])
                  refine perm_q (v := ?v14_10) (some 53) rfl rfl rfl ?q14_10 ?h14_10; (case q14_10 => (intro w' hS; obtain ⟨s1, s2⟩ := hS; first | (go_simp; done) | (go_simp; rfl))); (try simp only [PU])
                  refine perm_q (v := ?v14_11) (some 54) rfl rfl rfl ?q14_11 ?h14_11; (case q14_11 => (intro w' hS; obtain ⟨s1, s2⟩ := hS; first | (go_simp; done) | (go_simp; rfl))); (try simp only [PU])
                  refine perm_q (v := ?v14_12) (some 55) rfl rfl rfl ?q14_12 ?h14_12; (case q14_12 => (intro w' hS; obtain ⟨s1, s2⟩ := hS; first | (go_simp; done) | (go_simp; rfl))); (try simp only [PU])
                  refine perm_q (v := ?v14_13) (some 56) rfl rfl rfl ?q14_13 ?h14_13; (case q14_13 => (intro w' hS; obtain ⟨s1, s2⟩ := hS; first | (go_simp; done) | (go_simp; rfl))); (try simp only [PU])
                  refine perm_nil ?_
                  have HK1 := Lib.hid (HK1.out.then (Keeps.refl Nob _).drew)
                  go_wp2_with (first
                    | (go_at_call 73; go_must (refine (H73.out _ HK1.out).mono ?_; rintro e w2 ⟨rfl, hk1⟩); have HK1 := Lib.hid (HK1.out.trans hk1 (fun _ _ h => h)); clear hk1; (try simp only [PU]))
                    | (go_at_call 72; go_must (refine (H72.out _).mono ?_; rintro e w3 ⟨rfl, rfl⟩); (try simp only [PU]))
                    | (go_at_call 47; go_must (refine (Hfail.out _ HK1.out).mono ?_; rintro e w5 ⟨rfl, rfl⟩); unfold stopAt; (try simp only [PU]))
                    | ((with_reducible refine at_store (t := 3) rfl ?_); go_must (refine ev_store (cs' := #[.string T, .int .i64 ((a : Int) + 1)]) rfl rfl rfl rfl rfl rfl HI.out.1 HI.out.2 rfl (HK1.out.blk Hb.out id) (Nat.le_of_ble_eq_true rfl) rfl ?_; intro w4 hb2 hk2); have Hb2 := Lib.hid hb2; have HK2 := Lib.hid hk2; clear hb2 hk2; (try simp only [PU]))
                  )
                  go_roundw
                  case rel => exact ⟨3 + 1, n * 16 + d, q, by first | rfl | go_num, by omega, by first | rfl | go_num | (push_cast; simp), by omega, Hpw, Lib.hid (Hn.out w4 Hb2.out), Lib.hid ((HK.out.then HK1.out).trans HK2.out (fun _ _ h => h)), HR2, Lib.hid (fun h => by omega)⟩
                  case measure => (simp [intOf] <;> omega)
                · rw [hidx] at H72
                  clear hidx
                  go_wp2_with (first
                    | (go_at_call 73; go_must (refine (H73.out _ HK1.out).mono ?_; rintro e w2 ⟨rfl, hk1⟩); have HK1 := Lib.hid (HK1.out.trans hk1 (fun _ _ h => h)); clear hk1; (try simp only [PU]))
                    | (go_at_call 72; go_must (refine (H72.out _).mono ?_; rintro e w3 ⟨rfl, rfl⟩); (try simp only [PU]))
                    | (go_at_call 47; go_must (refine (Hfail.out _ HK1.out).mono ?_; rintro e w5 ⟨rfl, rfl⟩); unfold stopAt; (try simp only [PU]))
                    | ((with_reducible refine at_store (t := 3) rfl ?_); go_must (refine ev_store (cs' := #[.string T, .int .i64 ((a : Int) + 1)]) rfl rfl rfl rfl rfl rfl HI.out.1 HI.out.2 rfl (HK1.out.blk Hb.out id) (Nat.le_of_ble_eq_true rfl) rfl ?_; intro w4 hb2 hk2); have Hb2 := Lib.hid hb2; have HK2 := Lib.hid hk2; clear hb2 hk2; (try simp only [PU]))
                  )
                  have c0 := (blk_cell (HK1.out.blk Hb.out id) 0).trans rfl
                  have c1 := (blk_cell (HK1.out.blk Hb.out id) 1).trans rfl
                  refine wp_region_perm [(0, true), (1, true), (2, true), (3, true), (4, true), (5, true), (6, true), (7, true), (8, true), (9, true), (10, true), (11, true), (12, true), (13, true)] (fun w' => w'.cell? ⟨r, 0, none⟩ = some (.string T) ∧ w'.cell? ⟨r, 1, none⟩ = some (.int .i64 a)) rfl (by kernel_rfl) (by kernel_rfl) (by decide) (fun c a d v w h => by cases d <;> exact h) ⟨c0, c1⟩ ?_
                  refine perm_q (v := ?v15_0) (some 43) rfl rfl rfl ?q15_0 ?h15_0; (case q15_0 => (intro w' hS; obtain ⟨s1, s2⟩ := hS; first | (go_simp; done) | (go_simp; rfl))); (try simp only [PU])
                  refine perm_q (v := ?v15_1) (some 44) rfl rfl rfl ?q15_1 ?h15_1; (case q15_1 => (intro w' hS; obtain ⟨s1, s2⟩ := hS; first | (go_simp; done) | (go_simp; rfl))); (try simp only [PU])
                  refine perm_q (v := ?v15_2) (some 45) rfl rfl rfl ?q15_2 ?h15_2; (case q15_2 => (intro w' hS; obtain ⟨s1, s2⟩ := hS; first | (go_simp; done) | (go_simp; rfl))); (try simp only [PU])
                  refine perm_q (v := ?v15_3) (some 46) rfl rfl rfl ?q15_3 ?h15_3; (case q15_3 => (intro w' hS; obtain ⟨s1, s2⟩ := hS; first | (go_simp; done) | (go_simp; rfl))); (try simp only [PU])
                  refine perm_q (v := ?v15_4) (some 47) rfl rfl rfl ?q15_4 ?h15_4; (case q15_4 => (intro w' hS; obtain ⟨s1, s2⟩ := hS; first | (go_simp; done) | (go_simp; rfl))); (try simp only [PU])
                  refine perm_q (v := ?v15_5) (some 48) rfl rfl rfl ?q15_5 ?h15_5; (case q15_5 => (intro w' hS; obtain ⟨s1, s2⟩ := hS; first | (go_simp; done) | (go_simp; rfl))); (try simp only [PU])
                  refine perm_q (v := ?v15_6) (some 49) rfl rfl rfl ?q15_6 ?h15_6; (case q15_6 => (intro w' hS; obtain ⟨s1, s2⟩ := hS; first | (go_simp; done) | (go_simp; rfl))); (try simp only [PU])
                  refine perm_q (v := ?v15_7) (some 50) rfl rfl rfl ?q15_7 ?h15_7; (case q15_7 => (intro w' hS; obtain ⟨s1, s2⟩ := hS; first | (go_simp; done) | (go_simp; rfl))); (try simp only [PU])
                  refine perm_q (v := ?v15_8) (some 51) rfl rfl rfl ?q15_8 ?h15_8; (case q15_8 => (intro w' hS; obtain ⟨s1, s2⟩ := hS; first | (go_simp; done) | (go_simp; rfl))); (try simp only [PU])
                  refine perm_q (v := ?v15_9) (some 52) rfl rfl rfl ?q15_9 ?h15_9; (case q15_9 => (intro w' hS; obtain ⟨s1, s2⟩ := hS; first | (go_simp; done) | (go_simp; rfl))); (try simp only [PU])
                  refine perm_q (v := ?v15_10) (some 53) rfl rfl rfl ?q15_10 ?h15_10; (case q15_10 => (intro w' hS; obtain ⟨s1, s2⟩ := hS; first | (go_simp; done) | (go_simp; rfl))); (try simp only [PU])
                  refine perm_q (v := ?v15_11) (some 54) rfl rfl rfl ?q15_11 ?h15_11; (case q15_11 => (intro w' hS; obtain ⟨s1, s2⟩ := hS; first | (go_simp; done) | (go_simp; rfl))); (try simp only [PU])
                  refine perm_q (v := ?v15_12) (some 55) rfl rfl rfl ?q15_12 ?h15_12; (case q15_12 => (intro w' hS; obtain ⟨s1, s2⟩ := hS; first | (go_simp; done) | (go_simp; rfl))); (try simp only [PU])
                  refine perm_q (v := ?v15_13) (some 56) rfl rfl rfl ?q15_13 ?h15_13; (case q15_13 => (intro w' hS; obtain ⟨s1, s2⟩ := hS; first | (go_simp; done) | (go_simp; rfl))); (try simp only [PU])
                  refine perm_nil ?_
                  have HK1 := Lib.hid (HK1.out.then (Keeps.refl Nob _).drew)
                  go_wp2_with (first
                    | (go_at_call 73; go_must (refine (H73.out _ HK1.out).mono ?_; rintro e w2 ⟨rfl, hk1⟩); have HK1 := Lib.hid (HK1.out.trans hk1 (fun _ _ h => h)); clear hk1; (try simp only [PU]))
                    | (go_at_call 72; go_must (refine (H72.out _).mono ?_; rintro e w3 ⟨rfl, rfl⟩); (try simp only [PU]))
                    | (go_at_call 47; go_must (refine (Hfail.out _ HK1.out).mono ?_; rintro e w5 ⟨rfl, rfl⟩); unfold stopAt; (try simp only [PU]))
                    | ((with_reducible refine at_store (t := 3) rfl ?_); go_must (refine ev_store (cs' := #[.string T, .int .i64 ((a : Int) + 1)]) rfl rfl rfl rfl rfl rfl HI.out.1 HI.out.2 rfl (HK1.out.blk Hb.out id) (Nat.le_of_ble_eq_true rfl) rfl ?_; intro w4 hb2 hk2); have Hb2 := Lib.hid hb2; have HK2 := Lib.hid hk2; clear hb2 hk2; (try simp only [PU]))
                  )
                  go_roundw
                  case rel => exact ⟨3 + 1, n * 16 + d, q, by first | rfl | go_num, by omega, by first | rfl | go_num | (push_cast; simp), by omega, Hpw, Lib.hid (Hn.out w4 Hb2.out), Lib.hid ((HK.out.then HK1.out).trans HK2.out (fun _ _ h => h)), HR2, Lib.hid (fun h => by omega)⟩
                  case measure => (simp [intOf] <;> omega)
            · have i3' : ((i : Int) == 3) = false := by simp; omega
              have HR2 := Lib.hid (show hexB4 (4 - (i + 1)) (n * 16 + d) q = R0 by rw [← HS.out, if_neg (fun h => h3 (by omega)), show 4 - (i + 1) = 3 - i by omega])
              rcases hidx with hidx | ⟨hidx, hd10⟩
              · rw [hidx] at H72
                clear hidx
                go_wp2_with (first
                  | (go_at_call 73; go_must (refine (H73.out _ HK1.out).mono ?_; rintro e w2 ⟨rfl, hk1⟩); have HK1 := Lib.hid (HK1.out.trans hk1 (fun _ _ h => h)); clear hk1; (try simp only [PU]))
                  | (go_at_call 72; go_must (refine (H72.out _).mono ?_; rintro e w3 ⟨rfl, rfl⟩); (try simp only [PU]))
                  | (go_at_call 47; go_must (refine (Hfail.out _ HK1.out).mono ?_; rintro e w5 ⟨rfl, rfl⟩); unfold stopAt; (try simp only [PU]))
                  | ((with_reducible refine at_store (t := 3) rfl ?_); go_must (refine ev_store (cs' := #[.string T, .int .i64 ((a : Int) + 1)]) rfl rfl rfl rfl rfl rfl HI.out.1 HI.out.2 rfl (HK1.out.blk Hb.out id) (Nat.le_of_ble_eq_true rfl) rfl ?_; intro w4 hb2 hk2); have Hb2 := Lib.hid hb2; have HK2 := Lib.hid hk2; clear hb2 hk2; (try simp only [PU]))
                )
                have c0 := (blk_cell (HK1.out.blk Hb.out id) 0).trans rfl
                have c1 := (blk_cell (HK1.out.blk Hb.out id) 1).trans rfl
                refine wp_region_perm [(0, true), (1, true), (2, true), (3, true), (4, true), (5, true), (6, true), (7, true), (8, true), (9, true), (10, true), (11, true), (12, true), (13, true)] (fun w' => w'.cell? ⟨r, 0, none⟩ = some (.string T) ∧ w'.cell? ⟨r, 1, none⟩ = some (.int .i64 a)) rfl (by kernel_rfl) (by kernel_rfl) (by decide) (fun c a d v w h => by cases d <;> exact h) ⟨c0, c1⟩ ?_
                refine perm_q (v := ?v16_0) (some 43) rfl rfl rfl ?q16_0 ?h16_0; (case q16_0 => (intro w' hS; obtain ⟨s1, s2⟩ := hS; first | (go_simp; done) | (go_simp; rfl))); (try simp only [PU])
                refine perm_q (v := ?v16_1) (some 44) rfl rfl rfl ?q16_1 ?h16_1; (case q16_1 => (intro w' hS; obtain ⟨s1, s2⟩ := hS; first | (go_simp; done) | (go_simp; rfl))); (try simp only [PU])
                refine perm_q (v := ?v16_2) (some 45) rfl rfl rfl ?q16_2 ?h16_2; (case q16_2 => (intro w' hS; obtain ⟨s1, s2⟩ := hS; first | (go_simp; done) | (go_simp; rfl))); (try simp only [PU])
                refine perm_q (v := ?v16_3) (some 46) rfl rfl rfl ?q16_3 ?h16_3; (case q16_3 => (intro w' hS; obtain ⟨s1, s2⟩ := hS; first | (go_simp; done) | (go_simp; rfl))); (try simp only [PU])
                refine perm_q (v := ?v16_4) (some 47) rfl rfl rfl ?q16_4 ?h16_4; (case q16_4 => (intro w' hS; obtain ⟨s1, s2⟩ := hS; first | (go_simp; done) | (go_simp; rfl))); (try simp only [PU])
                refine perm_q (v := ?v16_5) (some 48) rfl rfl rfl ?q16_5 ?h16_5; (case q16_5 => (intro w' hS; obtain ⟨s1, s2⟩ := hS; first | (go_simp; done) | (go_simp; rfl))); (try simp only [PU])
                refine perm_q (v := ?v16_6) (some 49) rfl rfl rfl ?q16_6 ?h16_6; (case q16_6 => (intro w' hS; obtain ⟨s1, s2⟩ := hS; first | (go_simp; done) | (go_simp; rfl))); (try simp only [PU])
                refine perm_q (v := ?v16_7) (some 50) rfl rfl rfl ?q16_7 ?h16_7; (case q16_7 => (intro w' hS; obtain ⟨s1, s2⟩ := hS; first | (go_simp; done) | (go_simp; rfl))); (try simp only [PU])
                refine perm_q (v := ?v16_8) (some 51) rfl rfl rfl ?q16_8 ?h16_8; (case q16_8 => (intro w' hS; obtain ⟨s1, s2⟩ := hS; first | (go_simp; done) | (go_simp; rfl))); (try simp only [PU])
                refine perm_q (v := ?v16_9) (some 52) rfl rfl rfl ?q16_9 ?h16_9; (case q16_9 => (intro w' hS; obtain ⟨s1, s2⟩ := hS; first | (go_simp; done) | (go_simp; rfl))); (try simp only [PU])
                refine perm_q (v := ?v16_10) (some 53) rfl rfl rfl ?q16_10 ?h16_10; (case q16_10 => (intro w' hS; obtain ⟨s1, s2⟩ := hS; first | (go_simp; done) | (go_simp; rfl))); (try simp only [PU])
                refine perm_q (v := ?v16_11) (some 54) rfl rfl rfl ?q16_11 ?h16_11; (case q16_11 => (intro w' hS; obtain ⟨s1, s2⟩ := hS; first | (go_simp; done) | (go_simp; rfl))); (try simp only [PU])
                refine perm_q (v := ?v16_12) (some 55) rfl rfl rfl ?q16_12 ?h16_12; (case q16_12 => (intro w' hS; obtain ⟨s1, s2⟩ := hS; first | (go_simp; done) | (go_simp; rfl))); (try simp only [PU])
                refine perm_q (v := ?v16_13) (some 56) rfl rfl rfl ?q16_13 ?h16_13; (case q16_13 => (intro w' hS; obtain ⟨s1, s2⟩ := hS; first | (go_simp; done) | (go_simp; rfl))); (try simp only [PU])
                refine perm_nil ?_
                have HK1 := Lib.hid (HK1.out.then (Keeps.refl Nob _).drew)
                go_wp2_with (first
                  | (go_at_call 73; go_must (refine (H73.out _ HK1.out).mono ?_; rintro e w2 ⟨rfl, hk1⟩); have HK1 := Lib.hid (HK1.out.trans hk1 (fun _ _ h => h)); clear hk1; (try simp only [PU]))
                  | (go_at_call 72; go_must (refine (H72.out _).mono ?_; rintro e w3 ⟨rfl, rfl⟩); (try simp only [PU]))
                  | (go_at_call 47; go_must (refine (Hfail.out _ HK1.out).mono ?_; rintro e w5 ⟨rfl, rfl⟩); unfold stopAt; (try simp only [PU]))
                  | ((with_reducible refine at_store (t := 3) rfl ?_); go_must (refine ev_store (cs' := #[.string T, .int .i64 ((a : Int) + 1)]) rfl rfl rfl rfl rfl rfl HI.out.1 HI.out.2 rfl (HK1.out.blk Hb.out id) (Nat.le_of_ble_eq_true rfl) rfl ?_; intro w4 hb2 hk2); have Hb2 := Lib.hid hb2; have HK2 := Lib.hid hk2; clear hb2 hk2; (try simp only [PU]))
                )
                go_roundw
                case rel => exact ⟨i + 1, n * 16 + d, q, by first | rfl | go_num, by omega, by first | rfl | go_num | (push_cast; simp), by omega, Hpw, Lib.hid (Hn.out w4 Hb2.out), Lib.hid ((HK.out.then HK1.out).trans HK2.out (fun _ _ h => h)), HR2, Lib.hid (fun h => by omega)⟩
                case measure => (simp [intOf] <;> omega)
              · rw [hidx] at H72
                clear hidx
                go_wp2_with (first
                  | (go_at_call 73; go_must (refine (H73.out _ HK1.out).mono ?_; rintro e w2 ⟨rfl, hk1⟩); have HK1 := Lib.hid (HK1.out.trans hk1 (fun _ _ h => h)); clear hk1; (try simp only [PU]))
                  | (go_at_call 72; go_must (refine (H72.out _).mono ?_; rintro e w3 ⟨rfl, rfl⟩); (try simp only [PU]))
                  | (go_at_call 47; go_must (refine (Hfail.out _ HK1.out).mono ?_; rintro e w5 ⟨rfl, rfl⟩); unfold stopAt; (try simp only [PU]))
                  | ((with_reducible refine at_store (t := 3) rfl ?_); go_must (refine ev_store (cs' := #[.string T, .int .i64 ((a : Int) + 1)]) rfl rfl rfl rfl rfl rfl HI.out.1 HI.out.2 rfl (HK1.out.blk Hb.out id) (Nat.le_of_ble_eq_true rfl) rfl ?_; intro w4 hb2 hk2); have Hb2 := Lib.hid hb2; have HK2 := Lib.hid hk2; clear hb2 hk2; (try simp only [PU]))
                )
                have c0 := (blk_cell (HK1.out.blk Hb.out id) 0).trans rfl
                have c1 := (blk_cell (HK1.out.blk Hb.out id) 1).trans rfl
                refine wp_region_perm [(0, true), (1, true), (2, true), (3, true), (4, true), (5, true), (6, true), (7, true), (8, true), (9, true), (10, true), (11, true), (12, true), (13, true)] (fun w' => w'.cell? ⟨r, 0, none⟩ = some (.string T) ∧ w'.cell? ⟨r, 1, none⟩ = some (.int .i64 a)) rfl (by kernel_rfl) (by kernel_rfl) (by decide) (fun c a d v w h => by cases d <;> exact h) ⟨c0, c1⟩ ?_
                refine perm_q (v := ?v17_0) (some 43) rfl rfl rfl ?q17_0 ?h17_0; (case q17_0 => (intro w' hS; obtain ⟨s1, s2⟩ := hS; first | (go_simp; done) | (go_simp; rfl))); (try simp only [PU])
                refine perm_q (v := ?v17_1) (some 44) rfl rfl rfl ?q17_1 ?h17_1; (case q17_1 => (intro w' hS; obtain ⟨s1, s2⟩ := hS; first | (go_simp; done) | (go_simp; rfl))); (try simp only [PU])
                refine perm_q (v := ?v17_2) (some 45) rfl rfl rfl ?q17_2 ?h17_2; (case q17_2 => (intro w' hS; obtain ⟨s1, s2⟩ := hS; first | (go_simp; done) | (go_simp; rfl))); (try simp only [PU])
                refine perm_q (v := ?v17_3) (some 46) rfl rfl rfl ?q17_3 ?h17_3; (case q17_3 => (intro w' hS; obtain ⟨s1, s2⟩ := hS; first | (go_simp; done) | (go_simp; rfl))); (try simp only [PU])
                refine perm_q (v := ?v17_4) (some 47) rfl rfl rfl ?q17_4 ?h17_4; (case q17_4 => (intro w' hS; obtain ⟨s1, s2⟩ := hS; first | (go_simp; done) | (go_simp; rfl))); (try simp only [PU])
                refine perm_q (v := ?v17_5) (some 48) rfl rfl rfl ?q17_5 ?h17_5; (case q17_5 => (intro w' hS; obtain ⟨s1, s2⟩ := hS; first | (go_simp; done) | (go_simp; rfl))); (try simp only [PU])
                refine perm_q (v := ?v17_6) (some 49) rfl rfl rfl ?q17_6 ?h17_6; (case q17_6 => (intro w' hS; obtain ⟨s1, s2⟩ := hS; first | (go_simp; done) | (go_simp; rfl))); (try simp only [PU])
                refine perm_q (v := ?v17_7) (some 50) rfl rfl rfl ?q17_7 ?h17_7; (case q17_7 => (intro w' hS; obtain ⟨s1, s2⟩ := hS; first | (go_simp; done) | (go_simp; rfl))); (try simp only [PU])
                refine perm_q (v := ?v17_8) (some 51) rfl rfl rfl ?q17_8 ?h17_8; (case q17_8 => (intro w' hS; obtain ⟨s1, s2⟩ := hS; first | (go_simp; done) | (go_simp; rfl))); (try simp only [PU])
                refine perm_q (v := ?v17_9) (some 52) rfl rfl rfl ?q17_9 ?h17_9; (case q17_9 => (intro w' hS; obtain ⟨s1, s2⟩ := hS; first | (go_simp; done) | (go_simp; rfl))); (try simp only [PU])
                refine perm_q (v := ?v17_10) (some 53) rfl rfl rfl ?q17_10 ?h17_10; (case q17_10 => (intro w' hS; obtain ⟨s1, s2⟩ := hS; first | (go_simp; done) | (go_simp; rfl))); (try simp only [PU])
                refine perm_q (v := ?v17_11) (some 54) rfl rfl rfl ?q17_11 ?h17_11; (case q17_11 => (intro w' hS; obtain ⟨s1, s2⟩ := hS; first | (go_simp; done) | (go_simp; rfl))); (try simp only [PU])
                refine perm_q (v := ?v17_12) (some 55) rfl rfl rfl ?q17_12 ?h17_12; (case q17_12 => (intro w' hS; obtain ⟨s1, s2⟩ := hS; first | (go_simp; done) | (go_simp; rfl))); (try simp only [PU])
                refine perm_q (v := ?v17_13) (some 56) rfl rfl rfl ?q17_13 ?h17_13; (case q17_13 => (intro w' hS; obtain ⟨s1, s2⟩ := hS; first | (go_simp; done) | (go_simp; rfl))); (try simp only [PU])
                refine perm_nil ?_
                have HK1 := Lib.hid (HK1.out.then (Keeps.refl Nob _).drew)
                go_wp2_with (first
                  | (go_at_call 73; go_must (refine (H73.out _ HK1.out).mono ?_; rintro e w2 ⟨rfl, hk1⟩); have HK1 := Lib.hid (HK1.out.trans hk1 (fun _ _ h => h)); clear hk1; (try simp only [PU]))
                  | (go_at_call 72; go_must (refine (H72.out _).mono ?_; rintro e w3 ⟨rfl, rfl⟩); (try simp only [PU]))
                  | (go_at_call 47; go_must (refine (Hfail.out _ HK1.out).mono ?_; rintro e w5 ⟨rfl, rfl⟩); unfold stopAt; (try simp only [PU]))
                  | ((with_reducible refine at_store (t := 3) rfl ?_); go_must (refine ev_store (cs' := #[.string T, .int .i64 ((a : Int) + 1)]) rfl rfl rfl rfl rfl rfl HI.out.1 HI.out.2 rfl (HK1.out.blk Hb.out id) (Nat.le_of_ble_eq_true rfl) rfl ?_; intro w4 hb2 hk2); have Hb2 := Lib.hid hb2; have HK2 := Lib.hid hk2; clear hb2 hk2; (try simp only [PU]))
                )
                go_roundw
                case rel => exact ⟨i + 1, n * 16 + d, q, by first | rfl | go_num, by omega, by first | rfl | go_num | (push_cast; simp), by omega, Hpw, Lib.hid (Hn.out w4 Hb2.out), Lib.hid ((HK.out.then HK1.out).trans HK2.out (fun _ _ h => h)), HR2, Lib.hid (fun h => by omega)⟩
                case measure => (simp [intOf] <;> omega)
      · have hi' : i = 4 := by omega
        subst hi'
        have h255 := H255.out rfl
        have HR2 := Lib.hid (show RR = .ok (UInt8.ofNat n, s') by rw [← HRR.out, ← HE.out]; rfl)
        have hu := u8_wrap n h255
        have Hu := Lib.hid hu
        clear hu
        go_wp2
        go_ret
        rw [HR2.out]
        exact ⟨congrArg (fun x => Ending.returned (Value.int IntKind.u8 x)) Hu.out.symm, Hr.out, HK.out⟩
end Go.Proofs.WV

/-
  The program's reader: a text. Condition: the text is not longer than a million bytes.
-/
namespace Go.Proofs.WV
open Go.RowKit Go.Proofs.KL Go.Proofs.WM
set_option maxRecDepth 100000
set_option linter.unusedSimpArgs false
set_option linter.unusedVariables false

theorem escape102 {w : World} {r : Nat} {T : ByteArray} {s : Bs} (h : Rd w r T s) : Calls Tryd.prog 102 #[.pointer (some ⟨r, 0, none⟩)] w (EndR w r T (fun b => .int .u8 b.toNat) (escB s)) := by
  rcases shortS (headB s) with ⟨h1, -⟩ | ⟨b, i, h1, hi, h2, h3⟩
  · exact escLong h h1
  · cases s with
    | nil =>
      have hz : shortB (headB []) = none := by decide
      rw [hz] at h1
      cases h1
    | cons c q =>
      have h1' : shortB c = some b := h1
      have he : escB (c :: q) = .ok (meantT.getD i 0, q) := by simp only [escB, h1', h3]
      rw [he]
      exact escShort h i hi h2
theorem u8_lt32 (c : UInt8) : c < 32 ↔ (c.toNat : Int) < 32 := by
  rw [UInt8.lt_iff_toNat_lt]
  have h1 : (32 : UInt8).toNat = 32 := rfl
  rw [h1]
  omega
theorem u8_is (c : UInt8) (n : Nat) (h : n < 256) : c = UInt8.ofNat n ↔ (c.toNat : Int) = n := by
  constructor
  · rintro rfl; rw [UInt8.toNat_ofNat']; omega
  · intro e
    refine UInt8.toNat_inj.1 ?_
    rw [UInt8.toNat_ofNat']
    omega
set_option maxHeartbeats 4000000 in
/-- str. -/
theorem str75 {w : World} {r : Nat} {T : ByteArray} {s : Bs} (h : Rd w r T s) : Calls Tryd.prog 75 #[.pointer (some ⟨r, 0, none⟩)] w (EndR w r T (fun s => .string (mkB s)) (strB s)) := by
  obtain ⟨i3, hi3, hs3⟩ := infoS3
  have HI := Lib.hid (And.intro hi3 hs3)
  have H74 := Lib.hid (word74 h ⟨#[34]⟩ (by decide) (nz1 34 (by decide)))
  have hbl : bl ⟨#[34]⟩ = [34] := rfl
  rw [hbl] at H74
  unfold strB
  have Hr0 := Lib.hid h.lt
  have hT := h.len
  clear hbl hi3 hs3 h
  rcases hw : wordB [34] s with n | s1
  · rw [hw] at H74
    clear hw
    show Calls _ _ _ _ (EndR w r T (fun s : Bs => Value.string (mkB s)) (.error n))
    go_enter Tryd.func75, Tryd.ntmps75
    go_wp2_with (first
      | (go_at_call 74; go_must (refine H74.out.mono ?_; rintro e w4 ⟨rfl, hk4⟩); have HK4 := Lib.hid hk4; clear hk4; unfold stopAt; (try simp only [PU]))
    )
    exact ⟨rfl, rfl, HK4.out⟩
  · rw [hw] at H74
    clear hw
    show Calls _ _ _ _ (EndR w r T (fun s : Bs => Value.string (mkB s)) (strGo (s1.length + 1) [] s1))
    obtain ⟨R0, hR0⟩ : ∃ x, strGo (s1.length + 1) [] s1 = x := ⟨_, rfl⟩
    rw [hR0]
    have HR0 := Lib.hid hR0
    clear hR0
    go_enter Tryd.func75, Tryd.ntmps75
    go_wp2_with (first
      | (go_at_call 74; go_must (refine H74.out.mono ?_; rintro e w4 ⟨⟨x4, rfl⟩, hr4, hk4⟩); have HR4 := Lib.hid hr4; have HK4 := Lib.hid hk4; clear hk4 hr4; (try simp only [PU]))
    )
    go_loopg [3, 4] (s1.length + 1) (fun k bv cv wr => ∃ (f : Nat) (acc s' : Bs) (A : Option Addr) (cp : Nat), k = f + 1 ∧ bv = .slice A acc.length cp ∧ s'.length ≤ f ∧ Hid (acc.length + s'.length ≤ T.size) ∧ Hid (OwnB wr w.heap.size (.slice A acc.length cp) acc) ∧ Hid (Rd wr r T s') ∧ Hid (Keeps (· = r) w wr) ∧ Hid (strGo (f + 1) acc s' = R0))
    case atStart => exact ⟨s1.length, [], s1, none, 0, rfl, rfl, Nat.le_refl _, Lib.hid (by simpa using HR4.out.le), Lib.hid (.inl ⟨rfl, rfl⟩), HR4, HK4, HR0⟩
    case round =>
      obtain ⟨f, acc, s', A, cp, rfl, rfl, hl, Hacc, HO, Hr, HK, HE⟩ := hrel
      have H101 := Lib.hid (is101 Hr.out 34 34 rfl)
      obtain ⟨n, hn⟩ : ∃ x, acc.length = x := ⟨_, rfl⟩
      have Hn := Lib.hid hn
      rw [hn] at HO Hacc ⊢
      clear hn
      cases s' with
      | nil =>
        have HR2 := Lib.hid (show R0 = .error 0 from HE.out.symm)
        have hi0 : isB 34 [] = (false, []) := rfl
        rw [hi0] at H101
        unfold IsOut at H101
        simp only at H101
        clear hi0
        go_wp2_with (first
          | (go_at_call 101; go_must (refine H101.out.mono ?_; rintro e w2 ⟨rfl, hr2, hk2⟩); have Hr2 := Lib.hid hr2; have HK2 := Lib.hid (HK.out.trans hk2 (fun _ _ h => h)); clear hr2 hk2; (try simp only [PU]))
          | (go_at_call 73; go_must (refine (next73 Hr2.out).mono ?_; rintro e w3 ⟨rfl, hk3⟩); have HK3 := Lib.hid (HK2.out.then hk3); have Hr3 := Lib.hid (Hr2.out.keep hk3 id); have q1 := (blk_cell Hr3.out.nil 1).trans rfl; clear hk3; unfold headN; (try simp only [PU]))
          | (go_at_call 47; go_must (refine (fail47 Hr3.out 0 (Nat.zero_le _)).mono ?_; rintro e w5 ⟨rfl, rfl⟩); unfold stopAt; (try simp only [PU]))
        )
        exact ⟨rfl, by rw [HR2.out]; exact ⟨rfl, HK3.out⟩⟩
      | cons c q =>
        have hstep : strGo (f + 1) acc (c :: q) = if c = 34 then .ok (acc, q) else if c < 32 then .error (q.length + 1) else if c = 92 then (match escB q with | .ok (b, r1) => strGo f (acc ++ [b]) r1 | .error e => .error e) else strGo f (acc ++ [c]) q := rfl
        have HE2 := Lib.hid (hstep.symm.trans HE.out)
        have Hrr := Lib.hid Hr0.out
        simp only [List.length_cons] at hl
        have Hacc1 := Lib.hid (show n + (q.length + 1) ≤ T.size from Hacc.out)
        clear hstep
        by_cases h34 : c = 34
        · subst h34
          have HR2 := Lib.hid (show R0 = .ok (acc, q) by rw [← HE2.out, if_pos rfl])
          rw [isB_at] at H101
          unfold IsOut at H101
          simp only at H101
          go_wp2_with (first
            | (go_at_call 101; go_must (refine H101.out.mono ?_; rintro e w2 ⟨rfl, hr2, hk2⟩); have Hr2 := Lib.hid hr2; have HO2 := Lib.hid (HO.out.keep hk2 (fun k hk e => by have := (HO.out.lt k hk).1; have := Hr0.out; omega)); have HK2 := Lib.hid (HK.out.trans hk2 (fun _ _ h => h)); clear hr2 hk2; (try simp only [PU]))
            | ((with_reducible refine at_dst (N := 48) rfl ?_); go_must (refine ev_conv_bs rfl rfl Tryd.underlying38 Tryd.underlying5 Tryd.underlying9 rfl HO2.out.bytes ?_); (try simp only [PU]))
          )
          go_ret
          rw [HR2.out]
          exact ⟨rfl, Hr2.out, HK2.out⟩
        · rw [isB_ne h34] at H101
          unfold IsOut at H101
          simp only at H101
          obtain ⟨cv, hcv⟩ : ∃ x : Int, (c.toNat : Int) = x := ⟨_, rfl⟩
          have Hcv := Lib.hid (show headN (c :: q) = cv from hcv)
          have Hbc := Lib.hid hcv
          have H34 := Lib.hid h34
          by_cases h32 : c < 32
          · have h32i : cv < 32 := by rw [← hcv]; exact (u8_lt32 c).1 h32
            have HR2 := Lib.hid (show R0 = .error (q.length + 1) by rw [← HE2.out, if_neg H34.out, if_pos h32])
            clear h32 hcv h34
            go_wp2_with (first
              | (go_at_call 101; go_must (refine H101.out.mono ?_; rintro e w2 ⟨rfl, hr2, hk2⟩); have Hr2 := Lib.hid hr2; have HK2 := Lib.hid (HK.out.trans hk2 (fun _ _ h => h)); clear hr2 hk2; (try simp only [PU]))
              | (go_at_call 73; go_must (refine (next73 Hr2.out).mono ?_; rintro e w3 ⟨rfl, hk3⟩); have HK3 := Lib.hid (HK2.out.then hk3); have Hr3 := Lib.hid (Hr2.out.keep hk3 id); have q1 := (blk_cell Hr3.out.blk 1).trans rfl; clear hk3; rw [Hcv.out]; (try simp only [PU]))
              | (go_at_call 47; go_must (refine (fail47 Hr3.out (q.length + 1) Hr3.out.le).mono ?_; rintro e w5 ⟨rfl, rfl⟩); unfold stopAt; (try simp only [PU]))
            )
            exact ⟨rfl, by rw [HR2.out]; exact ⟨rfl, HK3.out⟩⟩
          · have h32i : ¬ cv < 32 := by rw [← hcv]; exact fun h => h32 ((u8_lt32 c).2 h)
            have H32 := Lib.hid h32
            by_cases h92 : c = 92
            · have h92i : cv = 92 := by rw [← hcv, h92]; rfl
              have HE3 := Lib.hid (show (match escB q with | .ok (b, r1) => strGo f (acc ++ [b]) r1 | .error e => .error e) = R0 by rw [← HE2.out, if_neg H34.out, if_neg H32.out, if_pos h92])
              subst h92i
              clear hcv h34 h32 h92 h32i
              rcases he : escB q with m | ⟨bb, r1⟩
              · have HR2 := Lib.hid (show R0 = .error m by rw [← HE3.out, he])
                have He := Lib.hid he
                clear he
                go_wp2_with (first
                  | (go_at_call 101; go_must (refine H101.out.mono ?_; rintro e w2 ⟨rfl, hr2, hk2⟩); have Hr2 := Lib.hid hr2; have HK2 := Lib.hid (HK.out.trans hk2 (fun _ _ h => h)); have HO2 := Lib.hid (HO.out.keep hk2 (fun k hk e => by have := (HO.out.lt k hk).1; have := Hr0.out; omega)); clear hr2 hk2; (try simp only [PU]))
                  | (go_at_call 73; go_must (refine (next73 Hr2.out).mono ?_; rintro e w3 ⟨rfl, hk3⟩)
                     have HK3 := Lib.hid (HK2.out.then hk3)
                     have HO3 := Lib.hid (HO2.out.keep hk3 (fun _ _ => id))
                     have Hr3 := Lib.hid (Hr2.out.keep hk3 id)
                     obtain ⟨a, ha, ⟨hb, -⟩, -, -, hnx⟩ := Hr3.out.cons
                     have q1 := (blk_cell hb 1).trans rfl
                     have Hb3 := Lib.hid hb
                     have Hnx := Lib.hid hnx
                     clear hk3 hb hnx
                     rw [Hcv.out]
                     (try simp only [PU]))
                  | ((with_reducible refine at_store (t := 3) rfl ?_); go_must (refine ev_store (cs' := #[.string T, .int .i64 ((a : Int) + 1)]) rfl rfl rfl rfl rfl rfl HI.out.1 HI.out.2 rfl Hb3.out (Nat.le_of_ble_eq_true rfl) rfl ?_; intro w5 hb5 hk5)
                     have HR5 := Lib.hid (Hnx.out w5 hb5)
                     have HK5 := Lib.hid (HK3.out.trans hk5 (fun _ _ h => h))
                     have HO4 := Lib.hid (HO3.out.keep hk5 (fun k hk e => by have := (HO3.out.lt k hk).1; have := Hr0.out; omega))
                     have HO5 := HO4
                     have HKA := HK5
                     clear hb5 hk5 q1
                     (try simp only [PU]))
                  | (go_at_call 102; go_must (have h102 := escape102 HR5.out; rw [He.out] at h102; refine h102.mono ?_; rintro e w9 ⟨rfl, hk9⟩); have HK9 := Lib.hid (HK5.out.trans hk9 (fun _ _ h => h)); clear hk9; unfold stopAt; (try simp only [PU]))
                )
                exact ⟨rfl, by rw [HR2.out]; exact ⟨rfl, HK9.out⟩⟩
              · have HR2 := Lib.hid (show strGo f (acc ++ [bb]) r1 = R0 by rw [← HE3.out, he])
                have hel := escB_len he
                have He := Lib.hid he
                obtain ⟨bv, hbv⟩ : ∃ x : Int, (bb.toNat : Int) = x := ⟨_, rfl⟩
                have Hbv := Lib.hid hbv
                clear he hbv
                go_wp2_with (first
                  | (go_at_call 101; go_must (refine H101.out.mono ?_; rintro e w2 ⟨rfl, hr2, hk2⟩); have Hr2 := Lib.hid hr2; have HK2 := Lib.hid (HK.out.trans hk2 (fun _ _ h => h)); have HO2 := Lib.hid (HO.out.keep hk2 (fun k hk e => by have := (HO.out.lt k hk).1; have := Hr0.out; omega)); clear hr2 hk2; (try simp only [PU]))
                  | (go_at_call 73; go_must (refine (next73 Hr2.out).mono ?_; rintro e w3 ⟨rfl, hk3⟩)
                     have HK3 := Lib.hid (HK2.out.then hk3)
                     have HO3 := Lib.hid (HO2.out.keep hk3 (fun _ _ => id))
                     have Hr3 := Lib.hid (Hr2.out.keep hk3 id)
                     obtain ⟨a, ha, ⟨hb, -⟩, -, -, hnx⟩ := Hr3.out.cons
                     have q1 := (blk_cell hb 1).trans rfl
                     have Hb3 := Lib.hid hb
                     have Hnx := Lib.hid hnx
                     clear hk3 hb hnx
                     rw [Hcv.out]
                     (try simp only [PU]))
                  | ((with_reducible refine at_store (t := 3) rfl ?_); go_must (refine ev_store (cs' := #[.string T, .int .i64 ((a : Int) + 1)]) rfl rfl rfl rfl rfl rfl HI.out.1 HI.out.2 rfl Hb3.out (Nat.le_of_ble_eq_true rfl) rfl ?_; intro w5 hb5 hk5)
                     have HR5 := Lib.hid (Hnx.out w5 hb5)
                     have HK5 := Lib.hid (HK3.out.trans hk5 (fun _ _ h => h))
                     have HO4 := Lib.hid (HO3.out.keep hk5 (fun k hk e => by have := (HO3.out.lt k hk).1; have := Hr0.out; omega))
                     have HO5 := HO4
                     have HKA := HK5
                     clear hb5 hk5 q1
                     (try simp only [PU]))
                  | (go_at_call 102; go_must (have h102 := escape102 HR5.out; rw [He.out] at h102; refine h102.mono ?_; rintro e w9 ⟨rfl, hr9, hk9⟩)
                     have HKA := Lib.hid (HK5.out.trans hk9 (fun _ _ h => h))
                     have HR9 := Lib.hid hr9
                     have HO5 := Lib.hid (HO4.out.keep hk9 (fun k hk e => by have := (HO4.out.lt k hk).1; have := Hr0.out; omega))
                     clear hr9 hk9
                     simp only [Hbv.out]
                     (try simp only [PU]))
                  | ((with_reducible refine at_dst (N := 45) rfl ?_); go_must (refine ev_slice (cs := #[.int .u8 bv]) (t := 5) (n := 1) (c := 1) rfl (by first | (go_simp; done) | (go_simp; rfl)) ?_; intro g4 w6 hg4 hl4 hb4 hk6); have Hb4 := Lib.hid hb4; have HK6 := Lib.hid hk6; clear hb4 hk6; (try simp only [PU]))
                  | ((with_reducible refine at_dst (N := 46) rfl ?_); go_must (refine ev_app_sl (W := w6) rfl rfl byteT38 (base := w.heap.size) rfl (HO5.out.keep HK6.out (fun _ _ => id)) rfl (news := [bb]) rfl (fun _ => ⟨_, rfl, by rw [List.map_cons, List.map_nil]; unfold byteV; rw [Hbv.out]; exact World.news_of_block Hb4.out⟩) (by have h1 := Hacc1.out; have h2 : acc.length = n := Hn.out; omega) (by have := HKA.out.size; have := HK6.out.size; omega) ?_; intro v7 w7 ho7 ha7; obtain ⟨nA, nc, hv7⟩ := ho7.slice; subst hv7)
                     have HO7 := Lib.hid ho7
                     have HA7 := Lib.hid ha7
                     clear ho7 ha7
                     (try simp only [PU]))
                )
                go_roundg f
                case measure => omega
                case rel => exact ⟨f - 1, acc ++ [bb], r1, nA, nc, by omega, by rw [List.length_append, Hn.out]; rfl, by omega, Lib.hid (by rw [List.length_append, Hn.out]; simp only [List.length_cons, List.length_nil]; have := Hacc1.out; omega), Lib.hid (by have h := HO7.out; rw [List.length_append, Hn.out] at h ⊢; exact h), Lib.hid ((HR9.out.keep HK6.out id).keep HA7.out.keep (fun e => by have := (HO5.out.lt r e.symm).1; have := Hr0.out; omega)), Lib.hid ((HKA.out.then HK6.out).trans HA7.out.keep (fun k hk e => by have := (HO5.out.lt k e.symm).1; omega)), Lib.hid (by rw [show f - 1 + 1 = f by omega]; exact HR2.out)⟩
            · have h92i : (cv == 92) = false := by rw [← hcv]; exact beq_eq_false_iff_ne.2 (fun e => h92 ((u8_is c 92 (by decide)).2 e))
              have HR2 := Lib.hid (show strGo f (acc ++ [c]) q = R0 by rw [← HE2.out, if_neg H34.out, if_neg H32.out, if_neg h92])
              have Hbv := Hbc
              clear hcv h34 h32 h92
              go_wp2_with (first
                | (go_at_call 101; go_must (refine H101.out.mono ?_; rintro e w2 ⟨rfl, hr2, hk2⟩); have Hr2 := Lib.hid hr2; have HK2 := Lib.hid (HK.out.trans hk2 (fun _ _ h => h)); have HO2 := Lib.hid (HO.out.keep hk2 (fun k hk e => by have := (HO.out.lt k hk).1; have := Hr0.out; omega)); clear hr2 hk2; (try simp only [PU]))
                | (go_at_call 73; go_must (refine (next73 Hr2.out).mono ?_; rintro e w3 ⟨rfl, hk3⟩)
                   have HK3 := Lib.hid (HK2.out.then hk3)
                   have HO3 := Lib.hid (HO2.out.keep hk3 (fun _ _ => id))
                   have Hr3 := Lib.hid (Hr2.out.keep hk3 id)
                   obtain ⟨a, ha, ⟨hb, -⟩, -, -, hnx⟩ := Hr3.out.cons
                   have q1 := (blk_cell hb 1).trans rfl
                   have Hb3 := Lib.hid hb
                   have Hnx := Lib.hid hnx
                   clear hk3 hb hnx
                   rw [Hcv.out]
                   (try simp only [PU]))
                | ((with_reducible refine at_store (t := 3) rfl ?_); go_must (refine ev_store (cs' := #[.string T, .int .i64 ((a : Int) + 1)]) rfl rfl rfl rfl rfl rfl HI.out.1 HI.out.2 rfl Hb3.out (Nat.le_of_ble_eq_true rfl) rfl ?_; intro w5 hb5 hk5)
                   have HR5 := Lib.hid (Hnx.out w5 hb5)
                   have HK5 := Lib.hid (HK3.out.trans hk5 (fun _ _ h => h))
                   have HO4 := Lib.hid (HO3.out.keep hk5 (fun k hk e => by have := (HO3.out.lt k hk).1; have := Hr0.out; omega))
                   have HO5 := HO4
                   have HKA := HK5
                   clear hb5 hk5 q1
                   (try simp only [PU]))
                | ((with_reducible refine at_dst (N := 21) rfl ?_); go_must (refine ev_slice (cs := #[.int .u8 cv]) (t := 5) (n := 1) (c := 1) rfl (by first | (go_simp; done) | (go_simp; rfl)) ?_; intro g4 w6 hg4 hl4 hb4 hk6); have Hb4 := Lib.hid hb4; have HK6 := Lib.hid hk6; clear hb4 hk6; (try simp only [PU]))
                | ((with_reducible refine at_dst (N := 22) rfl ?_); go_must (refine ev_app_sl (W := w6) rfl rfl byteT38 (base := w.heap.size) rfl (HO5.out.keep HK6.out (fun _ _ => id)) rfl (news := [c]) rfl (fun _ => ⟨_, rfl, by rw [List.map_cons, List.map_nil]; unfold byteV; rw [Hbv.out]; exact World.news_of_block Hb4.out⟩) (by have h1 := Hacc1.out; have h2 : acc.length = n := Hn.out; omega) (by have := HKA.out.size; have := HK6.out.size; omega) ?_; intro v7 w7 ho7 ha7; obtain ⟨nA, nc, hv7⟩ := ho7.slice; subst hv7)
                   have HO7 := Lib.hid ho7
                   have HA7 := Lib.hid ha7
                   clear ho7 ha7
                   (try simp only [PU]))
              )
              go_roundg f
              case measure => omega
              case rel => exact ⟨f - 1, acc ++ [c], q, nA, nc, by omega, by rw [List.length_append, Hn.out]; rfl, by omega, Lib.hid (by rw [List.length_append, Hn.out]; simp only [List.length_cons, List.length_nil]; have := Hacc1.out; omega), Lib.hid (by have h := HO7.out; rw [List.length_append, Hn.out] at h ⊢; exact h), Lib.hid ((HR5.out.keep HK6.out id).keep HA7.out.keep (fun e => by have := (HO5.out.lt r e.symm).1; have := Hr0.out; omega)), Lib.hid ((HKA.out.then HK6.out).trans HA7.out.keep (fun k hk e => by have := (HO5.out.lt k e.symm).1; omega)), Lib.hid (by rw [show f - 1 + 1 = f by omega]; exact HR2.out)⟩
end Go.Proofs.WV
