/-
 The program's reader: a list of parts between brackets, whatever a part is. Condition: the text is not longer than a million bytes; each part does what its model does.
-/
import Derived.Test.YtcmmnbipaemgiaaDoorMp2
namespace Go.Proofs.WV
open Go.RowKit Go.Proofs.KL Go.Proofs.WM
set_option maxRecDepth 100000
set_option linter.unusedSimpArgs false
set_option linter.unusedVariables false

def listF {σ : Type} (close : UInt8) (step : Nat → σ → Bs → R σ) : Nat → σ → Bs → R σ
 | 0, _, r => .error r.length
 | f + 1, x, r => match step f x r with
   | .error e => .error e
   | .ok y => match moreB close y.2 with
     | .done r2 => .ok (y.1, r2)
     | .bad e => .error e
     | .more r2 => listF close step f y.1 r2
def openL {σ : Type} (close : UInt8) (step : Nat → σ → Bs → R σ) (f : Nat) (x0 : σ) (q : Bs) : R σ := match openB close q with
 | some s => .ok (x0, s)
 | none => listF close step f x0 (blanksB q)
theorem openL_nil {σ : Type} {close : UInt8} {step : Nat → σ → Bs → R σ} {f : Nat} {x0 : σ} {q : Bs} (h : blanksB q = []) : openL close step f x0 q = listF close step f x0 [] := by
 unfold openL openB
 rw [h]
theorem openL_at {σ : Type} {close : UInt8} {step : Nat → σ → Bs → R σ} {f : Nat} {x0 : σ} {q q' : Bs} (h : blanksB q = close :: q') : openL close step f x0 q = .ok (x0, q') := by
 unfold openL openB
 rw [h]
 simp
theorem openL_ne {σ : Type} {close : UInt8} {step : Nat → σ → Bs → R σ} {f : Nat} {x0 : σ} {q q' : Bs} {d : UInt8} (h : blanksB q = d :: q') (hd : ¬ d = close) : openL close step f x0 q = listF close step f x0 (d :: q') := by
 unfold openL openB
 rw [h]
 simp [hd]
def MR (r base : Nat) : Nat → Prop := fun k => k = r ∨ base ≤ k
def PartOut (w : World) (r : Nat) (T : ByteArray) (base : Nat) {σ : Type} (Inv : σ → World → Prop) : R σ → Ending → World → Prop
 | .ok x, e, w' => (∃ y, e = .returned y) ∧ Rd w' r T x.2 ∧ Inv x.1 w' ∧ Keeps (MR r base) w w'
 | .error n, e, w' => e = stopAt T n ∧ Keeps (MR r base) w w'
theorem keepsMR {r base : Nat} {w w' : World} (h : Keeps (· = r) w w') : Keeps (MR r base) w w' := h.mono (fun _ _ e => .inl e)
theorem moreB_nil {close : UInt8} {r : Bs} (h : blanksB r = []) : moreB close r = .bad 0 := by unfold moreB; rw [h]
theorem moreB_cons {close : UInt8} {r : Bs} {c : UInt8} {q : Bs} (h : blanksB r = c :: q) : moreB close r = if c = close then .done q else if c = 44 then .more (blanksB q) else .bad (q.length + 1) := by unfold moreB; rw [h]
set_option maxHeartbeats 4000000 in
theorem list78v {σ : Type} {w : World} {r : Nat} {T : ByteArray} {c0 : UInt8} {q : Bs} (h : Rd w r T (c0 :: q)) (base : Nat) (hrb : r < base ∧ base ≤ w.heap.size) (close : UInt8) (p1 p2 p3 : Nat) (step : Nat → σ → Bs → R σ) (Inv : σ → World → Prop)
  (hinv : ∀ x W W', Inv x W → Keeps (· = r) W W' → Inv x W') (hlen : ∀ f x s x' s', step f x s = .ok (x', s') → s'.length ≤ s.length) (size : σ → Nat) (B : Nat) (hsz : ∀ f x s x' s', step f x s = .ok (x', s') → size x' + s'.length ≤ size x + s.length)
  (hp : ∀ f x s W, 3 * s.length + 2 ≤ f → size x + s.length ≤ B → Rd W r T s → Inv x W → Keeps (MR r base) w W → Calls Tryd.prog 79 #[.pointer (some ⟨p1, 0, none⟩), .pointer (some ⟨p2, 0, none⟩), .pointer (some ⟨p3, 0, none⟩)] W (PartOut W r T base Inv (step f x s)))
  (f : Nat) (hf : 3 * (blanksB q).length + 3 ≤ f) (x0 : σ) (hx0 : Inv x0 w) (hB0 : size x0 + q.length ≤ B) :
  Calls Tryd.prog 78 #[.pointer (some ⟨r, 0, none⟩), .int .u8 (close.toNat : Int), .func (.func 79) #[] #[.pointer (some ⟨p1, 0, none⟩), .pointer (some ⟨p2, 0, none⟩), .pointer (some ⟨p3, 0, none⟩)]] w
   (PartOut w r T base Inv (openL close step f x0 q)) := by
 skip
 obtain ⟨i3, hi3, hs3⟩ := infoS3
 have HI := Lib.hid (And.intro hi3 hs3)
 have HP := Lib.hid hp
 have Hinv := Lib.hid hinv
 have Hlen := Lib.hid hlen
 have Hsz := Lib.hid hsz
 have hqb := blanksB_le q
 have Hx0 := Lib.hid hx0
 have Hrb := Lib.hid hrb
 obtain ⟨a, ha, ⟨hb, -⟩, hT, hal, hnx⟩ := h.cons
 have Hb := Lib.hid hb
 have Hnx := Lib.hid hnx
 have q1 := (blk_cell hb 1).trans rfl
 obtain ⟨cl, hcl⟩ : ∃ x : Int, (close.toNat : Int) = x := ⟨_, rfl⟩
 rw [hcl]
 have Hcl := Lib.hid hcl.symm
 obtain ⟨RR, hRR⟩ : ∃ x, openL close step f x0 q = x := ⟨_, rfl⟩
 rw [hRR]
 have HRR := Lib.hid hRR
 have Hf := Lib.hid hf
 clear hp hinv hlen hsz hx0 hrb hb hnx hcl hRR hi3 hs3 hf
 rcases hbq : blanksB q with _ | ⟨d, q'⟩
 · rw [hbq] at Hf
   have HR0 := Lib.hid (show listF close step f x0 [] = RR by rw [← openL_nil hbq]; exact HRR.out)
   have hi0 : isB close [] = (false, []) := rfl
   have Hi0 := Lib.hid hi0
   have Hbq := Lib.hid hbq
   clear hi0 hbq HRR
   obtain ⟨s0, hs0⟩ : ∃ x : Bs, [] = x := ⟨_, rfl⟩
   have Hi1 := Lib.hid (show isB close s0 = (false, s0) by rw [← hs0]; exact Hi0.out)
   have Hbq1 := Lib.hid (show blanksB q = s0 by rw [← hs0]; exact Hbq.out)
   have HR1 := Lib.hid (show listF close step f x0 s0 = RR by rw [← hs0]; exact HR0.out)
   have Hf1 := Lib.hid (show 3 * s0.length + 3 ≤ f by rw [← hs0]; exact Hf.out)
   clear hs0
   go_enter Tryd.func78, Tryd.ntmps78
   go_wp2_with (first
    | ((with_reducible refine at_store (t := 3) rfl ?_); go_must (refine ev_store (cs' := #[.string T, .int .i64 ((a : Int) + 1)]) rfl rfl rfl rfl rfl rfl HI.out.1 HI.out.2 rfl Hb.out (Nat.le_of_ble_eq_true rfl) rfl ?_; intro w1 hb1 hk1); have HR1' := Lib.hid (Hnx.out w1 hb1); have HK1 := Lib.hid hk1; clear hb1 hk1 q1; (try simp only [PU]))
    | (go_at_call 45; go_must (refine (blanks45 HR1'.out).mono ?_; rintro e w2 ⟨⟨y, rfl⟩, hr2, hk2⟩; rw [Hbq1.out] at hr2); have HRb := Lib.hid hr2; have HKb := Lib.hid (HK1.out.trans hk2 (fun _ _ h => h)); clear hr2 hk2; (try simp only [PU]))
    | (go_at_call 101; go_must (refine (is101 HRb.out close _ Hcl.out).mono ?_; rw [Hi1.out]; rintro e w3 ⟨rfl, hr3, hk3⟩); have HRi := Lib.hid hr3; have HKi := Lib.hid (HKb.out.trans hk3 (fun _ _ h => h)); clear hr3 hk3; (try simp only [PU]))
   )
   go_loopg [] f (fun k wr => ∃ (x : σ) (s : Bs), 3 * s.length + 3 ≤ k ∧ size x + s.length ≤ B ∧ Hid (Rd wr r T s) ∧ Hid (Inv x wr) ∧ Hid (Keeps (MR r base) w wr) ∧ Hid (listF close step k x s = RR))
   case atStart => exact ⟨x0, s0, Hf1.out, by have := congrArg List.length Hbq1.out; omega, HRi, Lib.hid (Hinv.out _ _ _ Hx0.out HKi.out), Lib.hid (keepsMR HKi.out), HR1⟩
   case round =>
    obtain ⟨x, s, hk, hsB, Hr, Hin, HK, HE⟩ := hrel
    obtain ⟨f1, hf1⟩ : ∃ f1, gk = f1 + 1 := ⟨gk - 1, by omega⟩
    subst hf1
    have Hrun := Lib.hid (HP.out f1 x s wr (by omega) hsB Hr.out Hin.out HK.out)
    rcases hst : step f1 x s with n | ⟨x', r1⟩
    · have HR2 := Lib.hid (show RR = .error n by rw [← HE.out]; simp only [listF, hst])
      rw [hst] at Hrun
      clear hst
      go_wp2_with (first
       | (go_at_call 79; go_must (refine Hrun.out.mono ?_; rintro e w2 ⟨rfl, hk2⟩); have HKe := Lib.hid (HK.out.trans hk2 (fun _ _ h => h)); clear hk2; unfold stopAt; (try simp only [PU]))
      )
      exact ⟨rfl, by rw [HR2.out]; exact ⟨rfl, HKe.out⟩⟩
    · have HE2 := Lib.hid (show (match moreB close r1 with | .done r2 => .ok (x', r2) | .bad e => .error e | .more r2 => listF close step f1 x' r2) = RR by rw [← HE.out]; simp only [listF, hst])
      have hle := Hlen.out _ _ _ _ _ hst
      have hsx := Hsz.out _ _ _ _ _ hst
      rw [hst] at Hrun
      clear hst
      rcases hbq : blanksB r1 with _ | ⟨d, q'⟩
      · rw [moreB_nil hbq] at HE2
        have HR2 := Lib.hid (show RR = .error 0 from HE2.out.symm)
        have Hbq1 := Lib.hid hbq
        have Hi1 := Lib.hid (show isB close [] = (false, []) from rfl)
        have Hw1 := Lib.hid (show wordB [44] [] = .error 0 from rfl)
        clear hbq
        go_wp2_with (first
         | (go_at_call 79; go_must (refine Hrun.out.mono ?_; rintro e w2 ⟨⟨y2, rfl⟩, hr2, hi2, hk2⟩); have HRp := Lib.hid hr2; have HIp := Lib.hid hi2; have HKp := Lib.hid (HK.out.trans hk2 (fun _ _ h => h)); clear hr2 hi2 hk2; (try simp only [PU]))
         | (go_at_call 45; first | (have hz := HRw.out; go_must (refine (blanks45 hz).mono ?_; rintro e w7 ⟨⟨y7, rfl⟩, hr7, hk7⟩); have HRz := Lib.hid hr7; have HIz := Lib.hid (Hinv.out _ _ _ HIw.out hk7); have HKz := Lib.hid (HKw.out.trans (keepsMR hk7) (fun _ _ h => h)); clear hr7 hk7 hz; (try simp only [PU])) | (go_must (refine (blanks45 HRp.out).mono ?_; rintro e w3 ⟨⟨y3, rfl⟩, hr3, hk3⟩; rw [Hbq1.out] at hr3); have HRb := Lib.hid hr3; have HIb := Lib.hid (Hinv.out _ _ _ HIp.out hk3); have HKb := Lib.hid (HKp.out.trans (keepsMR hk3) (fun _ _ h => h)); clear hr3 hk3; (try simp only [PU])))
         | (go_at_call 101; go_must (refine (is101 HRb.out close _ Hcl.out).mono ?_; rw [Hi1.out]; rintro e w4 ⟨rfl, hr4, hk4⟩); have HRi := Lib.hid hr4; have HIi := Lib.hid (Hinv.out _ _ _ HIb.out hk4); have HKi := Lib.hid (HKb.out.trans (keepsMR hk4) (fun _ _ h => h)); clear hr4 hk4; (try simp only [PU]))
         | (go_at_call 74; go_must (have h74 := word74 HRi.out ⟨#[44]⟩ (by decide) (nz1 44 (by decide)); rw [show bl ⟨#[44]⟩ = [44] from rfl, Hw1.out] at h74; refine h74.mono ?_; rintro e w6 ⟨rfl, hk6⟩); have HKe := Lib.hid (HKi.out.trans (keepsMR hk6) (fun _ _ h => h)); clear hk6; unfold stopAt; (try simp only [PU]))
        )
        exact ⟨rfl, by rw [HR2.out]; exact ⟨rfl, HKe.out⟩⟩
      · rw [moreB_cons hbq] at HE2
        have hl2 := blanksB_le r1
        rw [hbq, List.length_cons] at hl2
        have Hbq1 := Lib.hid hbq
        clear hbq
        by_cases hdc : d = close
        · have HR2 := Lib.hid (show RR = .ok (x', q') by rw [← HE2.out]; simp only [if_pos hdc])
          have Hi1 := Lib.hid (show isB close (d :: q') = (true, q') by rw [hdc]; exact isB_at _ _)
          clear hdc
          go_wp2_with (first
           | (go_at_call 79; go_must (refine Hrun.out.mono ?_; rintro e w2 ⟨⟨y2, rfl⟩, hr2, hi2, hk2⟩); have HRp := Lib.hid hr2; have HIp := Lib.hid hi2; have HKp := Lib.hid (HK.out.trans hk2 (fun _ _ h => h)); clear hr2 hi2 hk2; (try simp only [PU]))
           | (go_at_call 45; first | (have hz := HRw.out; go_must (refine (blanks45 hz).mono ?_; rintro e w7 ⟨⟨y7, rfl⟩, hr7, hk7⟩); have HRz := Lib.hid hr7; have HIz := Lib.hid (Hinv.out _ _ _ HIw.out hk7); have HKz := Lib.hid (HKw.out.trans (keepsMR hk7) (fun _ _ h => h)); clear hr7 hk7 hz; (try simp only [PU])) | (go_must (refine (blanks45 HRp.out).mono ?_; rintro e w3 ⟨⟨y3, rfl⟩, hr3, hk3⟩; rw [Hbq1.out] at hr3); have HRb := Lib.hid hr3; have HIb := Lib.hid (Hinv.out _ _ _ HIp.out hk3); have HKb := Lib.hid (HKp.out.trans (keepsMR hk3) (fun _ _ h => h)); clear hr3 hk3; (try simp only [PU])))
           | (go_at_call 101; go_must (refine (is101 HRb.out close _ Hcl.out).mono ?_; rw [Hi1.out]; rintro e w4 ⟨rfl, hr4, hk4⟩); have HRi := Lib.hid hr4; have HIi := Lib.hid (Hinv.out _ _ _ HIb.out hk4); have HKi := Lib.hid (HKb.out.trans (keepsMR hk4) (fun _ _ h => h)); clear hr4 hk4; (try simp only [PU]))
          )
          go_end0
          rw [HR2.out]
          exact ⟨⟨_, rfl⟩, HRi.out, HIi.out, HKi.out⟩
        · have Hi1 := Lib.hid (isB_ne hdc q')
          by_cases h44 : d = 44
          · have HR2 := Lib.hid (show listF close step f1 x' (blanksB q') = RR by rw [← HE2.out]; simp only [if_neg hdc, if_pos h44])
            have Hw1 := Lib.hid (show wordB [44] (d :: q') = .ok q' by simp [wordB, h44])
            have hl3 := blanksB_le q'
            clear hdc h44
            go_wp2_with (first
             | (go_at_call 79; go_must (refine Hrun.out.mono ?_; rintro e w2 ⟨⟨y2, rfl⟩, hr2, hi2, hk2⟩); have HRp := Lib.hid hr2; have HIp := Lib.hid hi2; have HKp := Lib.hid (HK.out.trans hk2 (fun _ _ h => h)); clear hr2 hi2 hk2; (try simp only [PU]))
             | (go_at_call 45; first | (have hz := HRw.out; go_must (refine (blanks45 hz).mono ?_; rintro e w7 ⟨⟨y7, rfl⟩, hr7, hk7⟩); have HRz := Lib.hid hr7; have HIz := Lib.hid (Hinv.out _ _ _ HIw.out hk7); have HKz := Lib.hid (HKw.out.trans (keepsMR hk7) (fun _ _ h => h)); clear hr7 hk7 hz; (try simp only [PU])) | (go_must (refine (blanks45 HRp.out).mono ?_; rintro e w3 ⟨⟨y3, rfl⟩, hr3, hk3⟩; rw [Hbq1.out] at hr3); have HRb := Lib.hid hr3; have HIb := Lib.hid (Hinv.out _ _ _ HIp.out hk3); have HKb := Lib.hid (HKp.out.trans (keepsMR hk3) (fun _ _ h => h)); clear hr3 hk3; (try simp only [PU])))
             | (go_at_call 101; go_must (refine (is101 HRb.out close _ Hcl.out).mono ?_; rw [Hi1.out]; rintro e w4 ⟨rfl, hr4, hk4⟩); have HRi := Lib.hid hr4; have HIi := Lib.hid (Hinv.out _ _ _ HIb.out hk4); have HKi := Lib.hid (HKb.out.trans (keepsMR hk4) (fun _ _ h => h)); clear hr4 hk4; (try simp only [PU]))
             | (go_at_call 74; go_must (have h74 := word74 HRi.out ⟨#[44]⟩ (by decide) (nz1 44 (by decide)); rw [show bl ⟨#[44]⟩ = [44] from rfl, Hw1.out] at h74; refine h74.mono ?_; rintro e w6 ⟨⟨y6, rfl⟩, hr6, hk6⟩); have HRw := Lib.hid hr6; have HIw := Lib.hid (Hinv.out _ _ _ HIi.out hk6); have HKw := Lib.hid (HKi.out.trans (keepsMR hk6) (fun _ _ h => h)); clear hr6 hk6; (try simp only [PU]))
            )
            go_roundg f1
            case measure => omega
            case rel => exact ⟨x', blanksB q', by omega, by omega, HRz, HIz, HKz, HR2⟩
          · have HR2 := Lib.hid (show RR = .error (q'.length + 1) by rw [← HE2.out]; simp only [if_neg hdc, if_neg h44])
            have Hw1 := Lib.hid (show wordB [44] (d :: q') = .error (q'.length + 1) by simp [wordB, h44])
            clear hdc h44
            go_wp2_with (first
             | (go_at_call 79; go_must (refine Hrun.out.mono ?_; rintro e w2 ⟨⟨y2, rfl⟩, hr2, hi2, hk2⟩); have HRp := Lib.hid hr2; have HIp := Lib.hid hi2; have HKp := Lib.hid (HK.out.trans hk2 (fun _ _ h => h)); clear hr2 hi2 hk2; (try simp only [PU]))
             | (go_at_call 45; first | (have hz := HRw.out; go_must (refine (blanks45 hz).mono ?_; rintro e w7 ⟨⟨y7, rfl⟩, hr7, hk7⟩); have HRz := Lib.hid hr7; have HIz := Lib.hid (Hinv.out _ _ _ HIw.out hk7); have HKz := Lib.hid (HKw.out.trans (keepsMR hk7) (fun _ _ h => h)); clear hr7 hk7 hz; (try simp only [PU])) | (go_must (refine (blanks45 HRp.out).mono ?_; rintro e w3 ⟨⟨y3, rfl⟩, hr3, hk3⟩; rw [Hbq1.out] at hr3); have HRb := Lib.hid hr3; have HIb := Lib.hid (Hinv.out _ _ _ HIp.out hk3); have HKb := Lib.hid (HKp.out.trans (keepsMR hk3) (fun _ _ h => h)); clear hr3 hk3; (try simp only [PU])))
             | (go_at_call 101; go_must (refine (is101 HRb.out close _ Hcl.out).mono ?_; rw [Hi1.out]; rintro e w4 ⟨rfl, hr4, hk4⟩); have HRi := Lib.hid hr4; have HIi := Lib.hid (Hinv.out _ _ _ HIb.out hk4); have HKi := Lib.hid (HKb.out.trans (keepsMR hk4) (fun _ _ h => h)); clear hr4 hk4; (try simp only [PU]))
             | (go_at_call 74; go_must (have h74 := word74 HRi.out ⟨#[44]⟩ (by decide) (nz1 44 (by decide)); rw [show bl ⟨#[44]⟩ = [44] from rfl, Hw1.out] at h74; refine h74.mono ?_; rintro e w6 ⟨rfl, hk6⟩); have HKe := Lib.hid (HKi.out.trans (keepsMR hk6) (fun _ _ h => h)); clear hk6; unfold stopAt; (try simp only [PU]))
            )
            exact ⟨rfl, by rw [HR2.out]; exact ⟨rfl, HKe.out⟩⟩
 · rw [hbq] at Hf
   have Hbq := Lib.hid hbq
   clear hbq
   by_cases hdc : d = close
   · have HR2 := Lib.hid (show RR = .ok (x0, q') by rw [← HRR.out]; exact openL_at (by rw [← hdc]; exact Hbq.out))
     have Hi1 := Lib.hid (show isB close (d :: q') = (true, q') by rw [hdc]; exact isB_at _ _)
     have Hbq1 := Hbq
     clear hdc HRR
     go_enter Tryd.func78, Tryd.ntmps78
     go_wp2_with (first
      | ((with_reducible refine at_store (t := 3) rfl ?_); go_must (refine ev_store (cs' := #[.string T, .int .i64 ((a : Int) + 1)]) rfl rfl rfl rfl rfl rfl HI.out.1 HI.out.2 rfl Hb.out (Nat.le_of_ble_eq_true rfl) rfl ?_; intro w1 hb1 hk1); have HR1' := Lib.hid (Hnx.out w1 hb1); have HK1 := Lib.hid hk1; clear hb1 hk1 q1; (try simp only [PU]))
      | (go_at_call 45; go_must (refine (blanks45 HR1'.out).mono ?_; rintro e w2 ⟨⟨y, rfl⟩, hr2, hk2⟩; rw [Hbq1.out] at hr2); have HRb := Lib.hid hr2; have HKb := Lib.hid (HK1.out.trans hk2 (fun _ _ h => h)); clear hr2 hk2; (try simp only [PU]))
      | (go_at_call 101; go_must (refine (is101 HRb.out close _ Hcl.out).mono ?_; rw [Hi1.out]; rintro e w3 ⟨rfl, hr3, hk3⟩); have HRi := Lib.hid hr3; have HKi := Lib.hid (HKb.out.trans hk3 (fun _ _ h => h)); clear hr3 hk3; (try simp only [PU]))
     )
     go_end0
     rw [HR2.out]
     exact ⟨⟨_, rfl⟩, HRi.out, Hinv.out _ _ _ Hx0.out HKi.out, keepsMR HKi.out⟩
   · have HR1 := Lib.hid (show listF close step f x0 (d :: q') = RR by rw [← HRR.out]; exact (openL_ne Hbq.out hdc).symm)
     have Hi1 := Lib.hid (isB_ne hdc q')
     obtain ⟨s0, hs0⟩ : ∃ x : Bs, d :: q' = x := ⟨_, rfl⟩
     have Hbq1 := Lib.hid (Hbq.out.trans hs0)
     rw [hs0] at HR1 Hi1 Hf
     have Hf1 := Hf
     clear hdc HRR hs0 Hbq
     go_enter Tryd.func78, Tryd.ntmps78
     go_wp2_with (first
      | ((with_reducible refine at_store (t := 3) rfl ?_); go_must (refine ev_store (cs' := #[.string T, .int .i64 ((a : Int) + 1)]) rfl rfl rfl rfl rfl rfl HI.out.1 HI.out.2 rfl Hb.out (Nat.le_of_ble_eq_true rfl) rfl ?_; intro w1 hb1 hk1); have HR1' := Lib.hid (Hnx.out w1 hb1); have HK1 := Lib.hid hk1; clear hb1 hk1 q1; (try simp only [PU]))
      | (go_at_call 45; go_must (refine (blanks45 HR1'.out).mono ?_; rintro e w2 ⟨⟨y, rfl⟩, hr2, hk2⟩; rw [Hbq1.out] at hr2); have HRb := Lib.hid hr2; have HKb := Lib.hid (HK1.out.trans hk2 (fun _ _ h => h)); clear hr2 hk2; (try simp only [PU]))
      | (go_at_call 101; go_must (refine (is101 HRb.out close _ Hcl.out).mono ?_; rw [Hi1.out]; rintro e w3 ⟨rfl, hr3, hk3⟩); have HRi := Lib.hid hr3; have HKi := Lib.hid (HKb.out.trans hk3 (fun _ _ h => h)); clear hr3 hk3; (try simp only [PU]))
     )
     go_loopg [] f (fun k wr => ∃ (x : σ) (s : Bs), 3 * s.length + 3 ≤ k ∧ size x + s.length ≤ B ∧ Hid (Rd wr r T s) ∧ Hid (Inv x wr) ∧ Hid (Keeps (MR r base) w wr) ∧ Hid (listF close step k x s = RR))
     case atStart => exact ⟨x0, s0, Hf1.out, by have := congrArg List.length Hbq1.out; omega, HRi, Lib.hid (Hinv.out _ _ _ Hx0.out HKi.out), Lib.hid (keepsMR HKi.out), HR1⟩
     case round =>
      obtain ⟨x, s, hk, hsB, Hr, Hin, HK, HE⟩ := hrel
      obtain ⟨f1, hf1⟩ : ∃ f1, gk = f1 + 1 := ⟨gk - 1, by omega⟩
      subst hf1
      have Hrun := Lib.hid (HP.out f1 x s wr (by omega) hsB Hr.out Hin.out HK.out)
      rcases hst : step f1 x s with n | ⟨x', r1⟩
      · have HR2 := Lib.hid (show RR = .error n by rw [← HE.out]; simp only [listF, hst])
        rw [hst] at Hrun
        clear hst
        go_wp2_with (first
         | (go_at_call 79; go_must (refine Hrun.out.mono ?_; rintro e w2 ⟨rfl, hk2⟩); have HKe := Lib.hid (HK.out.trans hk2 (fun _ _ h => h)); clear hk2; unfold stopAt; (try simp only [PU]))
        )
        exact ⟨rfl, by rw [HR2.out]; exact ⟨rfl, HKe.out⟩⟩
      · have HE2 := Lib.hid (show (match moreB close r1 with | .done r2 => .ok (x', r2) | .bad e => .error e | .more r2 => listF close step f1 x' r2) = RR by rw [← HE.out]; simp only [listF, hst])
        have hle := Hlen.out _ _ _ _ _ hst
        have hsx := Hsz.out _ _ _ _ _ hst
        rw [hst] at Hrun
        clear hst
        rcases hbq : blanksB r1 with _ | ⟨d, q'⟩
        · rw [moreB_nil hbq] at HE2
          have HR2 := Lib.hid (show RR = .error 0 from HE2.out.symm)
          have Hbq1 := Lib.hid hbq
          have Hi1 := Lib.hid (show isB close [] = (false, []) from rfl)
          have Hw1 := Lib.hid (show wordB [44] [] = .error 0 from rfl)
          clear hbq
          go_wp2_with (first
           | (go_at_call 79; go_must (refine Hrun.out.mono ?_; rintro e w2 ⟨⟨y2, rfl⟩, hr2, hi2, hk2⟩); have HRp := Lib.hid hr2; have HIp := Lib.hid hi2; have HKp := Lib.hid (HK.out.trans hk2 (fun _ _ h => h)); clear hr2 hi2 hk2; (try simp only [PU]))
           | (go_at_call 45; first | (have hz := HRw.out; go_must (refine (blanks45 hz).mono ?_; rintro e w7 ⟨⟨y7, rfl⟩, hr7, hk7⟩); have HRz := Lib.hid hr7; have HIz := Lib.hid (Hinv.out _ _ _ HIw.out hk7); have HKz := Lib.hid (HKw.out.trans (keepsMR hk7) (fun _ _ h => h)); clear hr7 hk7 hz; (try simp only [PU])) | (go_must (refine (blanks45 HRp.out).mono ?_; rintro e w3 ⟨⟨y3, rfl⟩, hr3, hk3⟩; rw [Hbq1.out] at hr3); have HRb := Lib.hid hr3; have HIb := Lib.hid (Hinv.out _ _ _ HIp.out hk3); have HKb := Lib.hid (HKp.out.trans (keepsMR hk3) (fun _ _ h => h)); clear hr3 hk3; (try simp only [PU])))
           | (go_at_call 101; go_must (refine (is101 HRb.out close _ Hcl.out).mono ?_; rw [Hi1.out]; rintro e w4 ⟨rfl, hr4, hk4⟩); have HRi := Lib.hid hr4; have HIi := Lib.hid (Hinv.out _ _ _ HIb.out hk4); have HKi := Lib.hid (HKb.out.trans (keepsMR hk4) (fun _ _ h => h)); clear hr4 hk4; (try simp only [PU]))
           | (go_at_call 74; go_must (have h74 := word74 HRi.out ⟨#[44]⟩ (by decide) (nz1 44 (by decide)); rw [show bl ⟨#[44]⟩ = [44] from rfl, Hw1.out] at h74; refine h74.mono ?_; rintro e w6 ⟨rfl, hk6⟩); have HKe := Lib.hid (HKi.out.trans (keepsMR hk6) (fun _ _ h => h)); clear hk6; unfold stopAt; (try simp only [PU]))
          )
          exact ⟨rfl, by rw [HR2.out]; exact ⟨rfl, HKe.out⟩⟩
        · rw [moreB_cons hbq] at HE2
          have hl2 := blanksB_le r1
          rw [hbq, List.length_cons] at hl2
          have Hbq1 := Lib.hid hbq
          clear hbq
          by_cases hdc : d = close
          · have HR2 := Lib.hid (show RR = .ok (x', q') by rw [← HE2.out]; simp only [if_pos hdc])
            have Hi1 := Lib.hid (show isB close (d :: q') = (true, q') by rw [hdc]; exact isB_at _ _)
            clear hdc
            go_wp2_with (first
             | (go_at_call 79; go_must (refine Hrun.out.mono ?_; rintro e w2 ⟨⟨y2, rfl⟩, hr2, hi2, hk2⟩); have HRp := Lib.hid hr2; have HIp := Lib.hid hi2; have HKp := Lib.hid (HK.out.trans hk2 (fun _ _ h => h)); clear hr2 hi2 hk2; (try simp only [PU]))
             | (go_at_call 45; first | (have hz := HRw.out; go_must (refine (blanks45 hz).mono ?_; rintro e w7 ⟨⟨y7, rfl⟩, hr7, hk7⟩); have HRz := Lib.hid hr7; have HIz := Lib.hid (Hinv.out _ _ _ HIw.out hk7); have HKz := Lib.hid (HKw.out.trans (keepsMR hk7) (fun _ _ h => h)); clear hr7 hk7 hz; (try simp only [PU])) | (go_must (refine (blanks45 HRp.out).mono ?_; rintro e w3 ⟨⟨y3, rfl⟩, hr3, hk3⟩; rw [Hbq1.out] at hr3); have HRb := Lib.hid hr3; have HIb := Lib.hid (Hinv.out _ _ _ HIp.out hk3); have HKb := Lib.hid (HKp.out.trans (keepsMR hk3) (fun _ _ h => h)); clear hr3 hk3; (try simp only [PU])))
             | (go_at_call 101; go_must (refine (is101 HRb.out close _ Hcl.out).mono ?_; rw [Hi1.out]; rintro e w4 ⟨rfl, hr4, hk4⟩); have HRi := Lib.hid hr4; have HIi := Lib.hid (Hinv.out _ _ _ HIb.out hk4); have HKi := Lib.hid (HKb.out.trans (keepsMR hk4) (fun _ _ h => h)); clear hr4 hk4; (try simp only [PU]))
            )
            go_end0
            rw [HR2.out]
            exact ⟨⟨_, rfl⟩, HRi.out, HIi.out, HKi.out⟩
          · have Hi1 := Lib.hid (isB_ne hdc q')
            by_cases h44 : d = 44
            · have HR2 := Lib.hid (show listF close step f1 x' (blanksB q') = RR by rw [← HE2.out]; simp only [if_neg hdc, if_pos h44])
              have Hw1 := Lib.hid (show wordB [44] (d :: q') = .ok q' by simp [wordB, h44])
              have hl3 := blanksB_le q'
              clear hdc h44
              go_wp2_with (first
               | (go_at_call 79; go_must (refine Hrun.out.mono ?_; rintro e w2 ⟨⟨y2, rfl⟩, hr2, hi2, hk2⟩); have HRp := Lib.hid hr2; have HIp := Lib.hid hi2; have HKp := Lib.hid (HK.out.trans hk2 (fun _ _ h => h)); clear hr2 hi2 hk2; (try simp only [PU]))
               | (go_at_call 45; first | (have hz := HRw.out; go_must (refine (blanks45 hz).mono ?_; rintro e w7 ⟨⟨y7, rfl⟩, hr7, hk7⟩); have HRz := Lib.hid hr7; have HIz := Lib.hid (Hinv.out _ _ _ HIw.out hk7); have HKz := Lib.hid (HKw.out.trans (keepsMR hk7) (fun _ _ h => h)); clear hr7 hk7 hz; (try simp only [PU])) | (go_must (refine (blanks45 HRp.out).mono ?_; rintro e w3 ⟨⟨y3, rfl⟩, hr3, hk3⟩; rw [Hbq1.out] at hr3); have HRb := Lib.hid hr3; have HIb := Lib.hid (Hinv.out _ _ _ HIp.out hk3); have HKb := Lib.hid (HKp.out.trans (keepsMR hk3) (fun _ _ h => h)); clear hr3 hk3; (try simp only [PU])))
               | (go_at_call 101; go_must (refine (is101 HRb.out close _ Hcl.out).mono ?_; rw [Hi1.out]; rintro e w4 ⟨rfl, hr4, hk4⟩); have HRi := Lib.hid hr4; have HIi := Lib.hid (Hinv.out _ _ _ HIb.out hk4); have HKi := Lib.hid (HKb.out.trans (keepsMR hk4) (fun _ _ h => h)); clear hr4 hk4; (try simp only [PU]))
               | (go_at_call 74; go_must (have h74 := word74 HRi.out ⟨#[44]⟩ (by decide) (nz1 44 (by decide)); rw [show bl ⟨#[44]⟩ = [44] from rfl, Hw1.out] at h74; refine h74.mono ?_; rintro e w6 ⟨⟨y6, rfl⟩, hr6, hk6⟩); have HRw := Lib.hid hr6; have HIw := Lib.hid (Hinv.out _ _ _ HIi.out hk6); have HKw := Lib.hid (HKi.out.trans (keepsMR hk6) (fun _ _ h => h)); clear hr6 hk6; (try simp only [PU]))
              )
              go_roundg f1
              case measure => omega
              case rel => exact ⟨x', blanksB q', by omega, by omega, HRz, HIz, HKz, HR2⟩
            · have HR2 := Lib.hid (show RR = .error (q'.length + 1) by rw [← HE2.out]; simp only [if_neg hdc, if_neg h44])
              have Hw1 := Lib.hid (show wordB [44] (d :: q') = .error (q'.length + 1) by simp [wordB, h44])
              clear hdc h44
              go_wp2_with (first
               | (go_at_call 79; go_must (refine Hrun.out.mono ?_; rintro e w2 ⟨⟨y2, rfl⟩, hr2, hi2, hk2⟩); have HRp := Lib.hid hr2; have HIp := Lib.hid hi2; have HKp := Lib.hid (HK.out.trans hk2 (fun _ _ h => h)); clear hr2 hi2 hk2; (try simp only [PU]))
               | (go_at_call 45; first | (have hz := HRw.out; go_must (refine (blanks45 hz).mono ?_; rintro e w7 ⟨⟨y7, rfl⟩, hr7, hk7⟩); have HRz := Lib.hid hr7; have HIz := Lib.hid (Hinv.out _ _ _ HIw.out hk7); have HKz := Lib.hid (HKw.out.trans (keepsMR hk7) (fun _ _ h => h)); clear hr7 hk7 hz; (try simp only [PU])) | (go_must (refine (blanks45 HRp.out).mono ?_; rintro e w3 ⟨⟨y3, rfl⟩, hr3, hk3⟩; rw [Hbq1.out] at hr3); have HRb := Lib.hid hr3; have HIb := Lib.hid (Hinv.out _ _ _ HIp.out hk3); have HKb := Lib.hid (HKp.out.trans (keepsMR hk3) (fun _ _ h => h)); clear hr3 hk3; (try simp only [PU])))
               | (go_at_call 101; go_must (refine (is101 HRb.out close _ Hcl.out).mono ?_; rw [Hi1.out]; rintro e w4 ⟨rfl, hr4, hk4⟩); have HRi := Lib.hid hr4; have HIi := Lib.hid (Hinv.out _ _ _ HIb.out hk4); have HKi := Lib.hid (HKb.out.trans (keepsMR hk4) (fun _ _ h => h)); clear hr4 hk4; (try simp only [PU]))
               | (go_at_call 74; go_must (have h74 := word74 HRi.out ⟨#[44]⟩ (by decide) (nz1 44 (by decide)); rw [show bl ⟨#[44]⟩ = [44] from rfl, Hw1.out] at h74; refine h74.mono ?_; rintro e w6 ⟨rfl, hk6⟩); have HKe := Lib.hid (HKi.out.trans (keepsMR hk6) (fun _ _ h => h)); clear hk6; unfold stopAt; (try simp only [PU]))
              )
              exact ⟨rfl, by rw [HR2.out]; exact ⟨rfl, HKe.out⟩⟩
set_option maxHeartbeats 4000000 in
theorem list78k {σ : Type} {w : World} {r : Nat} {T : ByteArray} {c0 : UInt8} {q : Bs} (h : Rd w r T (c0 :: q)) (base : Nat) (hrb : r < base ∧ base ≤ w.heap.size) (close : UInt8) (p1 p2 p3 p4 : Nat) (step : Nat → σ → Bs → R σ) (Inv : σ → World → Prop)
  (hinv : ∀ x W W', Inv x W → Keeps (· = r) W W' → Inv x W') (hlen : ∀ f x s x' s', step f x s = .ok (x', s') → s'.length ≤ s.length) (size : σ → Nat) (B : Nat) (hsz : ∀ f x s x' s', step f x s = .ok (x', s') → size x' + s'.length ≤ size x + s.length)
  (hp : ∀ f x s W, 3 * s.length + 2 ≤ f → size x + s.length ≤ B → Rd W r T s → Inv x W → Keeps (MR r base) w W → Calls Tryd.prog 103 #[.pointer (some ⟨p1, 0, none⟩), .pointer (some ⟨p2, 0, none⟩), .pointer (some ⟨p3, 0, none⟩), .pointer (some ⟨p4, 0, none⟩)] W (PartOut W r T base Inv (step f x s)))
  (f : Nat) (hf : 3 * (blanksB q).length + 3 ≤ f) (x0 : σ) (hx0 : Inv x0 w) (hB0 : size x0 + q.length ≤ B) :
  Calls Tryd.prog 78 #[.pointer (some ⟨r, 0, none⟩), .int .u8 (close.toNat : Int), .func (.func 103) #[] #[.pointer (some ⟨p1, 0, none⟩), .pointer (some ⟨p2, 0, none⟩), .pointer (some ⟨p3, 0, none⟩), .pointer (some ⟨p4, 0, none⟩)]] w
   (PartOut w r T base Inv (openL close step f x0 q)) := by
 skip
 obtain ⟨i3, hi3, hs3⟩ := infoS3
 have HI := Lib.hid (And.intro hi3 hs3)
 have HP := Lib.hid hp
 have Hinv := Lib.hid hinv
 have Hlen := Lib.hid hlen
 have Hsz := Lib.hid hsz
 have hqb := blanksB_le q
 have Hx0 := Lib.hid hx0
 have Hrb := Lib.hid hrb
 obtain ⟨a, ha, ⟨hb, -⟩, hT, hal, hnx⟩ := h.cons
 have Hb := Lib.hid hb
 have Hnx := Lib.hid hnx
 have q1 := (blk_cell hb 1).trans rfl
 obtain ⟨cl, hcl⟩ : ∃ x : Int, (close.toNat : Int) = x := ⟨_, rfl⟩
 rw [hcl]
 have Hcl := Lib.hid hcl.symm
 obtain ⟨RR, hRR⟩ : ∃ x, openL close step f x0 q = x := ⟨_, rfl⟩
 rw [hRR]
 have HRR := Lib.hid hRR
 have Hf := Lib.hid hf
 clear hp hinv hlen hsz hx0 hrb hb hnx hcl hRR hi3 hs3 hf
 rcases hbq : blanksB q with _ | ⟨d, q'⟩
 · rw [hbq] at Hf
   have HR0 := Lib.hid (show listF close step f x0 [] = RR by rw [← openL_nil hbq]; exact HRR.out)
   have hi0 : isB close [] = (false, []) := rfl
   have Hi0 := Lib.hid hi0
   have Hbq := Lib.hid hbq
   clear hi0 hbq HRR
   obtain ⟨s0, hs0⟩ : ∃ x : Bs, [] = x := ⟨_, rfl⟩
   have Hi1 := Lib.hid (show isB close s0 = (false, s0) by rw [← hs0]; exact Hi0.out)
   have Hbq1 := Lib.hid (show blanksB q = s0 by rw [← hs0]; exact Hbq.out)
   have HR1 := Lib.hid (show listF close step f x0 s0 = RR by rw [← hs0]; exact HR0.out)
   have Hf1 := Lib.hid (show 3 * s0.length + 3 ≤ f by rw [← hs0]; exact Hf.out)
   clear hs0
   go_enter Tryd.func78, Tryd.ntmps78
   go_wp2_with (first
    | ((with_reducible refine at_store (t := 3) rfl ?_); go_must (refine ev_store (cs' := #[.string T, .int .i64 ((a : Int) + 1)]) rfl rfl rfl rfl rfl rfl HI.out.1 HI.out.2 rfl Hb.out (Nat.le_of_ble_eq_true rfl) rfl ?_; intro w1 hb1 hk1); have HR1' := Lib.hid (Hnx.out w1 hb1); have HK1 := Lib.hid hk1; clear hb1 hk1 q1; (try simp only [PU]))
    | (go_at_call 45; go_must (refine (blanks45 HR1'.out).mono ?_; rintro e w2 ⟨⟨y, rfl⟩, hr2, hk2⟩; rw [Hbq1.out] at hr2); have HRb := Lib.hid hr2; have HKb := Lib.hid (HK1.out.trans hk2 (fun _ _ h => h)); clear hr2 hk2; (try simp only [PU]))
    | (go_at_call 101; go_must (refine (is101 HRb.out close _ Hcl.out).mono ?_; rw [Hi1.out]; rintro e w3 ⟨rfl, hr3, hk3⟩); have HRi := Lib.hid hr3; have HKi := Lib.hid (HKb.out.trans hk3 (fun _ _ h => h)); clear hr3 hk3; (try simp only [PU]))
   )
   go_loopg [] f (fun k wr => ∃ (x : σ) (s : Bs), 3 * s.length + 3 ≤ k ∧ size x + s.length ≤ B ∧ Hid (Rd wr r T s) ∧ Hid (Inv x wr) ∧ Hid (Keeps (MR r base) w wr) ∧ Hid (listF close step k x s = RR))
   case atStart => exact ⟨x0, s0, Hf1.out, by have := congrArg List.length Hbq1.out; omega, HRi, Lib.hid (Hinv.out _ _ _ Hx0.out HKi.out), Lib.hid (keepsMR HKi.out), HR1⟩
   case round =>
    obtain ⟨x, s, hk, hsB, Hr, Hin, HK, HE⟩ := hrel
    obtain ⟨f1, hf1⟩ : ∃ f1, gk = f1 + 1 := ⟨gk - 1, by omega⟩
    subst hf1
    have Hrun := Lib.hid (HP.out f1 x s wr (by omega) hsB Hr.out Hin.out HK.out)
    rcases hst : step f1 x s with n | ⟨x', r1⟩
    · have HR2 := Lib.hid (show RR = .error n by rw [← HE.out]; simp only [listF, hst])
      rw [hst] at Hrun
      clear hst
      go_wp2_with (first
       | (go_at_call 103; go_must (refine Hrun.out.mono ?_; rintro e w2 ⟨rfl, hk2⟩); have HKe := Lib.hid (HK.out.trans hk2 (fun _ _ h => h)); clear hk2; unfold stopAt; (try simp only [PU]))
      )
      exact ⟨rfl, by rw [HR2.out]; exact ⟨rfl, HKe.out⟩⟩
    · have HE2 := Lib.hid (show (match moreB close r1 with | .done r2 => .ok (x', r2) | .bad e => .error e | .more r2 => listF close step f1 x' r2) = RR by rw [← HE.out]; simp only [listF, hst])
      have hle := Hlen.out _ _ _ _ _ hst
      have hsx := Hsz.out _ _ _ _ _ hst
      rw [hst] at Hrun
      clear hst
      rcases hbq : blanksB r1 with _ | ⟨d, q'⟩
      · rw [moreB_nil hbq] at HE2
        have HR2 := Lib.hid (show RR = .error 0 from HE2.out.symm)
        have Hbq1 := Lib.hid hbq
        have Hi1 := Lib.hid (show isB close [] = (false, []) from rfl)
        have Hw1 := Lib.hid (show wordB [44] [] = .error 0 from rfl)
        clear hbq
        go_wp2_with (first
         | (go_at_call 103; go_must (refine Hrun.out.mono ?_; rintro e w2 ⟨⟨y2, rfl⟩, hr2, hi2, hk2⟩); have HRp := Lib.hid hr2; have HIp := Lib.hid hi2; have HKp := Lib.hid (HK.out.trans hk2 (fun _ _ h => h)); clear hr2 hi2 hk2; (try simp only [PU]))
         | (go_at_call 45; first | (have hz := HRw.out; go_must (refine (blanks45 hz).mono ?_; rintro e w7 ⟨⟨y7, rfl⟩, hr7, hk7⟩); have HRz := Lib.hid hr7; have HIz := Lib.hid (Hinv.out _ _ _ HIw.out hk7); have HKz := Lib.hid (HKw.out.trans (keepsMR hk7) (fun _ _ h => h)); clear hr7 hk7 hz; (try simp only [PU])) | (go_must (refine (blanks45 HRp.out).mono ?_; rintro e w3 ⟨⟨y3, rfl⟩, hr3, hk3⟩; rw [Hbq1.out] at hr3); have HRb := Lib.hid hr3; have HIb := Lib.hid (Hinv.out _ _ _ HIp.out hk3); have HKb := Lib.hid (HKp.out.trans (keepsMR hk3) (fun _ _ h => h)); clear hr3 hk3; (try simp only [PU])))
         | (go_at_call 101; go_must (refine (is101 HRb.out close _ Hcl.out).mono ?_; rw [Hi1.out]; rintro e w4 ⟨rfl, hr4, hk4⟩); have HRi := Lib.hid hr4; have HIi := Lib.hid (Hinv.out _ _ _ HIb.out hk4); have HKi := Lib.hid (HKb.out.trans (keepsMR hk4) (fun _ _ h => h)); clear hr4 hk4; (try simp only [PU]))
         | (go_at_call 74; go_must (have h74 := word74 HRi.out ⟨#[44]⟩ (by decide) (nz1 44 (by decide)); rw [show bl ⟨#[44]⟩ = [44] from rfl, Hw1.out] at h74; refine h74.mono ?_; rintro e w6 ⟨rfl, hk6⟩); have HKe := Lib.hid (HKi.out.trans (keepsMR hk6) (fun _ _ h => h)); clear hk6; unfold stopAt; (try simp only [PU]))
        )
        exact ⟨rfl, by rw [HR2.out]; exact ⟨rfl, HKe.out⟩⟩
      · rw [moreB_cons hbq] at HE2
        have hl2 := blanksB_le r1
        rw [hbq, List.length_cons] at hl2
        have Hbq1 := Lib.hid hbq
        clear hbq
        by_cases hdc : d = close
        · have HR2 := Lib.hid (show RR = .ok (x', q') by rw [← HE2.out]; simp only [if_pos hdc])
          have Hi1 := Lib.hid (show isB close (d :: q') = (true, q') by rw [hdc]; exact isB_at _ _)
          clear hdc
          go_wp2_with (first
           | (go_at_call 103; go_must (refine Hrun.out.mono ?_; rintro e w2 ⟨⟨y2, rfl⟩, hr2, hi2, hk2⟩); have HRp := Lib.hid hr2; have HIp := Lib.hid hi2; have HKp := Lib.hid (HK.out.trans hk2 (fun _ _ h => h)); clear hr2 hi2 hk2; (try simp only [PU]))
           | (go_at_call 45; first | (have hz := HRw.out; go_must (refine (blanks45 hz).mono ?_; rintro e w7 ⟨⟨y7, rfl⟩, hr7, hk7⟩); have HRz := Lib.hid hr7; have HIz := Lib.hid (Hinv.out _ _ _ HIw.out hk7); have HKz := Lib.hid (HKw.out.trans (keepsMR hk7) (fun _ _ h => h)); clear hr7 hk7 hz; (try simp only [PU])) | (go_must (refine (blanks45 HRp.out).mono ?_; rintro e w3 ⟨⟨y3, rfl⟩, hr3, hk3⟩; rw [Hbq1.out] at hr3); have HRb := Lib.hid hr3; have HIb := Lib.hid (Hinv.out _ _ _ HIp.out hk3); have HKb := Lib.hid (HKp.out.trans (keepsMR hk3) (fun _ _ h => h)); clear hr3 hk3; (try simp only [PU])))
           | (go_at_call 101; go_must (refine (is101 HRb.out close _ Hcl.out).mono ?_; rw [Hi1.out]; rintro e w4 ⟨rfl, hr4, hk4⟩); have HRi := Lib.hid hr4; have HIi := Lib.hid (Hinv.out _ _ _ HIb.out hk4); have HKi := Lib.hid (HKb.out.trans (keepsMR hk4) (fun _ _ h => h)); clear hr4 hk4; (try simp only [PU]))
          )
          go_end0
          rw [HR2.out]
          exact ⟨⟨_, rfl⟩, HRi.out, HIi.out, HKi.out⟩
        · have Hi1 := Lib.hid (isB_ne hdc q')
          by_cases h44 : d = 44
          · have HR2 := Lib.hid (show listF close step f1 x' (blanksB q') = RR by rw [← HE2.out]; simp only [if_neg hdc, if_pos h44])
            have Hw1 := Lib.hid (show wordB [44] (d :: q') = .ok q' by simp [wordB, h44])
            have hl3 := blanksB_le q'
            clear hdc h44
            go_wp2_with (first
             | (go_at_call 103; go_must (refine Hrun.out.mono ?_; rintro e w2 ⟨⟨y2, rfl⟩, hr2, hi2, hk2⟩); have HRp := Lib.hid hr2; have HIp := Lib.hid hi2; have HKp := Lib.hid (HK.out.trans hk2 (fun _ _ h => h)); clear hr2 hi2 hk2; (try simp only [PU]))
             | (go_at_call 45; first | (have hz := HRw.out; go_must (refine (blanks45 hz).mono ?_; rintro e w7 ⟨⟨y7, rfl⟩, hr7, hk7⟩); have HRz := Lib.hid hr7; have HIz := Lib.hid (Hinv.out _ _ _ HIw.out hk7); have HKz := Lib.hid (HKw.out.trans (keepsMR hk7) (fun _ _ h => h)); clear hr7 hk7 hz; (try simp only [PU])) | (go_must (refine (blanks45 HRp.out).mono ?_; rintro e w3 ⟨⟨y3, rfl⟩, hr3, hk3⟩; rw [Hbq1.out] at hr3); have HRb := Lib.hid hr3; have HIb := Lib.hid (Hinv.out _ _ _ HIp.out hk3); have HKb := Lib.hid (HKp.out.trans (keepsMR hk3) (fun _ _ h => h)); clear hr3 hk3; (try simp only [PU])))
             | (go_at_call 101; go_must (refine (is101 HRb.out close _ Hcl.out).mono ?_; rw [Hi1.out]; rintro e w4 ⟨rfl, hr4, hk4⟩); have HRi := Lib.hid hr4; have HIi := Lib.hid (Hinv.out _ _ _ HIb.out hk4); have HKi := Lib.hid (HKb.out.trans (keepsMR hk4) (fun _ _ h => h)); clear hr4 hk4; (try simp only [PU]))
             | (go_at_call 74; go_must (have h74 := word74 HRi.out ⟨#[44]⟩ (by decide) (nz1 44 (by decide)); rw [show bl ⟨#[44]⟩ = [44] from rfl, Hw1.out] at h74; refine h74.mono ?_; rintro e w6 ⟨⟨y6, rfl⟩, hr6, hk6⟩); have HRw := Lib.hid hr6; have HIw := Lib.hid (Hinv.out _ _ _ HIi.out hk6); have HKw := Lib.hid (HKi.out.trans (keepsMR hk6) (fun _ _ h => h)); clear hr6 hk6; (try simp only [PU]))
            )
            go_roundg f1
            case measure => omega
            case rel => exact ⟨x', blanksB q', by omega, by omega, HRz, HIz, HKz, HR2⟩
          · have HR2 := Lib.hid (show RR = .error (q'.length + 1) by rw [← HE2.out]; simp only [if_neg hdc, if_neg h44])
            have Hw1 := Lib.hid (show wordB [44] (d :: q') = .error (q'.length + 1) by simp [wordB, h44])
            clear hdc h44
            go_wp2_with (first
             | (go_at_call 103; go_must (refine Hrun.out.mono ?_; rintro e w2 ⟨⟨y2, rfl⟩, hr2, hi2, hk2⟩); have HRp := Lib.hid hr2; have HIp := Lib.hid hi2; have HKp := Lib.hid (HK.out.trans hk2 (fun _ _ h => h)); clear hr2 hi2 hk2; (try simp only [PU]))
             | (go_at_call 45; first | (have hz := HRw.out; go_must (refine (blanks45 hz).mono ?_; rintro e w7 ⟨⟨y7, rfl⟩, hr7, hk7⟩); have HRz := Lib.hid hr7; have HIz := Lib.hid (Hinv.out _ _ _ HIw.out hk7); have HKz := Lib.hid (HKw.out.trans (keepsMR hk7) (fun _ _ h => h)); clear hr7 hk7 hz; (try simp only [PU])) | (go_must (refine (blanks45 HRp.out).mono ?_; rintro e w3 ⟨⟨y3, rfl⟩, hr3, hk3⟩; rw [Hbq1.out] at hr3); have HRb := Lib.hid hr3; have HIb := Lib.hid (Hinv.out _ _ _ HIp.out hk3); have HKb := Lib.hid (HKp.out.trans (keepsMR hk3) (fun _ _ h => h)); clear hr3 hk3; (try simp only [PU])))
             | (go_at_call 101; go_must (refine (is101 HRb.out close _ Hcl.out).mono ?_; rw [Hi1.out]; rintro e w4 ⟨rfl, hr4, hk4⟩); have HRi := Lib.hid hr4; have HIi := Lib.hid (Hinv.out _ _ _ HIb.out hk4); have HKi := Lib.hid (HKb.out.trans (keepsMR hk4) (fun _ _ h => h)); clear hr4 hk4; (try simp only [PU]))
             | (go_at_call 74; go_must (have h74 := word74 HRi.out ⟨#[44]⟩ (by decide) (nz1 44 (by decide)); rw [show bl ⟨#[44]⟩ = [44] from rfl, Hw1.out] at h74; refine h74.mono ?_; rintro e w6 ⟨rfl, hk6⟩); have HKe := Lib.hid (HKi.out.trans (keepsMR hk6) (fun _ _ h => h)); clear hk6; unfold stopAt; (try simp only [PU]))
            )
            exact ⟨rfl, by rw [HR2.out]; exact ⟨rfl, HKe.out⟩⟩
 · rw [hbq] at Hf
   have Hbq := Lib.hid hbq
   clear hbq
   by_cases hdc : d = close
   · have HR2 := Lib.hid (show RR = .ok (x0, q') by rw [← HRR.out]; exact openL_at (by rw [← hdc]; exact Hbq.out))
     have Hi1 := Lib.hid (show isB close (d :: q') = (true, q') by rw [hdc]; exact isB_at _ _)
     have Hbq1 := Hbq
     clear hdc HRR
     go_enter Tryd.func78, Tryd.ntmps78
     go_wp2_with (first
      | ((with_reducible refine at_store (t := 3) rfl ?_); go_must (refine ev_store (cs' := #[.string T, .int .i64 ((a : Int) + 1)]) rfl rfl rfl rfl rfl rfl HI.out.1 HI.out.2 rfl Hb.out (Nat.le_of_ble_eq_true rfl) rfl ?_; intro w1 hb1 hk1); have HR1' := Lib.hid (Hnx.out w1 hb1); have HK1 := Lib.hid hk1; clear hb1 hk1 q1; (try simp only [PU]))
      | (go_at_call 45; go_must (refine (blanks45 HR1'.out).mono ?_; rintro e w2 ⟨⟨y, rfl⟩, hr2, hk2⟩; rw [Hbq1.out] at hr2); have HRb := Lib.hid hr2; have HKb := Lib.hid (HK1.out.trans hk2 (fun _ _ h => h)); clear hr2 hk2; (try simp only [PU]))
      | (go_at_call 101; go_must (refine (is101 HRb.out close _ Hcl.out).mono ?_; rw [Hi1.out]; rintro e w3 ⟨rfl, hr3, hk3⟩); have HRi := Lib.hid hr3; have HKi := Lib.hid (HKb.out.trans hk3 (fun _ _ h => h)); clear hr3 hk3; (try simp only [PU]))
     )
     go_end0
     rw [HR2.out]
     exact ⟨⟨_, rfl⟩, HRi.out, Hinv.out _ _ _ Hx0.out HKi.out, keepsMR HKi.out⟩
   · have HR1 := Lib.hid (show listF close step f x0 (d :: q') = RR by rw [← HRR.out]; exact (openL_ne Hbq.out hdc).symm)
     have Hi1 := Lib.hid (isB_ne hdc q')
     obtain ⟨s0, hs0⟩ : ∃ x : Bs, d :: q' = x := ⟨_, rfl⟩
     have Hbq1 := Lib.hid (Hbq.out.trans hs0)
     rw [hs0] at HR1 Hi1 Hf
     have Hf1 := Hf
     clear hdc HRR hs0 Hbq
     go_enter Tryd.func78, Tryd.ntmps78
     go_wp2_with (first
      | ((with_reducible refine at_store (t := 3) rfl ?_); go_must (refine ev_store (cs' := #[.string T, .int .i64 ((a : Int) + 1)]) rfl rfl rfl rfl rfl rfl HI.out.1 HI.out.2 rfl Hb.out (Nat.le_of_ble_eq_true rfl) rfl ?_; intro w1 hb1 hk1); have HR1' := Lib.hid (Hnx.out w1 hb1); have HK1 := Lib.hid hk1; clear hb1 hk1 q1; (try simp only [PU]))
      | (go_at_call 45; go_must (refine (blanks45 HR1'.out).mono ?_; rintro e w2 ⟨⟨y, rfl⟩, hr2, hk2⟩; rw [Hbq1.out] at hr2); have HRb := Lib.hid hr2; have HKb := Lib.hid (HK1.out.trans hk2 (fun _ _ h => h)); clear hr2 hk2; (try simp only [PU]))
      | (go_at_call 101; go_must (refine (is101 HRb.out close _ Hcl.out).mono ?_; rw [Hi1.out]; rintro e w3 ⟨rfl, hr3, hk3⟩); have HRi := Lib.hid hr3; have HKi := Lib.hid (HKb.out.trans hk3 (fun _ _ h => h)); clear hr3 hk3; (try simp only [PU]))
     )
     go_loopg [] f (fun k wr => ∃ (x : σ) (s : Bs), 3 * s.length + 3 ≤ k ∧ size x + s.length ≤ B ∧ Hid (Rd wr r T s) ∧ Hid (Inv x wr) ∧ Hid (Keeps (MR r base) w wr) ∧ Hid (listF close step k x s = RR))
     case atStart => exact ⟨x0, s0, Hf1.out, by have := congrArg List.length Hbq1.out; omega, HRi, Lib.hid (Hinv.out _ _ _ Hx0.out HKi.out), Lib.hid (keepsMR HKi.out), HR1⟩
     case round =>
      obtain ⟨x, s, hk, hsB, Hr, Hin, HK, HE⟩ := hrel
      obtain ⟨f1, hf1⟩ : ∃ f1, gk = f1 + 1 := ⟨gk - 1, by omega⟩
      subst hf1
      have Hrun := Lib.hid (HP.out f1 x s wr (by omega) hsB Hr.out Hin.out HK.out)
      rcases hst : step f1 x s with n | ⟨x', r1⟩
      · have HR2 := Lib.hid (show RR = .error n by rw [← HE.out]; simp only [listF, hst])
        rw [hst] at Hrun
        clear hst
        go_wp2_with (first
         | (go_at_call 103; go_must (refine Hrun.out.mono ?_; rintro e w2 ⟨rfl, hk2⟩); have HKe := Lib.hid (HK.out.trans hk2 (fun _ _ h => h)); clear hk2; unfold stopAt; (try simp only [PU]))
        )
        exact ⟨rfl, by rw [HR2.out]; exact ⟨rfl, HKe.out⟩⟩
      · have HE2 := Lib.hid (show (match moreB close r1 with | .done r2 => .ok (x', r2) | .bad e => .error e | .more r2 => listF close step f1 x' r2) = RR by rw [← HE.out]; simp only [listF, hst])
        have hle := Hlen.out _ _ _ _ _ hst
        have hsx := Hsz.out _ _ _ _ _ hst
        rw [hst] at Hrun
        clear hst
        rcases hbq : blanksB r1 with _ | ⟨d, q'⟩
        · rw [moreB_nil hbq] at HE2
          have HR2 := Lib.hid (show RR = .error 0 from HE2.out.symm)
          have Hbq1 := Lib.hid hbq
          have Hi1 := Lib.hid (show isB close [] = (false, []) from rfl)
          have Hw1 := Lib.hid (show wordB [44] [] = .error 0 from rfl)
          clear hbq
          go_wp2_with (first
           | (go_at_call 103; go_must (refine Hrun.out.mono ?_; rintro e w2 ⟨⟨y2, rfl⟩, hr2, hi2, hk2⟩); have HRp := Lib.hid hr2; have HIp := Lib.hid hi2; have HKp := Lib.hid (HK.out.trans hk2 (fun _ _ h => h)); clear hr2 hi2 hk2; (try simp only [PU]))
           | (go_at_call 45; first | (have hz := HRw.out; go_must (refine (blanks45 hz).mono ?_; rintro e w7 ⟨⟨y7, rfl⟩, hr7, hk7⟩); have HRz := Lib.hid hr7; have HIz := Lib.hid (Hinv.out _ _ _ HIw.out hk7); have HKz := Lib.hid (HKw.out.trans (keepsMR hk7) (fun _ _ h => h)); clear hr7 hk7 hz; (try simp only [PU])) | (go_must (refine (blanks45 HRp.out).mono ?_; rintro e w3 ⟨⟨y3, rfl⟩, hr3, hk3⟩; rw [Hbq1.out] at hr3); have HRb := Lib.hid hr3; have HIb := Lib.hid (Hinv.out _ _ _ HIp.out hk3); have HKb := Lib.hid (HKp.out.trans (keepsMR hk3) (fun _ _ h => h)); clear hr3 hk3; (try simp only [PU])))
           | (go_at_call 101; go_must (refine (is101 HRb.out close _ Hcl.out).mono ?_; rw [Hi1.out]; rintro e w4 ⟨rfl, hr4, hk4⟩); have HRi := Lib.hid hr4; have HIi := Lib.hid (Hinv.out _ _ _ HIb.out hk4); have HKi := Lib.hid (HKb.out.trans (keepsMR hk4) (fun _ _ h => h)); clear hr4 hk4; (try simp only [PU]))
           | (go_at_call 74; go_must (have h74 := word74 HRi.out ⟨#[44]⟩ (by decide) (nz1 44 (by decide)); rw [show bl ⟨#[44]⟩ = [44] from rfl, Hw1.out] at h74; refine h74.mono ?_; rintro e w6 ⟨rfl, hk6⟩); have HKe := Lib.hid (HKi.out.trans (keepsMR hk6) (fun _ _ h => h)); clear hk6; unfold stopAt; (try simp only [PU]))
          )
          exact ⟨rfl, by rw [HR2.out]; exact ⟨rfl, HKe.out⟩⟩
        · rw [moreB_cons hbq] at HE2
          have hl2 := blanksB_le r1
          rw [hbq, List.length_cons] at hl2
          have Hbq1 := Lib.hid hbq
          clear hbq
          by_cases hdc : d = close
          · have HR2 := Lib.hid (show RR = .ok (x', q') by rw [← HE2.out]; simp only [if_pos hdc])
            have Hi1 := Lib.hid (show isB close (d :: q') = (true, q') by rw [hdc]; exact isB_at _ _)
            clear hdc
            go_wp2_with (first
             | (go_at_call 103; go_must (refine Hrun.out.mono ?_; rintro e w2 ⟨⟨y2, rfl⟩, hr2, hi2, hk2⟩); have HRp := Lib.hid hr2; have HIp := Lib.hid hi2; have HKp := Lib.hid (HK.out.trans hk2 (fun _ _ h => h)); clear hr2 hi2 hk2; (try simp only [PU]))
             | (go_at_call 45; first | (have hz := HRw.out; go_must (refine (blanks45 hz).mono ?_; rintro e w7 ⟨⟨y7, rfl⟩, hr7, hk7⟩); have HRz := Lib.hid hr7; have HIz := Lib.hid (Hinv.out _ _ _ HIw.out hk7); have HKz := Lib.hid (HKw.out.trans (keepsMR hk7) (fun _ _ h => h)); clear hr7 hk7 hz; (try simp only [PU])) | (go_must (refine (blanks45 HRp.out).mono ?_; rintro e w3 ⟨⟨y3, rfl⟩, hr3, hk3⟩; rw [Hbq1.out] at hr3); have HRb := Lib.hid hr3; have HIb := Lib.hid (Hinv.out _ _ _ HIp.out hk3); have HKb := Lib.hid (HKp.out.trans (keepsMR hk3) (fun _ _ h => h)); clear hr3 hk3; (try simp only [PU])))
             | (go_at_call 101; go_must (refine (is101 HRb.out close _ Hcl.out).mono ?_; rw [Hi1.out]; rintro e w4 ⟨rfl, hr4, hk4⟩); have HRi := Lib.hid hr4; have HIi := Lib.hid (Hinv.out _ _ _ HIb.out hk4); have HKi := Lib.hid (HKb.out.trans (keepsMR hk4) (fun _ _ h => h)); clear hr4 hk4; (try simp only [PU]))
            )
            go_end0
            rw [HR2.out]
            exact ⟨⟨_, rfl⟩, HRi.out, HIi.out, HKi.out⟩
          · have Hi1 := Lib.hid (isB_ne hdc q')
            by_cases h44 : d = 44
            · have HR2 := Lib.hid (show listF close step f1 x' (blanksB q') = RR by rw [← HE2.out]; simp only [if_neg hdc, if_pos h44])
              have Hw1 := Lib.hid (show wordB [44] (d :: q') = .ok q' by simp [wordB, h44])
              have hl3 := blanksB_le q'
              clear hdc h44
              go_wp2_with (first
               | (go_at_call 103; go_must (refine Hrun.out.mono ?_; rintro e w2 ⟨⟨y2, rfl⟩, hr2, hi2, hk2⟩); have HRp := Lib.hid hr2; have HIp := Lib.hid hi2; have HKp := Lib.hid (HK.out.trans hk2 (fun _ _ h => h)); clear hr2 hi2 hk2; (try simp only [PU]))
               | (go_at_call 45; first | (have hz := HRw.out; go_must (refine (blanks45 hz).mono ?_; rintro e w7 ⟨⟨y7, rfl⟩, hr7, hk7⟩); have HRz := Lib.hid hr7; have HIz := Lib.hid (Hinv.out _ _ _ HIw.out hk7); have HKz := Lib.hid (HKw.out.trans (keepsMR hk7) (fun _ _ h => h)); clear hr7 hk7 hz; (try simp only [PU])) | (go_must (refine (blanks45 HRp.out).mono ?_; rintro e w3 ⟨⟨y3, rfl⟩, hr3, hk3⟩; rw [Hbq1.out] at hr3); have HRb := Lib.hid hr3; have HIb := Lib.hid (Hinv.out _ _ _ HIp.out hk3); have HKb := Lib.hid (HKp.out.trans (keepsMR hk3) (fun _ _ h => h)); clear hr3 hk3; (try simp only [PU])))
               | (go_at_call 101; go_must (refine (is101 HRb.out close _ Hcl.out).mono ?_; rw [Hi1.out]; rintro e w4 ⟨rfl, hr4, hk4⟩); have HRi := Lib.hid hr4; have HIi := Lib.hid (Hinv.out _ _ _ HIb.out hk4); have HKi := Lib.hid (HKb.out.trans (keepsMR hk4) (fun _ _ h => h)); clear hr4 hk4; (try simp only [PU]))
               | (go_at_call 74; go_must (have h74 := word74 HRi.out ⟨#[44]⟩ (by decide) (nz1 44 (by decide)); rw [show bl ⟨#[44]⟩ = [44] from rfl, Hw1.out] at h74; refine h74.mono ?_; rintro e w6 ⟨⟨y6, rfl⟩, hr6, hk6⟩); have HRw := Lib.hid hr6; have HIw := Lib.hid (Hinv.out _ _ _ HIi.out hk6); have HKw := Lib.hid (HKi.out.trans (keepsMR hk6) (fun _ _ h => h)); clear hr6 hk6; (try simp only [PU]))
              )
              go_roundg f1
              case measure => omega
              case rel => exact ⟨x', blanksB q', by omega, by omega, HRz, HIz, HKz, HR2⟩
            · have HR2 := Lib.hid (show RR = .error (q'.length + 1) by rw [← HE2.out]; simp only [if_neg hdc, if_neg h44])
              have Hw1 := Lib.hid (show wordB [44] (d :: q') = .error (q'.length + 1) by simp [wordB, h44])
              clear hdc h44
              go_wp2_with (first
               | (go_at_call 103; go_must (refine Hrun.out.mono ?_; rintro e w2 ⟨⟨y2, rfl⟩, hr2, hi2, hk2⟩); have HRp := Lib.hid hr2; have HIp := Lib.hid hi2; have HKp := Lib.hid (HK.out.trans hk2 (fun _ _ h => h)); clear hr2 hi2 hk2; (try simp only [PU]))
               | (go_at_call 45; first | (have hz := HRw.out; go_must (refine (blanks45 hz).mono ?_; rintro e w7 ⟨⟨y7, rfl⟩, hr7, hk7⟩); have HRz := Lib.hid hr7; have HIz := Lib.hid (Hinv.out _ _ _ HIw.out hk7); have HKz := Lib.hid (HKw.out.trans (keepsMR hk7) (fun _ _ h => h)); clear hr7 hk7 hz; (try simp only [PU])) | (go_must (refine (blanks45 HRp.out).mono ?_; rintro e w3 ⟨⟨y3, rfl⟩, hr3, hk3⟩; rw [Hbq1.out] at hr3); have HRb := Lib.hid hr3; have HIb := Lib.hid (Hinv.out _ _ _ HIp.out hk3); have HKb := Lib.hid (HKp.out.trans (keepsMR hk3) (fun _ _ h => h)); clear hr3 hk3; (try simp only [PU])))
               | (go_at_call 101; go_must (refine (is101 HRb.out close _ Hcl.out).mono ?_; rw [Hi1.out]; rintro e w4 ⟨rfl, hr4, hk4⟩); have HRi := Lib.hid hr4; have HIi := Lib.hid (Hinv.out _ _ _ HIb.out hk4); have HKi := Lib.hid (HKb.out.trans (keepsMR hk4) (fun _ _ h => h)); clear hr4 hk4; (try simp only [PU]))
               | (go_at_call 74; go_must (have h74 := word74 HRi.out ⟨#[44]⟩ (by decide) (nz1 44 (by decide)); rw [show bl ⟨#[44]⟩ = [44] from rfl, Hw1.out] at h74; refine h74.mono ?_; rintro e w6 ⟨rfl, hk6⟩); have HKe := Lib.hid (HKi.out.trans (keepsMR hk6) (fun _ _ h => h)); clear hk6; unfold stopAt; (try simp only [PU]))
              )
              exact ⟨rfl, by rw [HR2.out]; exact ⟨rfl, HKe.out⟩⟩
end Go.Proofs.WV

namespace Go.Proofs.WV
open Go.RowKit Go.Proofs.KL Go.Proofs.WM
set_option linter.unusedVariables false

abbrev vz : Value := .int .i64 0
def sixAt (xs : List Value) (i : Nat) : Value := .agg #[xs.getD (i * 6) vz, xs.getD (i * 6 + 1) vz, xs.getD (i * 6 + 2) vz, xs.getD (i * 6 + 3) vz, xs.getD (i * 6 + 4) vz, xs.getD (i * 6 + 5) vz]
structure RowJ (W : World) (lo : Nat) (E : Nat → Prop) (v : Value) (acc : List J) (X : Nat → Prop) (xs : List Value) : Prop where
 row : W.ownsRow lo 25 6 v acc.length xs
 low : ∀ b, X b → lo ≤ b ∧ ¬ E b ∧ some b ≠ v.ownBlock ∧ b < W.heap.size
 ne : ∀ k, v.ownBlock = some k → ¬ E k
 val : ∀ i, i < acc.length → JX W X (sixAt xs i) (acc.getD i default)
def OwnJ (W : World) (lo : Nat) (E : Nat → Prop) (v : Value) (acc : List J) : Prop := ∃ X xs, RowJ W lo E v acc X xs
theorem OwnJ.nil (W : World) (lo : Nat) (E : Nat → Prop) : OwnJ W lo E (.slice none 0 0) [] :=
 ⟨fun _ => False, [], ⟨⟨rfl, .inl ⟨rfl, rfl⟩⟩, fun _ h => h.elim, (fun _ h => by cases h), fun i h => absurd h (Nat.not_lt_zero _)⟩⟩
theorem row_lt {W : World} {lo : Nat} {v : Value} {n : Nat} {xs : List Value} (h : W.ownsRow lo 25 6 v n xs) : ∀ k, v.ownBlock = some k → lo ≤ k ∧ k < W.heap.size := fun k hk => by
 rcases h.2 with ⟨rfl, _⟩ | ⟨g, cap, cur, rfl, hb, hg, _⟩
 · cases hk
 · simp only [Value.ownBlock, Option.some.injEq] at hk; subst hk; exact ⟨hb, blk_lt hg⟩
theorem row_keep {M : Nat → Prop} {W W' : World} {lo : Nat} {v : Value} {n : Nat} {xs : List Value} (h : W.ownsRow lo 25 6 v n xs) (hk : Keeps M W W') (hn : ∀ k, v.ownBlock = some k → ¬ M k) : W'.ownsRow lo 25 6 v n xs := by
 obtain ⟨hl, h⟩ := h
 refine ⟨hl, ?_⟩
 rcases h with h | ⟨g, cap, cur, rfl, hb, hg, h⟩
 · exact .inl h
 · exact .inr ⟨g, cap, cur, rfl, hb, hk.blk hg (hn g rfl), h⟩
theorem RowJ.keep {M : Nat → Prop} {W W' : World} {lo : Nat} {E : Nat → Prop} {v : Value} {acc : List J} {X : Nat → Prop} {xs : List Value} (h : RowJ W lo E v acc X xs) (hk : Keeps M W W') (hM : ∀ b, b < W.heap.size → M b → b < lo ∨ E b) : RowJ W' lo E v acc X xs :=
 ⟨row_keep h.row hk (fun k hk' hm => by
   have := row_lt h.row k hk'
   rcases hM k this.2 hm with e | e
   · omega
   · exact h.ne k hk' e),
  fun b hb => ⟨(h.low b hb).1, (h.low b hb).2.1, (h.low b hb).2.2.1, Nat.lt_of_lt_of_le (h.low b hb).2.2.2 hk.size⟩, h.ne,
  fun i hi => (h.val i hi).keep hk (fun b hl hb hm => by
    have := h.low b hb
    rcases hM b hl hm with e | e
    · omega
    · exact this.2.1 e) (fun _ _ h => h)⟩
theorem OwnJ.keep {M : Nat → Prop} {W W' : World} {lo : Nat} {E : Nat → Prop} {v : Value} {acc : List J} (h : OwnJ W lo E v acc) (hk : Keeps M W W') (hM : ∀ b, b < W.heap.size → M b → b < lo ∨ E b) : OwnJ W' lo E v acc := by
 obtain ⟨X, xs, h⟩ := h
 exact ⟨X, xs, h.keep hk hM⟩
theorem row_slice {W : World} {lo : Nat} {v : Value} {n : Nat} {xs : List Value} (h : W.ownsRow lo 25 6 v n xs) : ∃ A c, v = .slice A n c ∧ n ≤ c := by
 rcases h.2 with ⟨rfl, rfl⟩ | ⟨g, cap, cur, rfl, _, _, hc, _⟩
 · exact ⟨none, 0, rfl, Nat.le_refl _⟩
 · exact ⟨_, cap, rfl, hc⟩
theorem row_cell {W : World} {lo : Nat} {v : Value} {n : Nat} {xs : List Value} (h : W.ownsRow lo 25 6 v n xs) {k : Nat} (hk : k < n * 6) : ∃ g c, v = .slice (some ⟨g, 0, none⟩) n c ∧ lo ≤ g ∧ W.cell? ⟨g, k, none⟩ = some (xs.getD k vz) := by
 obtain ⟨hl, h⟩ := h
 rcases h with ⟨_, h0⟩ | ⟨g, cap, cur, rfl, hb, hg, hc, hm, hs, ht⟩
 · subst h0; omega
 · refine ⟨g, cap, rfl, hb, ?_⟩
   rw [blk_cell hg k]
   have h1 : (cur.toList.take (n * 6))[k]? = xs[k]? := by rw [ht]
   rw [List.getElem?_take, if_pos hk] at h1
   rw [← Array.getElem?_toList, h1, List.getD_eq_getElem?_getD, List.getElem?_eq_getElem (by omega)]
   rfl
theorem OwnJ.js {W : World} {lo : Nat} {E : Nat → Prop} {v : Value} {acc : List J} (h : OwnJ W lo E v acc) : JsX W (fun b => lo ≤ b) v acc := by
 obtain ⟨X, xs, hr, hX, hne, hv⟩ := h
 obtain ⟨A, c, rfl, hc⟩ := row_slice hr
 refine ⟨A, c, fun i k => xs.getD (i * 6 + k) vz, rfl, hc, fun i hi => ?_, fun i hi => (hv i hi).keep (Keeps.refl Nob W) (fun _ _ _ => id) (fun b _ hb => (hX b hb).1)⟩
 have cell : ∀ k, k < 6 → ∃ g, A = some ⟨g, 0, none⟩ ∧ lo ≤ g ∧ W.cell? ⟨g, i * 6 + k, none⟩ = some (xs.getD (i * 6 + k) vz) := fun k hk => by
  obtain ⟨g, c', e, hb, hcell⟩ := row_cell hr (k := i * 6 + k) (by omega)
  injection e with e1 e2 e3
  exact ⟨g, e1, hb, hcell⟩
 obtain ⟨g, rfl, hb, h0⟩ := cell 0 (by decide)
 have same : ∀ k, k < 6 → W.cell? ⟨g, i * 6 + k, none⟩ = some (xs.getD (i * 6 + k) vz) := fun k hk => by
  obtain ⟨g', e, _, hcell⟩ := cell k hk
  injection e with e
  injection e with e
  subst e
  exact hcell
 refine ⟨g, 0, rfl, hb, ⟨?_, ?_, ?_⟩, ?_, ?_, ?_⟩
 all_goals rw [Nat.zero_add]
 · exact same 0 (by decide)
 · exact same 1 (by decide)
 · exact same 2 (by decide)
 · exact same 3 (by decide)
 · exact same 4 (by decide)
 · exact same 5 (by decide)
theorem sixAt_append {xs ys : List Value} {i n : Nat} (hx : xs.length = n * 6) (hi : i < n) : sixAt (xs ++ ys) i = sixAt xs i := by
 have g : ∀ k, k < n * 6 → (xs ++ ys).getD k vz = xs.getD k vz := fun k hk => by
  rw [List.getD_eq_getElem?_getD, List.getD_eq_getElem?_getD, List.getElem?_append_left (by omega)]
 unfold sixAt
 rw [g _ (by omega), g _ (by omega), g _ (by omega), g _ (by omega), g _ (by omega), g _ (by omega)]
theorem sixAt_last {xs : List Value} {x0 x1 x2 x3 x4 x5 : Value} {n : Nat} (hx : xs.length = n * 6) : sixAt (xs ++ [x0, x1, x2, x3, x4, x5]) n = .agg #[x0, x1, x2, x3, x4, x5] := by
 have g : ∀ k, k < 6 → (xs ++ [x0, x1, x2, x3, x4, x5]).getD (n * 6 + k) vz = [x0, x1, x2, x3, x4, x5].getD k vz := fun k hk => by
  rw [List.getD_eq_getElem?_getD, List.getD_eq_getElem?_getD, List.getElem?_append_right (by omega), hx, Nat.add_sub_cancel_left]
 unfold sixAt
 rw [show (xs ++ [x0, x1, x2, x3, x4, x5]).getD (n * 6) vz = [x0, x1, x2, x3, x4, x5].getD 0 vz from g 0 (by decide), g 1 (by decide), g 2 (by decide), g 3 (by decide), g 4 (by decide), g 5 (by decide)]
 rfl
theorem RowJ.push {W w1 W2 : World} {lo : Nat} {E : Nat → Prop} {v v' : Value} {acc : List J} {X X' : Nat → Prop} {xs zs : List Value} {x0 x1 x2 x3 x4 x5 : Value} {j : J} (h : RowJ W lo E v acc X xs) (hj : JX W X' (.agg #[x0, x1, x2, x3, x4, x5]) j)
  (hX' : ∀ b, X' b → lo ≤ b ∧ ¬ E b ∧ some b ≠ v.ownBlock ∧ b < W.heap.size) (hE : ∀ b, E b → b < W.heap.size) (hz : zs.length = 6) (hown : w1.ownsRow lo 25 6 v' (acc.length + 1) (xs ++ zs)) (hk1 : Keeps (fun k => some k = v.ownBlock ∨ E k) W w1)
  (hrow : v'.ownBlock = v.ownBlock ∨ ∃ b, v'.ownBlock = some b ∧ W.heap.size ≤ b) {g cap : Nat} {cur : Array Value} (hv' : v' = .slice (some ⟨g, 0, none⟩) (acc.length + 1) cap) (hcur : w1.heap[g]? = some (.cells cur 25 (0, 0)))
  (h2 : W2.heap[g]? = some (.cells (cur.toList.take (acc.length * 6) ++ [x0, x1, x2, x3, x4, x5] ++ cur.toList.drop (acc.length * 6 + 6)).toArray 25 (0, 0))) (hk2 : Keeps (· = g) w1 W2) : OwnJ W2 lo E v' (acc ++ [j]) := by
 obtain ⟨hr, hX, hne, hv⟩ := h
 have hlx : xs.length = acc.length * 6 := hr.1
 subst hv'
 have hog : (Value.slice (some ⟨g, 0, none⟩) (acc.length + 1) cap).ownBlock = some g := rfl
 have hgn : ¬ E g := by
  rcases hrow with e | ⟨b, e, hb⟩
  · exact hne g (by rw [← e, hog])
  · rw [hog] at e; injection e with e; intro e2; have := hE g e2; omega

 have hXg : ∀ b, (X b ∨ X' b) → b < W.heap.size ∧ lo ≤ b ∧ ¬ E b ∧ b ≠ g := fun b hb => by
  have h1 : lo ≤ b ∧ ¬ E b ∧ some b ≠ v.ownBlock ∧ b < W.heap.size := hb.elim (hX b) (hX' b)
  refine ⟨h1.2.2.2, h1.1, h1.2.1, fun e => ?_⟩
  rcases hrow with e' | ⟨b', e', hb'⟩
  · rw [hog] at e'; exact h1.2.2.1 (by rw [e, e'])
  · rw [hog] at e'; injection e' with e'; omega
 have keep : ∀ {u : Value} {i : J}, JX W (fun b => X b ∨ X' b) u i → JX W2 (fun b => X b ∨ X' b) u i := fun hu =>
  (hu.keep (X' := fun b => X b ∨ X' b) hk1 (fun b _ hb hm => hm.elim (fun hm => hb.elim (fun hb => (hX b hb).2.2.1 hm) (fun hb => (hX' b hb).2.2.1 hm)) (fun hm => hb.elim (fun hb => (hX b hb).2.1 hm) (fun hb => (hX' b hb).2.1 hm))) (fun _ _ h => h)).keep hk2 (fun b _ hb hm => (hXg b hb).2.2.2 hm) (fun _ _ h => h)
 have hsz1 := hk1.size
 have hsz2 := hk2.size
 refine ⟨fun b => X b ∨ X' b, xs ++ [x0, x1, x2, x3, x4, x5], ⟨?_, ?_⟩, fun b hb => ⟨(hXg b hb).2.1, (hXg b hb).2.2.1, fun e => (hXg b hb).2.2.2 (by rw [hog] at e; exact Option.some.inj e), by have := hXg b hb; omega⟩, (fun k e => by rw [hog] at e; injection e with e; rw [← e]; exact hgn), fun i hi => ?_⟩
 · rw [List.length_append, List.length_append, hlx]; simp only [List.length_cons, List.length_nil]; omega
 · rcases hown.2 with ⟨e, _⟩ | ⟨g', cap', cur', e, hb, hg', hc, hm, hs, ht⟩
   · cases e
   · injection e with e1 e2 e3
     injection e1 with e1
     injection e1 with e1
     subst e1; subst e3
     rw [hcur] at hg'
     injection hg' with hg'
     injection hg' with hcc
     subst hcc
     have hcl : cur.toList.length = cap * 6 := by rw [Array.length_toList]; exact hs
     have htx : cur.toList.take (acc.length * 6) = xs := by
      have := congrArg (List.take (acc.length * 6)) ht
      have h3 : (xs ++ zs).take (acc.length * 6) = xs := by rw [← hlx]; exact List.take_left
      rw [List.take_take, Nat.min_eq_left (by omega), h3] at this
      exact this
     refine .inr ⟨g, cap, _, by rw [List.length_append]; rfl, hb, h2, by rw [List.length_append]; simpa using hc, hm, ?_, ?_⟩
     · simp only [List.size_toArray, List.length_append, List.length_take, List.length_drop, List.length_cons, List.length_nil, hcl]
       omega
     · show List.take _ (cur.toList.take (acc.length * 6) ++ [x0, x1, x2, x3, x4, x5] ++ cur.toList.drop (acc.length * 6 + 6)) = _
       rw [htx, List.length_append]
       rw [List.take_append_of_le_length (by simp only [List.length_append, List.length_cons, List.length_nil]; omega), List.take_of_length_le (by simp only [List.length_append, List.length_cons, List.length_nil]; omega)]
 · rw [List.length_append] at hi
   simp only [List.length_cons, List.length_nil] at hi
   by_cases hl : i < acc.length
   · rw [sixAt_append hlx hl, List.getD_eq_getElem?_getD, List.getElem?_append_left hl, ← List.getD_eq_getElem?_getD]
     exact keep ((hv i hl).keep (Keeps.refl Nob W) (fun _ _ _ => id) (fun _ _ h => .inl h))
   · have e : i = acc.length := by omega
     subst e
     rw [sixAt_last hlx, List.getD_eq_getElem?_getD, List.getElem?_append_right (Nat.le_refl _), Nat.sub_self]
     exact keep (hj.keep (Keeps.refl Nob W) (fun _ _ _ => id) (fun _ _ h => .inr h))
end Go.Proofs.WV

namespace Go.Proofs.WV
open Go.RowKit Go.Proofs.KL Go.Proofs.WM
set_option maxRecDepth 100000
set_option linter.unusedSimpArgs false
set_option linter.unusedVariables false

def ValOut (w : World) (r : Nat) (T : ByteArray) : R J → Ending → World → Prop
 | .ok x, e, w' => (∃ v, e = .returned v ∧ JX w' (fun b => w.heap.size ≤ b) v x.1) ∧ Rd w' r T x.2 ∧ Keeps (· = r) w w'
 | .error n, e, w' => e = stopAt T n ∧ Keeps (· = r) w w'
theorem info25b : (Tryd.prog.info? 25).map (fun i => (i.zero, i.size, i.bytes)) = some (some (.agg #[.int .i64 0, .bool false, .int .i64 0, .string ByteArray.empty, .slice none 0 0, .slice none 0 0]), 6, 88) := by kernel_rfl
theorem info23 : ∃ i, Tryd.prog.info? 23 = some i ∧ i.size = 1 := by
 have h : (Tryd.prog.info? 23).map (·.size) = some 1 := by kernel_rfl
 obtain ⟨i, hi, hs⟩ := Option.map_eq_some_iff.1 h
 exact ⟨i, hi, hs⟩
def ItemsInv (r g2 g3 g6 base : Nat) (deep : Int) (y0 y1 y2 y3 y4 : Value) (acc : List J) (W : World) : Prop :=
 W.heap[g2]? = some (.cells #[.pointer (some ⟨r, 0, none⟩)] 78 (0, 0)) ∧ W.heap[g3]? = some (.cells #[.int .i64 deep] 3 (0, 0)) ∧ ∃ vv, W.heap[g6]? = some (.cells #[y0, y1, y2, y3, y4, vv] 25 (0, 0)) ∧ OwnJ W base (· = g6) vv acc
def addR (acc : List J) : R J → R (List J)
 | .ok x => .ok (acc ++ [x.1], x.2)
 | .error n => .error n
theorem row_ne {W : World} {lo g : Nat} {v : Value} {n : Nat} {xs : List Value} {cs : Array Value} {t : TypeId} (h : W.ownsRow lo 25 6 v n xs) (hg : W.heap[g]? = some (.cells cs t (0, 0))) (ht : t ≠ 25) : some g ≠ v.ownBlock := fun e => by
 rcases h.2 with ⟨rfl, _⟩ | ⟨g', cap, cur, rfl, hb, hg', _⟩
 · cases e
 · simp only [Value.ownBlock, Option.some.injEq] at e
   subst e
   rw [hg] at hg'
   injection hg' with hg'
   injection hg' with _ h2 _
   exact ht h2
theorem blk_type {w : World} {g g' : Nat} {cs cs' : Array Value} {t t' : TypeId} (h : w.heap[g]? = some (.cells cs t (0, 0))) (h' : w.heap[g']? = some (.cells cs' t' (0, 0))) (ht : t ≠ t') : ¬ g = g' := fun e => by
 subst e
 rw [h] at h'
 injection h' with h'
 injection h' with _ h2 _
 exact ht h2
theorem row_notin {v : Value} {g6 gr n cap a b : Nat} (h : v.ownBlock ≠ some g6) (hg : g6 < a) (hab : a ≤ b) (hr : (Value.slice (some ⟨gr, 0, none⟩) n cap).ownBlock = v.ownBlock ∨ ∃ k, (Value.slice (some ⟨gr, 0, none⟩) n cap).ownBlock = some k ∧ b ≤ k) : ¬ g6 = gr := fun e => by
 have ho : (Value.slice (some ⟨gr, 0, none⟩) n cap).ownBlock = some gr := rfl
 rw [ho] at hr
 rcases hr with h1 | ⟨k, h1, hk⟩
 · exact h (by rw [e]; exact h1.symm)
 · injection h1 with h1
   omega
set_option maxHeartbeats 4000000 in
theorem part79e {W : World} {r g2 g3 g6 base : Nat} {deep : Int} {T : ByteArray} {s : Bs} {acc : List J} {y0 y1 y2 y3 y4 : Value} {m : Nat} (hr : Rd W r T s) (hI : ItemsInv r g2 g3 g6 base deep y0 y1 y2 y3 y4 acc W)
  (hd : r < base ∧ ¬ g2 = r ∧ ¬ g3 = r ∧ base ≤ g6 ∧ base ≤ W.heap.size) (hn : acc.length ≤ 1000000) (hin : ∀ W', Rd W' r T s → Calls Tryd.prog 80 #[.pointer (some ⟨r, 0, none⟩), .int .i64 deep] W' (ValOut W' r T (.error m))) :
  Calls Tryd.prog 79 #[.pointer (some ⟨g6, 0, none⟩), .pointer (some ⟨g2, 0, none⟩), .pointer (some ⟨g3, 0, none⟩)] W (PartOut W r T base (ItemsInv r g2 g3 g6 base deep y0 y1 y2 y3 y4) (.error m)) := by
 obtain ⟨h2, h3, vv, h6, X, xs, hrow⟩ := hI
 have Hr := Lib.hid hr
 have Hin := Lib.hid hin
 have HJ := Lib.hid hrow
 obtain ⟨vA, vc, rfl, hvc⟩ := row_slice hrow.row
 have H2 := Lib.hid h2
 have H3 := Lib.hid h3
 have H6 := Lib.hid h6
 have Hd := Lib.hid hd
 have n2 : ¬ g2 = r := by omega
 have n3 : ¬ g3 = r := by omega
 have n6 : ¬ g6 = r := by omega
 have N := Lib.hid (And.intro n2 (And.intro n3 n6))
 obtain ⟨n, hnn⟩ : ∃ x, acc.length = x := ⟨_, rfl⟩
 have Hnn := Lib.hid hnn
 rw [hnn] at hn hvc h6 HJ
 have HK := Lib.hid ((Keeps.refl (· = r) W).drew)
 have Hr0 := Lib.hid (hr.keep (Keeps.refl Nob W).drew id)
 have c2 := (blk_cell h2 0).trans rfl
 have c3 := (blk_cell h3 0).trans rfl
 clear hr hin hrow h2 h3 h6 hd n2 n3 n6 hnn
 show Calls _ _ _ _ (PartOut W r T base (ItemsInv r g2 g3 g6 base deep y0 y1 y2 y3 y4) (.error m))
 go_enter Tryd.func79, Tryd.ntmps79
 go_wp2_with fail
 refine wp_region_tree (.q 0 (.q 2 (.q 3 (.br [1, 4, 6] (fun k => bif Nat.beq k 1 then .q 5 (.br [4, 6] (fun k => bif Nat.beq k 4 then .br [6] (fun k => .br [7] (fun k => .q 8 (.q 10 (.br [9, 11] (fun k => bif Nat.beq k 9 then .br [11] (fun k => .done) else .br [9] (fun k => .done)))))) else .br [4] (fun k => .br [7] (fun k => .q 8 (.q 10 (.br [9, 11] (fun k => bif Nat.beq k 9 then .br [11] (fun k => .done) else .br [9] (fun k => .done)))))))) else bif Nat.beq k 4 then .br [1, 6] (fun k => bif Nat.beq k 1 then .q 5 (.br [6] (fun k => .br [7] (fun k => .q 8 (.q 10 (.br [9, 11] (fun k => bif Nat.beq k 9 then .br [11] (fun k => .done) else .br [9] (fun k => .done))))))) else .br [1] (fun k => .q 5 (.br [7] (fun k => .q 8 (.q 10 (.br [9, 11] (fun k => bif Nat.beq k 9 then .br [11] (fun k => .done) else .br [9] (fun k => .done)))))))) else .br [1, 4] (fun k => bif Nat.beq k 1 then .q 5 (.br [4] (fun k => .br [7] (fun k => .q 8 (.q 10 (.br [9, 11] (fun k => bif Nat.beq k 9 then .br [11] (fun k => .done) else .br [9] (fun k => .done))))))) else .br [1] (fun k => .q 5 (.br [7] (fun k => .q 8 (.q 10 (.br [9, 11] (fun k => bif Nat.beq k 9 then .br [11] (fun k => .done) else .br [9] (fun k => .done))))))))))))) (fun w' => w'.cell? ⟨g2, 0, none⟩ = some (.pointer (some ⟨r, 0, none⟩)) ∧ w'.cell? ⟨g3, 0, none⟩ = some (.int .i64 deep)) rfl (by kernel_rfl) (by kernel_rfl) (fun c a d v w h => by cases d <;> exact h) ⟨c2, c3⟩ ?_
 refine tq (some 3) ?_; (try simp only [PU])
 refine tq (some 5) ?_; (try simp only [PU])
 refine tq (some 6) ?_; (try simp only [PU])
 refine tree_b rfl rfl ?b1_12 ?nb1_12
 case' b1_12 =>
  have c6 := HK.out.cell ((blk_cell H6.out 5).trans rfl) N.out.2.2
  go_wp2_with fail
  clear c6
  refine ⟨⟨HK.out.cell c2 N.out.1, HK.out.cell c3 N.out.2.1⟩, ?_⟩
  refine tq (some 8) ?_; (try simp only [PU])
  refine tree_b rfl rfl ?b1_5 ?nb1_5
  case' b1_5 =>
   go_wp2_with (go_at_call 80; go_must (refine (Hin.out _ Hr0.out).mono ?_; rintro e w1 ⟨rfl, hk1⟩); unfold stopAt)
   exact ⟨rfl, rfl, (HK.out.trans hk1 (fun _ _ h => h)).mono (fun _ _ e => .inl e)⟩
  case' nb1_5 =>
   refine tree_e rfl rfl ?b1_10
   case' b1_10 =>
    go_must (refine ev_slice (cs := #[.int .i64 0, .bool false, .int .i64 0, .string ByteArray.empty, .slice none 0 0, .slice none 0 0]) (t := 25) (n := 1) (c := 1) rfl (by first | (go_simp; done) | (go_simp; rfl)) ?_; intro gz wz hgz hlz hbz hkz)
    (try simp only [PU])
    have Hr0 := Lib.hid (Hr0.out.keep hkz id)
    have HK := Lib.hid (HK.out.then hkz)
    clear hbz hkz
    refine wpList_nil ⟨⟨HK.out.cell c2 N.out.1, HK.out.cell c3 N.out.2.1⟩, ?_⟩
    refine tree_e rfl rfl ?_
    go_wp2_with (go_at_call 80; go_must (refine (Hin.out _ Hr0.out).mono ?_; rintro e w1 ⟨rfl, hk1⟩); unfold stopAt)
    exact ⟨rfl, rfl, (HK.out.trans hk1 (fun _ _ h => h)).mono (fun _ _ e => .inl e)⟩
 case' nb1_12 =>
  refine tree_b rfl rfl ?b1_25 ?nb1_25
  case' b1_25 =>
   go_wp2_with (go_at_call 80; go_must (refine (Hin.out _ Hr0.out).mono ?_; rintro e w1 ⟨rfl, hk1⟩); unfold stopAt)
   exact ⟨rfl, rfl, (HK.out.trans hk1 (fun _ _ h => h)).mono (fun _ _ e => .inl e)⟩
  case' nb1_25 =>
   refine tree_e rfl rfl ?b1_38
   case' b1_38 =>
    go_must (refine ev_slice (cs := #[.int .i64 0, .bool false, .int .i64 0, .string ByteArray.empty, .slice none 0 0, .slice none 0 0]) (t := 25) (n := 1) (c := 1) rfl (by first | (go_simp; done) | (go_simp; rfl)) ?_; intro gz wz hgz hlz hbz hkz)
    (try simp only [PU])
    have Hr0 := Lib.hid (Hr0.out.keep hkz id)
    have HK := Lib.hid (HK.out.then hkz)
    clear hbz hkz
    refine wpList_nil ⟨⟨HK.out.cell c2 N.out.1, HK.out.cell c3 N.out.2.1⟩, ?_⟩
    refine tree_b rfl rfl ?b1_31 ?nb1_31
    case' b1_31 =>
     have c6 := HK.out.cell ((blk_cell H6.out 5).trans rfl) N.out.2.2
     go_wp2_with fail
     clear c6
     refine ⟨⟨HK.out.cell c2 N.out.1, HK.out.cell c3 N.out.2.1⟩, ?_⟩
     refine tq (some 8) ?_; (try simp only [PU])
     refine tree_e rfl rfl ?_
     go_wp2_with (go_at_call 80; go_must (refine (Hin.out _ Hr0.out).mono ?_; rintro e w1 ⟨rfl, hk1⟩); unfold stopAt)
     exact ⟨rfl, rfl, (HK.out.trans hk1 (fun _ _ h => h)).mono (fun _ _ e => .inl e)⟩
    case' nb1_31 =>
     refine tree_e rfl rfl ?b1_37
     case' b1_37 =>
      go_wp2_with (go_at_call 80; go_must (refine (Hin.out _ Hr0.out).mono ?_; rintro e w1 ⟨rfl, hk1⟩); unfold stopAt)
      exact ⟨rfl, rfl, (HK.out.trans hk1 (fun _ _ h => h)).mono (fun _ _ e => .inl e)⟩
set_option maxHeartbeats 4000000 in
theorem part79o {W : World} {r g2 g3 g6 base : Nat} {deep : Int} {T : ByteArray} {s : Bs} {acc : List J} {y0 y1 y2 y3 y4 : Value} {j : J} {s' : Bs} (hr : Rd W r T s) (hI : ItemsInv r g2 g3 g6 base deep y0 y1 y2 y3 y4 acc W)
  (hd : r < base ∧ ¬ g2 = r ∧ ¬ g3 = r ∧ base ≤ g6 ∧ base ≤ W.heap.size) (hn : acc.length ≤ 1000000) (hin : ∀ W', Rd W' r T s → Calls Tryd.prog 80 #[.pointer (some ⟨r, 0, none⟩), .int .i64 deep] W' (ValOut W' r T (.ok (j, s')))) :
  Calls Tryd.prog 79 #[.pointer (some ⟨g6, 0, none⟩), .pointer (some ⟨g2, 0, none⟩), .pointer (some ⟨g3, 0, none⟩)] W (PartOut W r T base (ItemsInv r g2 g3 g6 base deep y0 y1 y2 y3 y4) (.ok (acc ++ [j], s'))) := by
 obtain ⟨h2, h3, vv, h6, X, xs, hrow⟩ := hI
 have Hr := Lib.hid hr
 have Hin := Lib.hid hin
 have HJ := Lib.hid hrow
 obtain ⟨vA, vc, rfl, hvc⟩ := row_slice hrow.row
 have H2 := Lib.hid h2
 have H3 := Lib.hid h3
 have H6 := Lib.hid h6
 have Hd := Lib.hid hd
 have n2 : ¬ g2 = r := by omega
 have n3 : ¬ g3 = r := by omega
 have n6 : ¬ g6 = r := by omega
 have N := Lib.hid (And.intro n2 (And.intro n3 n6))
 obtain ⟨n, hnn⟩ : ∃ x, acc.length = x := ⟨_, rfl⟩
 have Hnn := Lib.hid hnn
 rw [hnn] at hn hvc h6 HJ
 have HK := Lib.hid ((Keeps.refl (· = r) W).drew)
 have Hr0 := Lib.hid (hr.keep (Keeps.refl Nob W).drew id)
 have c2 := (blk_cell h2 0).trans rfl
 have c3 := (blk_cell h3 0).trans rfl
 clear hr hin hrow h2 h3 h6 hd n2 n3 n6 hnn
 obtain ⟨i25, hi25, hs25⟩ := info25
 obtain ⟨i23, hi23, hs23⟩ := info23
 have HI := Lib.hid (And.intro (And.intro hi25 hs25) (And.intro hi23 hs23))
 clear hi25 hs25 hi23 hs23
 show Calls _ _ _ _ (PartOut W r T base (ItemsInv r g2 g3 g6 base deep y0 y1 y2 y3 y4) (.ok (acc ++ [j], s')))
 go_enter Tryd.func79, Tryd.ntmps79
 go_wp2_with fail
 refine wp_region_tree (.q 0 (.q 2 (.q 3 (.br [1, 4, 6] (fun k => bif Nat.beq k 1 then .q 5 (.br [4, 6] (fun k => bif Nat.beq k 4 then .br [6] (fun k => .br [7] (fun k => .q 8 (.q 10 (.br [9, 11] (fun k => bif Nat.beq k 9 then .br [11] (fun k => .done) else .br [9] (fun k => .done)))))) else .br [4] (fun k => .br [7] (fun k => .q 8 (.q 10 (.br [9, 11] (fun k => bif Nat.beq k 9 then .br [11] (fun k => .done) else .br [9] (fun k => .done)))))))) else bif Nat.beq k 4 then .br [1, 6] (fun k => bif Nat.beq k 1 then .q 5 (.br [6] (fun k => .br [7] (fun k => .q 8 (.q 10 (.br [9, 11] (fun k => bif Nat.beq k 9 then .br [11] (fun k => .done) else .br [9] (fun k => .done))))))) else .br [1] (fun k => .q 5 (.br [7] (fun k => .q 8 (.q 10 (.br [9, 11] (fun k => bif Nat.beq k 9 then .br [11] (fun k => .done) else .br [9] (fun k => .done)))))))) else .br [1, 4] (fun k => bif Nat.beq k 1 then .q 5 (.br [4] (fun k => .br [7] (fun k => .q 8 (.q 10 (.br [9, 11] (fun k => bif Nat.beq k 9 then .br [11] (fun k => .done) else .br [9] (fun k => .done))))))) else .br [1] (fun k => .q 5 (.br [7] (fun k => .q 8 (.q 10 (.br [9, 11] (fun k => bif Nat.beq k 9 then .br [11] (fun k => .done) else .br [9] (fun k => .done))))))))))))) (fun w' => w'.cell? ⟨g2, 0, none⟩ = some (.pointer (some ⟨r, 0, none⟩)) ∧ w'.cell? ⟨g3, 0, none⟩ = some (.int .i64 deep)) rfl (by kernel_rfl) (by kernel_rfl) (fun c a d v w h => by cases d <;> exact h) ⟨c2, c3⟩ ?_
 refine tq (some 3) ?_; (try simp only [PU])
 refine tq (some 5) ?_; (try simp only [PU])
 refine tq (some 6) ?_; (try simp only [PU])
 refine tree_b rfl rfl ?b2_12 ?nb2_12
 case' b2_12 =>
  have c6 := HK.out.cell ((blk_cell H6.out 5).trans rfl) N.out.2.2
  rw [Hnn.out] at c6
  go_wp2_with fail
  clear c6
  refine ⟨⟨HK.out.cell c2 N.out.1, HK.out.cell c3 N.out.2.1⟩, ?_⟩
  refine tq (some 8) ?_; (try simp only [PU])
  refine tree_b rfl rfl ?b2_5 ?nb2_5
  case' b2_5 =>
   go_wp2_with (go_at_call 80; go_must (refine (Hin.out _ Hr0.out).mono ?_; rintro e w1 ⟨⟨v1, rfl, hv1⟩, hr1, hk1⟩; obtain ⟨jk, jb, jn, jt, jks, jvs, jkv, jvv, hjj, rfl, hjk, hjv⟩ := hv1.open; obtain ⟨kA, kc, rfl, -, -⟩ := hjk; obtain ⟨jA, jc, ju, rfl, -, -, -⟩ := hjv); have hw0 := HK.out.size; have HV := Lib.hid (hv1.keep (X' := fun b => W.heap.size ≤ b ∧ b < w1.heap.size) (Keeps.refl Nob w1) (fun _ _ _ => id) (fun b hb hx => ⟨Nat.le_trans hw0 hx, hb⟩)); have Hr1 := Lib.hid hr1; have Hk1 := Lib.hid hk1; have HK := Lib.hid (HK.out.trans hk1 (fun _ _ h => h)); clear hv1 hr1 hjj hw0 hk1; generalize jks.length = kl at *; generalize jvs.length = vl at *; (try simp only [PU]))
   (try have Hbz := Lib.hid (Hk1.out.blk Hbz.out (fun e : gz = r => by have h1 : W.heap.size ≤ gz := Hgz.out; have h2 := Hd.out; omega)))
   refine ⟨⟨HK.out.cell c2 N.out.1, HK.out.cell c3 N.out.2.1⟩, ?_⟩
   refine tree_e rfl rfl ?_
   go_must (refine ev_slice (cs := #[.int .i64 0, .bool false, .int .i64 0, .string ByteArray.empty, .slice none 0 0, .slice none 0 0]) (t := 25) (n := 1) (c := 1) rfl (by first | (go_simp; done) | (go_simp; rfl)) ?_; intro gz wz hgz hlz hbz hkz)
   (try simp only [PU])
   have Hgz := Lib.hid (Nat.le_trans HK.out.size hgz)
   have Hbz := Lib.hid hbz
   (try have Hr1 := Lib.hid (Hr1.out.keep hkz id))
   (try have HV := Lib.hid (HV.out.keep (X' := fun b => W.heap.size ≤ b ∧ b < wz.heap.size) hkz (fun _ _ _ => id) (fun b hb h => ⟨h.1, Nat.lt_of_lt_of_le h.2 hkz.size⟩)))
   (try have Hr0 := Lib.hid (Rd.keep (M := Nob) Hr0.out hkz id))
   have HK := Lib.hid (HK.out.then hkz)
   clear hbz hkz hgz
   refine wpList_nil ⟨⟨HK.out.cell c2 N.out.1, HK.out.cell c3 N.out.2.1⟩, ?_⟩
   refine tree_e rfl rfl ?_
   have HJc := Lib.hid (HJ.out.keep HK.out (fun b _ e => .inl (by have := Hd.out; omega)))
   have hrow7 := HJc.out.row
   rw [Hnn.out] at hrow7
   have Hrow7 := Lib.hid hrow7
   clear hrow7
   go_must (refine ev_append rfl rfl Tryd.underlying23 info25b rfl (by decide) (base := base) rfl Hrow7.out rfl (news := [.int .i64 0, .bool false, .int .i64 0, .string ByteArray.empty, .slice none 0 0, .slice none 0 0]) rfl (fun _ => ⟨_, rfl, World.news_of_block Hbz.out⟩) (by simp [Value.oneCell']) (by omega) (by decide) (by have := HK.out.size; have := Hd.out; omega) ?_; intro v6 w6 hown6 hk6 hr6 hf6; obtain ⟨gr, cap, rfl⟩ := hf6 (by decide))
   have Hr6 := Lib.hid hr6
   (try simp only [PU])
   have b2 := HK.out.blk H2.out N.out.1
   have b3 := HK.out.blk H3.out N.out.2.1
   have b6 := HK.out.blk H6.out N.out.2.2
   have H2k := Lib.hid (hk6.blk b2 (row_ne Hrow7.out b2 (by decide)))
   have H3k := Lib.hid (hk6.blk b3 (row_ne Hrow7.out b3 (by decide)))
   have H6k := Lib.hid (hk6.blk b6 (fun e => HJc.out.ne g6 e.symm rfl))
   have Hrk := Lib.hid (Hr1.out.keep hk6 (row_ne Hrow7.out Hr1.out.blk (by decide)))
   obtain ⟨cur, hcur⟩ : ∃ cur, w6.heap[gr]? = some (.cells cur 25 (0, 0)) ∧ n + 1 ≤ cap ∧ cur.size = cap * 6 ∧ base ≤ gr := by
    rcases hown6.2 with ⟨e, _⟩ | ⟨g', cap', cur, e, hb, hg', hc, hm, hs, ht⟩
    · cases e
    · injection e with e1 e2 e3
      injection e1 with e1
      injection e1 with e1
      subst e1; subst e3
      exact ⟨cur, hg', hc, hs, hb⟩
   have Hcf := Lib.hid hcur.2
   have Hcur := Lib.hid hcur.1
   have Hg6r := Lib.hid (row_notin (fun e => HJc.out.ne g6 e rfl) (blk_lt H6.out) HK.out.size hr6)
   have Hrowk := Lib.hid hown6
   have HKo := Lib.hid (hk6.mono (M' := fun k => some k = (Value.slice vA n vc).ownBlock ∨ k = g6) (fun _ _ e => .inl e))
   have HKall := Lib.hid ((keepsMR HK.out).trans hk6 (fun i hi e => .inr (row_lt HJ.out.row i e.symm).1))
   have HWc := Lib.hid HK.out.size
   have hlt1 : (n : Int) < (n : Int) + 1 := by omega
   clear hown6 hk6 hr6 hf6 b2 b3 b6 hcur
   refine wpList_nil ⟨⟨(blk_cell H2k.out 0).trans rfl, (blk_cell H3k.out 0).trans rfl⟩, ?_⟩
   refine tq (some 11) ?_; (try simp only [PU])
   refine tq (some 12) ?_; (try simp only [PU])
   refine tree_b rfl rfl ?b2_1 ?nb2_1
   case' b2_1 =>
    have hfit : n * 6 + 6 ≤ cur.size := by have h1 := Hcf.out.1; have h2 := Hcf.out.2.1; omega
    go_must (refine ev_store (x := .agg #[.int .i64 jk, .bool jb, .int .i64 jn, .string jt, .slice kA kl kc, .slice jA vl jc]) (vs := [.int .i64 jk, .bool jb, .int .i64 jn, .string jt, .slice kA kl kc, .slice jA vl jc]) (off := n * 6) (cs' := List.toArray (cur.toList.take (n * 6) ++ ([Value.int .i64 jk, Value.bool jb, Value.int .i64 jn, Value.string jt, Value.slice kA kl kc, Value.slice jA vl jc] : List Value) ++ cur.toList.drop (n * 6 + 6))) rfl rfl rfl rfl rfl rfl HI.out.1.1 HI.out.1.2 rfl Hcur.out hfit rfl ?_; intro w7 hb7 hk7)
    (try simp only [PU])
    have H2k' := H2k
    have h6l : g6 < W.heap.size := blk_lt H6.out
    have Hown9 := Lib.hid (RowJ.push HJc.out HV.out (fun b hb => ⟨by have := Hd.out; have := hb.1; omega, fun e => by have := hb.1; omega, fun e => by have := (row_lt HJ.out.row b e.symm).2; have := hb.1; omega, hb.2⟩) (fun b e => by have := HWc.out; rw [e]; omega) rfl (by rw [Hnn.out]; exact Hrowk.out) HKo.out Hr6.out (by rw [Hnn.out]) Hcur.out (by rw [Hnn.out]; exact hb7) hk7)
    have H2k := Lib.hid (hk7.blk H2k.out (blk_type H2k.out Hcur.out (by decide)))
    have H3k := Lib.hid (hk7.blk H3k.out (blk_type H3k.out Hcur.out (by decide)))
    have H6k := Lib.hid (hk7.blk H6k.out Hg6r.out)
    have Hrk := Lib.hid (Hrk.out.keep hk7 (blk_type Hrk.out.blk Hcur.out (by decide)))
    have HKall := Lib.hid (HKall.out.trans hk7 (fun i _ e => .inr (by rw [e]; exact Hcf.out.2.2)))
    clear hb7 hk7 hfit h6l H2k'
    refine wpList_nil ⟨⟨(blk_cell H2k.out 0).trans rfl, (blk_cell H3k.out 0).trans rfl⟩, ?_⟩
    refine tree_e rfl rfl ?_
    go_must (refine ev_store (cs' := #[y0, y1, y2, y3, y4, .slice (some ⟨gr, 0, none⟩) (n + 1) cap]) rfl rfl rfl rfl rfl rfl HI.out.2.1 HI.out.2.2 rfl H6k.out (Nat.le_of_ble_eq_true rfl) rfl ?_; intro w8 hb8 hk8)
    (try simp only [PU])
    have Hb8 := Lib.hid hb8
    (try have Hown9 := Lib.hid (Hown9.out.keep hk8 (fun b _ e => .inr e)))
    (try have HKo := Lib.hid (HKo.out.trans hk8 (fun _ _ e => .inr e)))
    (try have Hrowk := Lib.hid (row_keep Hrowk.out hk8 (fun k hk e => Hg6r.out (by rw [← e]; exact (Option.some.inj hk).symm))))
    (try have Hcur := Lib.hid (hk8.blk Hcur.out (fun e => Hg6r.out e.symm)))
    have H2k := Lib.hid (hk8.blk H2k.out (blk_type H2k.out H6k.out (by decide)))
    have H3k := Lib.hid (hk8.blk H3k.out (blk_type H3k.out H6k.out (by decide)))
    have Hrk := Lib.hid (Hrk.out.keep hk8 (fun e => N.out.2.2 e.symm))
    have HKall := Lib.hid (HKall.out.trans hk8 (fun i _ e => .inr (by rw [e]; exact Hd.out.2.2.2.1)))
    have H6k := Hb8
    clear hb8 hk8
    refine wpList_nil ⟨⟨(blk_cell H2k.out 0).trans rfl, (blk_cell H3k.out 0).trans rfl⟩, ?_⟩
    refine tree_nil ?_
   case' nb2_1 =>
    refine tree_e rfl rfl ?b2_2
    case' b2_2 =>
     go_must (refine ev_store (cs' := #[y0, y1, y2, y3, y4, .slice (some ⟨gr, 0, none⟩) (n + 1) cap]) rfl rfl rfl rfl rfl rfl HI.out.2.1 HI.out.2.2 rfl H6k.out (Nat.le_of_ble_eq_true rfl) rfl ?_; intro w8 hb8 hk8)
     (try simp only [PU])
     have Hb8 := Lib.hid hb8
     (try have Hown9 := Lib.hid (Hown9.out.keep hk8 (fun b _ e => .inr e)))
     (try have HKo := Lib.hid (HKo.out.trans hk8 (fun _ _ e => .inr e)))
     (try have Hrowk := Lib.hid (row_keep Hrowk.out hk8 (fun k hk e => Hg6r.out (by rw [← e]; exact (Option.some.inj hk).symm))))
     (try have Hcur := Lib.hid (hk8.blk Hcur.out (fun e => Hg6r.out e.symm)))
     have H2k := Lib.hid (hk8.blk H2k.out (blk_type H2k.out H6k.out (by decide)))
     have H3k := Lib.hid (hk8.blk H3k.out (blk_type H3k.out H6k.out (by decide)))
     have Hrk := Lib.hid (Hrk.out.keep hk8 (fun e => N.out.2.2 e.symm))
     have HKall := Lib.hid (HKall.out.trans hk8 (fun i _ e => .inr (by rw [e]; exact Hd.out.2.2.2.1)))
     have H6k := Hb8
     clear hb8 hk8
     refine wpList_nil ⟨⟨(blk_cell H2k.out 0).trans rfl, (blk_cell H3k.out 0).trans rfl⟩, ?_⟩
     refine tree_e rfl rfl ?_
     have hfit : n * 6 + 6 ≤ cur.size := by have h1 := Hcf.out.1; have h2 := Hcf.out.2.1; omega
     go_must (refine ev_store (x := .agg #[.int .i64 jk, .bool jb, .int .i64 jn, .string jt, .slice kA kl kc, .slice jA vl jc]) (vs := [.int .i64 jk, .bool jb, .int .i64 jn, .string jt, .slice kA kl kc, .slice jA vl jc]) (off := n * 6) (cs' := List.toArray (cur.toList.take (n * 6) ++ ([Value.int .i64 jk, Value.bool jb, Value.int .i64 jn, Value.string jt, Value.slice kA kl kc, Value.slice jA vl jc] : List Value) ++ cur.toList.drop (n * 6 + 6))) rfl rfl rfl rfl rfl rfl HI.out.1.1 HI.out.1.2 rfl Hcur.out hfit rfl ?_; intro w7 hb7 hk7)
     (try simp only [PU])
     have H2k' := H2k
     have h6l : g6 < W.heap.size := blk_lt H6.out
     have Hown9 := Lib.hid (RowJ.push HJc.out HV.out (fun b hb => ⟨by have := Hd.out; have := hb.1; omega, fun e => by have := hb.1; omega, fun e => by have := (row_lt HJ.out.row b e.symm).2; have := hb.1; omega, hb.2⟩) (fun b e => by have := HWc.out; rw [e]; omega) rfl (by rw [Hnn.out]; exact Hrowk.out) HKo.out Hr6.out (by rw [Hnn.out]) Hcur.out (by rw [Hnn.out]; exact hb7) hk7)
     have H2k := Lib.hid (hk7.blk H2k.out (blk_type H2k.out Hcur.out (by decide)))
     have H3k := Lib.hid (hk7.blk H3k.out (blk_type H3k.out Hcur.out (by decide)))
     have H6k := Lib.hid (hk7.blk H6k.out Hg6r.out)
     have Hrk := Lib.hid (Hrk.out.keep hk7 (blk_type Hrk.out.blk Hcur.out (by decide)))
     have HKall := Lib.hid (HKall.out.trans hk7 (fun i _ e => .inr (by rw [e]; exact Hcf.out.2.2)))
     clear hb7 hk7 hfit h6l H2k'
     refine wpList_nil ⟨⟨(blk_cell H2k.out 0).trans rfl, (blk_cell H3k.out 0).trans rfl⟩, ?_⟩
     refine tree_nil ?_
  case' nb2_5 =>
   refine tree_e rfl rfl ?b2_10
   case' b2_10 =>
    go_must (refine ev_slice (cs := #[.int .i64 0, .bool false, .int .i64 0, .string ByteArray.empty, .slice none 0 0, .slice none 0 0]) (t := 25) (n := 1) (c := 1) rfl (by first | (go_simp; done) | (go_simp; rfl)) ?_; intro gz wz hgz hlz hbz hkz)
    (try simp only [PU])
    have Hgz := Lib.hid (Nat.le_trans HK.out.size hgz)
    have Hbz := Lib.hid hbz
    (try have Hr1 := Lib.hid (Hr1.out.keep hkz id))
    (try have HV := Lib.hid (HV.out.keep (X' := fun b => W.heap.size ≤ b ∧ b < wz.heap.size) hkz (fun _ _ _ => id) (fun b hb h => ⟨h.1, Nat.lt_of_lt_of_le h.2 hkz.size⟩)))
    (try have Hr0 := Lib.hid (Rd.keep (M := Nob) Hr0.out hkz id))
    have HK := Lib.hid (HK.out.then hkz)
    clear hbz hkz hgz
    refine wpList_nil ⟨⟨HK.out.cell c2 N.out.1, HK.out.cell c3 N.out.2.1⟩, ?_⟩
    refine tree_e rfl rfl ?_
    go_wp2_with (go_at_call 80; go_must (refine (Hin.out _ Hr0.out).mono ?_; rintro e w1 ⟨⟨v1, rfl, hv1⟩, hr1, hk1⟩; obtain ⟨jk, jb, jn, jt, jks, jvs, jkv, jvv, hjj, rfl, hjk, hjv⟩ := hv1.open; obtain ⟨kA, kc, rfl, -, -⟩ := hjk; obtain ⟨jA, jc, ju, rfl, -, -, -⟩ := hjv); have hw0 := HK.out.size; have HV := Lib.hid (hv1.keep (X' := fun b => W.heap.size ≤ b ∧ b < w1.heap.size) (Keeps.refl Nob w1) (fun _ _ _ => id) (fun b hb hx => ⟨Nat.le_trans hw0 hx, hb⟩)); have Hr1 := Lib.hid hr1; have Hk1 := Lib.hid hk1; have HK := Lib.hid (HK.out.trans hk1 (fun _ _ h => h)); clear hv1 hr1 hjj hw0 hk1; generalize jks.length = kl at *; generalize jvs.length = vl at *; (try simp only [PU]))
    (try have Hbz := Lib.hid (Hk1.out.blk Hbz.out (fun e : gz = r => by have h1 : W.heap.size ≤ gz := Hgz.out; have h2 := Hd.out; omega)))
    refine ⟨⟨HK.out.cell c2 N.out.1, HK.out.cell c3 N.out.2.1⟩, ?_⟩
    refine tree_e rfl rfl ?_
    have HJc := Lib.hid (HJ.out.keep HK.out (fun b _ e => .inl (by have := Hd.out; omega)))
    have hrow7 := HJc.out.row
    rw [Hnn.out] at hrow7
    have Hrow7 := Lib.hid hrow7
    clear hrow7
    go_must (refine ev_append rfl rfl Tryd.underlying23 info25b rfl (by decide) (base := base) rfl Hrow7.out rfl (news := [.int .i64 0, .bool false, .int .i64 0, .string ByteArray.empty, .slice none 0 0, .slice none 0 0]) rfl (fun _ => ⟨_, rfl, World.news_of_block Hbz.out⟩) (by simp [Value.oneCell']) (by omega) (by decide) (by have := HK.out.size; have := Hd.out; omega) ?_; intro v6 w6 hown6 hk6 hr6 hf6; obtain ⟨gr, cap, rfl⟩ := hf6 (by decide))
    have Hr6 := Lib.hid hr6
    (try simp only [PU])
    have b2 := HK.out.blk H2.out N.out.1
    have b3 := HK.out.blk H3.out N.out.2.1
    have b6 := HK.out.blk H6.out N.out.2.2
    have H2k := Lib.hid (hk6.blk b2 (row_ne Hrow7.out b2 (by decide)))
    have H3k := Lib.hid (hk6.blk b3 (row_ne Hrow7.out b3 (by decide)))
    have H6k := Lib.hid (hk6.blk b6 (fun e => HJc.out.ne g6 e.symm rfl))
    have Hrk := Lib.hid (Hr1.out.keep hk6 (row_ne Hrow7.out Hr1.out.blk (by decide)))
    obtain ⟨cur, hcur⟩ : ∃ cur, w6.heap[gr]? = some (.cells cur 25 (0, 0)) ∧ n + 1 ≤ cap ∧ cur.size = cap * 6 ∧ base ≤ gr := by
     rcases hown6.2 with ⟨e, _⟩ | ⟨g', cap', cur, e, hb, hg', hc, hm, hs, ht⟩
     · cases e
     · injection e with e1 e2 e3
       injection e1 with e1
       injection e1 with e1
       subst e1; subst e3
       exact ⟨cur, hg', hc, hs, hb⟩
    have Hcf := Lib.hid hcur.2
    have Hcur := Lib.hid hcur.1
    have Hg6r := Lib.hid (row_notin (fun e => HJc.out.ne g6 e rfl) (blk_lt H6.out) HK.out.size hr6)
    have Hrowk := Lib.hid hown6
    have HKo := Lib.hid (hk6.mono (M' := fun k => some k = (Value.slice vA n vc).ownBlock ∨ k = g6) (fun _ _ e => .inl e))
    have HKall := Lib.hid ((keepsMR HK.out).trans hk6 (fun i hi e => .inr (row_lt HJ.out.row i e.symm).1))
    have HWc := Lib.hid HK.out.size
    have hlt1 : (n : Int) < (n : Int) + 1 := by omega
    clear hown6 hk6 hr6 hf6 b2 b3 b6 hcur
    refine wpList_nil ⟨⟨(blk_cell H2k.out 0).trans rfl, (blk_cell H3k.out 0).trans rfl⟩, ?_⟩
    refine tq (some 11) ?_; (try simp only [PU])
    refine tq (some 12) ?_; (try simp only [PU])
    refine tree_b rfl rfl ?b2_6 ?nb2_6
    case' b2_6 =>
     have hfit : n * 6 + 6 ≤ cur.size := by have h1 := Hcf.out.1; have h2 := Hcf.out.2.1; omega
     go_must (refine ev_store (x := .agg #[.int .i64 jk, .bool jb, .int .i64 jn, .string jt, .slice kA kl kc, .slice jA vl jc]) (vs := [.int .i64 jk, .bool jb, .int .i64 jn, .string jt, .slice kA kl kc, .slice jA vl jc]) (off := n * 6) (cs' := List.toArray (cur.toList.take (n * 6) ++ ([Value.int .i64 jk, Value.bool jb, Value.int .i64 jn, Value.string jt, Value.slice kA kl kc, Value.slice jA vl jc] : List Value) ++ cur.toList.drop (n * 6 + 6))) rfl rfl rfl rfl rfl rfl HI.out.1.1 HI.out.1.2 rfl Hcur.out hfit rfl ?_; intro w7 hb7 hk7)
     (try simp only [PU])
     have H2k' := H2k
     have h6l : g6 < W.heap.size := blk_lt H6.out
     have Hown9 := Lib.hid (RowJ.push HJc.out HV.out (fun b hb => ⟨by have := Hd.out; have := hb.1; omega, fun e => by have := hb.1; omega, fun e => by have := (row_lt HJ.out.row b e.symm).2; have := hb.1; omega, hb.2⟩) (fun b e => by have := HWc.out; rw [e]; omega) rfl (by rw [Hnn.out]; exact Hrowk.out) HKo.out Hr6.out (by rw [Hnn.out]) Hcur.out (by rw [Hnn.out]; exact hb7) hk7)
     have H2k := Lib.hid (hk7.blk H2k.out (blk_type H2k.out Hcur.out (by decide)))
     have H3k := Lib.hid (hk7.blk H3k.out (blk_type H3k.out Hcur.out (by decide)))
     have H6k := Lib.hid (hk7.blk H6k.out Hg6r.out)
     have Hrk := Lib.hid (Hrk.out.keep hk7 (blk_type Hrk.out.blk Hcur.out (by decide)))
     have HKall := Lib.hid (HKall.out.trans hk7 (fun i _ e => .inr (by rw [e]; exact Hcf.out.2.2)))
     clear hb7 hk7 hfit h6l H2k'
     refine wpList_nil ⟨⟨(blk_cell H2k.out 0).trans rfl, (blk_cell H3k.out 0).trans rfl⟩, ?_⟩
     refine tree_e rfl rfl ?_
     go_must (refine ev_store (cs' := #[y0, y1, y2, y3, y4, .slice (some ⟨gr, 0, none⟩) (n + 1) cap]) rfl rfl rfl rfl rfl rfl HI.out.2.1 HI.out.2.2 rfl H6k.out (Nat.le_of_ble_eq_true rfl) rfl ?_; intro w8 hb8 hk8)
     (try simp only [PU])
     have Hb8 := Lib.hid hb8
     (try have Hown9 := Lib.hid (Hown9.out.keep hk8 (fun b _ e => .inr e)))
     (try have HKo := Lib.hid (HKo.out.trans hk8 (fun _ _ e => .inr e)))
     (try have Hrowk := Lib.hid (row_keep Hrowk.out hk8 (fun k hk e => Hg6r.out (by rw [← e]; exact (Option.some.inj hk).symm))))
     (try have Hcur := Lib.hid (hk8.blk Hcur.out (fun e => Hg6r.out e.symm)))
     have H2k := Lib.hid (hk8.blk H2k.out (blk_type H2k.out H6k.out (by decide)))
     have H3k := Lib.hid (hk8.blk H3k.out (blk_type H3k.out H6k.out (by decide)))
     have Hrk := Lib.hid (Hrk.out.keep hk8 (fun e => N.out.2.2 e.symm))
     have HKall := Lib.hid (HKall.out.trans hk8 (fun i _ e => .inr (by rw [e]; exact Hd.out.2.2.2.1)))
     have H6k := Hb8
     clear hb8 hk8
     refine wpList_nil ⟨⟨(blk_cell H2k.out 0).trans rfl, (blk_cell H3k.out 0).trans rfl⟩, ?_⟩
     refine tree_nil ?_
    case' nb2_6 =>
     refine tree_e rfl rfl ?b2_7
     case' b2_7 =>
      go_must (refine ev_store (cs' := #[y0, y1, y2, y3, y4, .slice (some ⟨gr, 0, none⟩) (n + 1) cap]) rfl rfl rfl rfl rfl rfl HI.out.2.1 HI.out.2.2 rfl H6k.out (Nat.le_of_ble_eq_true rfl) rfl ?_; intro w8 hb8 hk8)
      (try simp only [PU])
      have Hb8 := Lib.hid hb8
      (try have Hown9 := Lib.hid (Hown9.out.keep hk8 (fun b _ e => .inr e)))
      (try have HKo := Lib.hid (HKo.out.trans hk8 (fun _ _ e => .inr e)))
      (try have Hrowk := Lib.hid (row_keep Hrowk.out hk8 (fun k hk e => Hg6r.out (by rw [← e]; exact (Option.some.inj hk).symm))))
      (try have Hcur := Lib.hid (hk8.blk Hcur.out (fun e => Hg6r.out e.symm)))
      have H2k := Lib.hid (hk8.blk H2k.out (blk_type H2k.out H6k.out (by decide)))
      have H3k := Lib.hid (hk8.blk H3k.out (blk_type H3k.out H6k.out (by decide)))
      have Hrk := Lib.hid (Hrk.out.keep hk8 (fun e => N.out.2.2 e.symm))
      have HKall := Lib.hid (HKall.out.trans hk8 (fun i _ e => .inr (by rw [e]; exact Hd.out.2.2.2.1)))
      have H6k := Hb8
      clear hb8 hk8
      refine wpList_nil ⟨⟨(blk_cell H2k.out 0).trans rfl, (blk_cell H3k.out 0).trans rfl⟩, ?_⟩
      refine tree_e rfl rfl ?_
      have hfit : n * 6 + 6 ≤ cur.size := by have h1 := Hcf.out.1; have h2 := Hcf.out.2.1; omega
      go_must (refine ev_store (x := .agg #[.int .i64 jk, .bool jb, .int .i64 jn, .string jt, .slice kA kl kc, .slice jA vl jc]) (vs := [.int .i64 jk, .bool jb, .int .i64 jn, .string jt, .slice kA kl kc, .slice jA vl jc]) (off := n * 6) (cs' := List.toArray (cur.toList.take (n * 6) ++ ([Value.int .i64 jk, Value.bool jb, Value.int .i64 jn, Value.string jt, Value.slice kA kl kc, Value.slice jA vl jc] : List Value) ++ cur.toList.drop (n * 6 + 6))) rfl rfl rfl rfl rfl rfl HI.out.1.1 HI.out.1.2 rfl Hcur.out hfit rfl ?_; intro w7 hb7 hk7)
      (try simp only [PU])
      have H2k' := H2k
      have h6l : g6 < W.heap.size := blk_lt H6.out
      have Hown9 := Lib.hid (RowJ.push HJc.out HV.out (fun b hb => ⟨by have := Hd.out; have := hb.1; omega, fun e => by have := hb.1; omega, fun e => by have := (row_lt HJ.out.row b e.symm).2; have := hb.1; omega, hb.2⟩) (fun b e => by have := HWc.out; rw [e]; omega) rfl (by rw [Hnn.out]; exact Hrowk.out) HKo.out Hr6.out (by rw [Hnn.out]) Hcur.out (by rw [Hnn.out]; exact hb7) hk7)
      have H2k := Lib.hid (hk7.blk H2k.out (blk_type H2k.out Hcur.out (by decide)))
      have H3k := Lib.hid (hk7.blk H3k.out (blk_type H3k.out Hcur.out (by decide)))
      have H6k := Lib.hid (hk7.blk H6k.out Hg6r.out)
      have Hrk := Lib.hid (Hrk.out.keep hk7 (blk_type Hrk.out.blk Hcur.out (by decide)))
      have HKall := Lib.hid (HKall.out.trans hk7 (fun i _ e => .inr (by rw [e]; exact Hcf.out.2.2)))
      clear hb7 hk7 hfit h6l H2k'
      refine wpList_nil ⟨⟨(blk_cell H2k.out 0).trans rfl, (blk_cell H3k.out 0).trans rfl⟩, ?_⟩
      refine tree_nil ?_
 case' nb2_12 =>
  refine tree_b rfl rfl ?b2_25 ?nb2_25
  case' b2_25 =>
   go_wp2_with (go_at_call 80; go_must (refine (Hin.out _ Hr0.out).mono ?_; rintro e w1 ⟨⟨v1, rfl, hv1⟩, hr1, hk1⟩; obtain ⟨jk, jb, jn, jt, jks, jvs, jkv, jvv, hjj, rfl, hjk, hjv⟩ := hv1.open; obtain ⟨kA, kc, rfl, -, -⟩ := hjk; obtain ⟨jA, jc, ju, rfl, -, -, -⟩ := hjv); have hw0 := HK.out.size; have HV := Lib.hid (hv1.keep (X' := fun b => W.heap.size ≤ b ∧ b < w1.heap.size) (Keeps.refl Nob w1) (fun _ _ _ => id) (fun b hb hx => ⟨Nat.le_trans hw0 hx, hb⟩)); have Hr1 := Lib.hid hr1; have Hk1 := Lib.hid hk1; have HK := Lib.hid (HK.out.trans hk1 (fun _ _ h => h)); clear hv1 hr1 hjj hw0 hk1; generalize jks.length = kl at *; generalize jvs.length = vl at *; (try simp only [PU]))
   (try have Hbz := Lib.hid (Hk1.out.blk Hbz.out (fun e : gz = r => by have h1 : W.heap.size ≤ gz := Hgz.out; have h2 := Hd.out; omega)))
   refine ⟨⟨HK.out.cell c2 N.out.1, HK.out.cell c3 N.out.2.1⟩, ?_⟩
   refine tree_b rfl rfl ?b2_18 ?nb2_18
   case' b2_18 =>
    have c6 := HK.out.cell ((blk_cell H6.out 5).trans rfl) N.out.2.2
    rw [Hnn.out] at c6
    go_wp2_with fail
    clear c6
    refine ⟨⟨HK.out.cell c2 N.out.1, HK.out.cell c3 N.out.2.1⟩, ?_⟩
    refine tq (some 8) ?_; (try simp only [PU])
    refine tree_e rfl rfl ?_
    go_must (refine ev_slice (cs := #[.int .i64 0, .bool false, .int .i64 0, .string ByteArray.empty, .slice none 0 0, .slice none 0 0]) (t := 25) (n := 1) (c := 1) rfl (by first | (go_simp; done) | (go_simp; rfl)) ?_; intro gz wz hgz hlz hbz hkz)
    (try simp only [PU])
    have Hgz := Lib.hid (Nat.le_trans HK.out.size hgz)
    have Hbz := Lib.hid hbz
    (try have Hr1 := Lib.hid (Hr1.out.keep hkz id))
    (try have HV := Lib.hid (HV.out.keep (X' := fun b => W.heap.size ≤ b ∧ b < wz.heap.size) hkz (fun _ _ _ => id) (fun b hb h => ⟨h.1, Nat.lt_of_lt_of_le h.2 hkz.size⟩)))
    (try have Hr0 := Lib.hid (Rd.keep (M := Nob) Hr0.out hkz id))
    have HK := Lib.hid (HK.out.then hkz)
    clear hbz hkz hgz
    refine wpList_nil ⟨⟨HK.out.cell c2 N.out.1, HK.out.cell c3 N.out.2.1⟩, ?_⟩
    refine tree_e rfl rfl ?_
    have HJc := Lib.hid (HJ.out.keep HK.out (fun b _ e => .inl (by have := Hd.out; omega)))
    have hrow7 := HJc.out.row
    rw [Hnn.out] at hrow7
    have Hrow7 := Lib.hid hrow7
    clear hrow7
    go_must (refine ev_append rfl rfl Tryd.underlying23 info25b rfl (by decide) (base := base) rfl Hrow7.out rfl (news := [.int .i64 0, .bool false, .int .i64 0, .string ByteArray.empty, .slice none 0 0, .slice none 0 0]) rfl (fun _ => ⟨_, rfl, World.news_of_block Hbz.out⟩) (by simp [Value.oneCell']) (by omega) (by decide) (by have := HK.out.size; have := Hd.out; omega) ?_; intro v6 w6 hown6 hk6 hr6 hf6; obtain ⟨gr, cap, rfl⟩ := hf6 (by decide))
    have Hr6 := Lib.hid hr6
    (try simp only [PU])
    have b2 := HK.out.blk H2.out N.out.1
    have b3 := HK.out.blk H3.out N.out.2.1
    have b6 := HK.out.blk H6.out N.out.2.2
    have H2k := Lib.hid (hk6.blk b2 (row_ne Hrow7.out b2 (by decide)))
    have H3k := Lib.hid (hk6.blk b3 (row_ne Hrow7.out b3 (by decide)))
    have H6k := Lib.hid (hk6.blk b6 (fun e => HJc.out.ne g6 e.symm rfl))
    have Hrk := Lib.hid (Hr1.out.keep hk6 (row_ne Hrow7.out Hr1.out.blk (by decide)))
    obtain ⟨cur, hcur⟩ : ∃ cur, w6.heap[gr]? = some (.cells cur 25 (0, 0)) ∧ n + 1 ≤ cap ∧ cur.size = cap * 6 ∧ base ≤ gr := by
     rcases hown6.2 with ⟨e, _⟩ | ⟨g', cap', cur, e, hb, hg', hc, hm, hs, ht⟩
     · cases e
     · injection e with e1 e2 e3
       injection e1 with e1
       injection e1 with e1
       subst e1; subst e3
       exact ⟨cur, hg', hc, hs, hb⟩
    have Hcf := Lib.hid hcur.2
    have Hcur := Lib.hid hcur.1
    have Hg6r := Lib.hid (row_notin (fun e => HJc.out.ne g6 e rfl) (blk_lt H6.out) HK.out.size hr6)
    have Hrowk := Lib.hid hown6
    have HKo := Lib.hid (hk6.mono (M' := fun k => some k = (Value.slice vA n vc).ownBlock ∨ k = g6) (fun _ _ e => .inl e))
    have HKall := Lib.hid ((keepsMR HK.out).trans hk6 (fun i hi e => .inr (row_lt HJ.out.row i e.symm).1))
    have HWc := Lib.hid HK.out.size
    have hlt1 : (n : Int) < (n : Int) + 1 := by omega
    clear hown6 hk6 hr6 hf6 b2 b3 b6 hcur
    refine wpList_nil ⟨⟨(blk_cell H2k.out 0).trans rfl, (blk_cell H3k.out 0).trans rfl⟩, ?_⟩
    refine tq (some 11) ?_; (try simp only [PU])
    refine tq (some 12) ?_; (try simp only [PU])
    refine tree_b rfl rfl ?b2_13 ?nb2_13
    case' b2_13 =>
     have hfit : n * 6 + 6 ≤ cur.size := by have h1 := Hcf.out.1; have h2 := Hcf.out.2.1; omega
     go_must (refine ev_store (x := .agg #[.int .i64 jk, .bool jb, .int .i64 jn, .string jt, .slice kA kl kc, .slice jA vl jc]) (vs := [.int .i64 jk, .bool jb, .int .i64 jn, .string jt, .slice kA kl kc, .slice jA vl jc]) (off := n * 6) (cs' := List.toArray (cur.toList.take (n * 6) ++ ([Value.int .i64 jk, Value.bool jb, Value.int .i64 jn, Value.string jt, Value.slice kA kl kc, Value.slice jA vl jc] : List Value) ++ cur.toList.drop (n * 6 + 6))) rfl rfl rfl rfl rfl rfl HI.out.1.1 HI.out.1.2 rfl Hcur.out hfit rfl ?_; intro w7 hb7 hk7)
     (try simp only [PU])
     have H2k' := H2k
     have h6l : g6 < W.heap.size := blk_lt H6.out
     have Hown9 := Lib.hid (RowJ.push HJc.out HV.out (fun b hb => ⟨by have := Hd.out; have := hb.1; omega, fun e => by have := hb.1; omega, fun e => by have := (row_lt HJ.out.row b e.symm).2; have := hb.1; omega, hb.2⟩) (fun b e => by have := HWc.out; rw [e]; omega) rfl (by rw [Hnn.out]; exact Hrowk.out) HKo.out Hr6.out (by rw [Hnn.out]) Hcur.out (by rw [Hnn.out]; exact hb7) hk7)
     have H2k := Lib.hid (hk7.blk H2k.out (blk_type H2k.out Hcur.out (by decide)))
     have H3k := Lib.hid (hk7.blk H3k.out (blk_type H3k.out Hcur.out (by decide)))
     have H6k := Lib.hid (hk7.blk H6k.out Hg6r.out)
     have Hrk := Lib.hid (Hrk.out.keep hk7 (blk_type Hrk.out.blk Hcur.out (by decide)))
     have HKall := Lib.hid (HKall.out.trans hk7 (fun i _ e => .inr (by rw [e]; exact Hcf.out.2.2)))
     clear hb7 hk7 hfit h6l H2k'
     refine wpList_nil ⟨⟨(blk_cell H2k.out 0).trans rfl, (blk_cell H3k.out 0).trans rfl⟩, ?_⟩
     refine tree_e rfl rfl ?_
     go_must (refine ev_store (cs' := #[y0, y1, y2, y3, y4, .slice (some ⟨gr, 0, none⟩) (n + 1) cap]) rfl rfl rfl rfl rfl rfl HI.out.2.1 HI.out.2.2 rfl H6k.out (Nat.le_of_ble_eq_true rfl) rfl ?_; intro w8 hb8 hk8)
     (try simp only [PU])
     have Hb8 := Lib.hid hb8
     (try have Hown9 := Lib.hid (Hown9.out.keep hk8 (fun b _ e => .inr e)))
     (try have HKo := Lib.hid (HKo.out.trans hk8 (fun _ _ e => .inr e)))
     (try have Hrowk := Lib.hid (row_keep Hrowk.out hk8 (fun k hk e => Hg6r.out (by rw [← e]; exact (Option.some.inj hk).symm))))
     (try have Hcur := Lib.hid (hk8.blk Hcur.out (fun e => Hg6r.out e.symm)))
     have H2k := Lib.hid (hk8.blk H2k.out (blk_type H2k.out H6k.out (by decide)))
     have H3k := Lib.hid (hk8.blk H3k.out (blk_type H3k.out H6k.out (by decide)))
     have Hrk := Lib.hid (Hrk.out.keep hk8 (fun e => N.out.2.2 e.symm))
     have HKall := Lib.hid (HKall.out.trans hk8 (fun i _ e => .inr (by rw [e]; exact Hd.out.2.2.2.1)))
     have H6k := Hb8
     clear hb8 hk8
     refine wpList_nil ⟨⟨(blk_cell H2k.out 0).trans rfl, (blk_cell H3k.out 0).trans rfl⟩, ?_⟩
     refine tree_nil ?_
    case' nb2_13 =>
     refine tree_e rfl rfl ?b2_14
     case' b2_14 =>
      go_must (refine ev_store (cs' := #[y0, y1, y2, y3, y4, .slice (some ⟨gr, 0, none⟩) (n + 1) cap]) rfl rfl rfl rfl rfl rfl HI.out.2.1 HI.out.2.2 rfl H6k.out (Nat.le_of_ble_eq_true rfl) rfl ?_; intro w8 hb8 hk8)
      (try simp only [PU])
      have Hb8 := Lib.hid hb8
      (try have Hown9 := Lib.hid (Hown9.out.keep hk8 (fun b _ e => .inr e)))
      (try have HKo := Lib.hid (HKo.out.trans hk8 (fun _ _ e => .inr e)))
      (try have Hrowk := Lib.hid (row_keep Hrowk.out hk8 (fun k hk e => Hg6r.out (by rw [← e]; exact (Option.some.inj hk).symm))))
      (try have Hcur := Lib.hid (hk8.blk Hcur.out (fun e => Hg6r.out e.symm)))
      have H2k := Lib.hid (hk8.blk H2k.out (blk_type H2k.out H6k.out (by decide)))
      have H3k := Lib.hid (hk8.blk H3k.out (blk_type H3k.out H6k.out (by decide)))
      have Hrk := Lib.hid (Hrk.out.keep hk8 (fun e => N.out.2.2 e.symm))
      have HKall := Lib.hid (HKall.out.trans hk8 (fun i _ e => .inr (by rw [e]; exact Hd.out.2.2.2.1)))
      have H6k := Hb8
      clear hb8 hk8
      refine wpList_nil ⟨⟨(blk_cell H2k.out 0).trans rfl, (blk_cell H3k.out 0).trans rfl⟩, ?_⟩
      refine tree_e rfl rfl ?_
      have hfit : n * 6 + 6 ≤ cur.size := by have h1 := Hcf.out.1; have h2 := Hcf.out.2.1; omega
      go_must (refine ev_store (x := .agg #[.int .i64 jk, .bool jb, .int .i64 jn, .string jt, .slice kA kl kc, .slice jA vl jc]) (vs := [.int .i64 jk, .bool jb, .int .i64 jn, .string jt, .slice kA kl kc, .slice jA vl jc]) (off := n * 6) (cs' := List.toArray (cur.toList.take (n * 6) ++ ([Value.int .i64 jk, Value.bool jb, Value.int .i64 jn, Value.string jt, Value.slice kA kl kc, Value.slice jA vl jc] : List Value) ++ cur.toList.drop (n * 6 + 6))) rfl rfl rfl rfl rfl rfl HI.out.1.1 HI.out.1.2 rfl Hcur.out hfit rfl ?_; intro w7 hb7 hk7)
      (try simp only [PU])
      have H2k' := H2k
      have h6l : g6 < W.heap.size := blk_lt H6.out
      have Hown9 := Lib.hid (RowJ.push HJc.out HV.out (fun b hb => ⟨by have := Hd.out; have := hb.1; omega, fun e => by have := hb.1; omega, fun e => by have := (row_lt HJ.out.row b e.symm).2; have := hb.1; omega, hb.2⟩) (fun b e => by have := HWc.out; rw [e]; omega) rfl (by rw [Hnn.out]; exact Hrowk.out) HKo.out Hr6.out (by rw [Hnn.out]) Hcur.out (by rw [Hnn.out]; exact hb7) hk7)
      have H2k := Lib.hid (hk7.blk H2k.out (blk_type H2k.out Hcur.out (by decide)))
      have H3k := Lib.hid (hk7.blk H3k.out (blk_type H3k.out Hcur.out (by decide)))
      have H6k := Lib.hid (hk7.blk H6k.out Hg6r.out)
      have Hrk := Lib.hid (Hrk.out.keep hk7 (blk_type Hrk.out.blk Hcur.out (by decide)))
      have HKall := Lib.hid (HKall.out.trans hk7 (fun i _ e => .inr (by rw [e]; exact Hcf.out.2.2)))
      clear hb7 hk7 hfit h6l H2k'
      refine wpList_nil ⟨⟨(blk_cell H2k.out 0).trans rfl, (blk_cell H3k.out 0).trans rfl⟩, ?_⟩
      refine tree_nil ?_
   case' nb2_18 =>
    refine tree_e rfl rfl ?b2_24
    case' b2_24 =>
     go_must (refine ev_slice (cs := #[.int .i64 0, .bool false, .int .i64 0, .string ByteArray.empty, .slice none 0 0, .slice none 0 0]) (t := 25) (n := 1) (c := 1) rfl (by first | (go_simp; done) | (go_simp; rfl)) ?_; intro gz wz hgz hlz hbz hkz)
     (try simp only [PU])
     have Hgz := Lib.hid (Nat.le_trans HK.out.size hgz)
     have Hbz := Lib.hid hbz
     (try have Hr1 := Lib.hid (Hr1.out.keep hkz id))
     (try have HV := Lib.hid (HV.out.keep (X' := fun b => W.heap.size ≤ b ∧ b < wz.heap.size) hkz (fun _ _ _ => id) (fun b hb h => ⟨h.1, Nat.lt_of_lt_of_le h.2 hkz.size⟩)))
     (try have Hr0 := Lib.hid (Rd.keep (M := Nob) Hr0.out hkz id))
     have HK := Lib.hid (HK.out.then hkz)
     clear hbz hkz hgz
     refine wpList_nil ⟨⟨HK.out.cell c2 N.out.1, HK.out.cell c3 N.out.2.1⟩, ?_⟩
     refine tree_e rfl rfl ?_
     have c6 := HK.out.cell ((blk_cell H6.out 5).trans rfl) N.out.2.2
     rw [Hnn.out] at c6
     go_wp2_with fail
     clear c6
     refine ⟨⟨HK.out.cell c2 N.out.1, HK.out.cell c3 N.out.2.1⟩, ?_⟩
     refine tq (some 8) ?_; (try simp only [PU])
     refine tree_e rfl rfl ?_
     have HJc := Lib.hid (HJ.out.keep HK.out (fun b _ e => .inl (by have := Hd.out; omega)))
     have hrow7 := HJc.out.row
     rw [Hnn.out] at hrow7
     have Hrow7 := Lib.hid hrow7
     clear hrow7
     go_must (refine ev_append rfl rfl Tryd.underlying23 info25b rfl (by decide) (base := base) rfl Hrow7.out rfl (news := [.int .i64 0, .bool false, .int .i64 0, .string ByteArray.empty, .slice none 0 0, .slice none 0 0]) rfl (fun _ => ⟨_, rfl, World.news_of_block Hbz.out⟩) (by simp [Value.oneCell']) (by omega) (by decide) (by have := HK.out.size; have := Hd.out; omega) ?_; intro v6 w6 hown6 hk6 hr6 hf6; obtain ⟨gr, cap, rfl⟩ := hf6 (by decide))
     have Hr6 := Lib.hid hr6
     (try simp only [PU])
     have b2 := HK.out.blk H2.out N.out.1
     have b3 := HK.out.blk H3.out N.out.2.1
     have b6 := HK.out.blk H6.out N.out.2.2
     have H2k := Lib.hid (hk6.blk b2 (row_ne Hrow7.out b2 (by decide)))
     have H3k := Lib.hid (hk6.blk b3 (row_ne Hrow7.out b3 (by decide)))
     have H6k := Lib.hid (hk6.blk b6 (fun e => HJc.out.ne g6 e.symm rfl))
     have Hrk := Lib.hid (Hr1.out.keep hk6 (row_ne Hrow7.out Hr1.out.blk (by decide)))
     obtain ⟨cur, hcur⟩ : ∃ cur, w6.heap[gr]? = some (.cells cur 25 (0, 0)) ∧ n + 1 ≤ cap ∧ cur.size = cap * 6 ∧ base ≤ gr := by
      rcases hown6.2 with ⟨e, _⟩ | ⟨g', cap', cur, e, hb, hg', hc, hm, hs, ht⟩
      · cases e
      · injection e with e1 e2 e3
        injection e1 with e1
        injection e1 with e1
        subst e1; subst e3
        exact ⟨cur, hg', hc, hs, hb⟩
     have Hcf := Lib.hid hcur.2
     have Hcur := Lib.hid hcur.1
     have Hg6r := Lib.hid (row_notin (fun e => HJc.out.ne g6 e rfl) (blk_lt H6.out) HK.out.size hr6)
     have Hrowk := Lib.hid hown6
     have HKo := Lib.hid (hk6.mono (M' := fun k => some k = (Value.slice vA n vc).ownBlock ∨ k = g6) (fun _ _ e => .inl e))
     have HKall := Lib.hid ((keepsMR HK.out).trans hk6 (fun i hi e => .inr (row_lt HJ.out.row i e.symm).1))
     have HWc := Lib.hid HK.out.size
     have hlt1 : (n : Int) < (n : Int) + 1 := by omega
     clear hown6 hk6 hr6 hf6 b2 b3 b6 hcur
     refine wpList_nil ⟨⟨(blk_cell H2k.out 0).trans rfl, (blk_cell H3k.out 0).trans rfl⟩, ?_⟩
     refine tq (some 11) ?_; (try simp only [PU])
     refine tq (some 12) ?_; (try simp only [PU])
     refine tree_b rfl rfl ?b2_19 ?nb2_19
     case' b2_19 =>
      have hfit : n * 6 + 6 ≤ cur.size := by have h1 := Hcf.out.1; have h2 := Hcf.out.2.1; omega
      go_must (refine ev_store (x := .agg #[.int .i64 jk, .bool jb, .int .i64 jn, .string jt, .slice kA kl kc, .slice jA vl jc]) (vs := [.int .i64 jk, .bool jb, .int .i64 jn, .string jt, .slice kA kl kc, .slice jA vl jc]) (off := n * 6) (cs' := List.toArray (cur.toList.take (n * 6) ++ ([Value.int .i64 jk, Value.bool jb, Value.int .i64 jn, Value.string jt, Value.slice kA kl kc, Value.slice jA vl jc] : List Value) ++ cur.toList.drop (n * 6 + 6))) rfl rfl rfl rfl rfl rfl HI.out.1.1 HI.out.1.2 rfl Hcur.out hfit rfl ?_; intro w7 hb7 hk7)
      (try simp only [PU])
      have H2k' := H2k
      have h6l : g6 < W.heap.size := blk_lt H6.out
      have Hown9 := Lib.hid (RowJ.push HJc.out HV.out (fun b hb => ⟨by have := Hd.out; have := hb.1; omega, fun e => by have := hb.1; omega, fun e => by have := (row_lt HJ.out.row b e.symm).2; have := hb.1; omega, hb.2⟩) (fun b e => by have := HWc.out; rw [e]; omega) rfl (by rw [Hnn.out]; exact Hrowk.out) HKo.out Hr6.out (by rw [Hnn.out]) Hcur.out (by rw [Hnn.out]; exact hb7) hk7)
      have H2k := Lib.hid (hk7.blk H2k.out (blk_type H2k.out Hcur.out (by decide)))
      have H3k := Lib.hid (hk7.blk H3k.out (blk_type H3k.out Hcur.out (by decide)))
      have H6k := Lib.hid (hk7.blk H6k.out Hg6r.out)
      have Hrk := Lib.hid (Hrk.out.keep hk7 (blk_type Hrk.out.blk Hcur.out (by decide)))
      have HKall := Lib.hid (HKall.out.trans hk7 (fun i _ e => .inr (by rw [e]; exact Hcf.out.2.2)))
      clear hb7 hk7 hfit h6l H2k'
      refine wpList_nil ⟨⟨(blk_cell H2k.out 0).trans rfl, (blk_cell H3k.out 0).trans rfl⟩, ?_⟩
      refine tree_e rfl rfl ?_
      go_must (refine ev_store (cs' := #[y0, y1, y2, y3, y4, .slice (some ⟨gr, 0, none⟩) (n + 1) cap]) rfl rfl rfl rfl rfl rfl HI.out.2.1 HI.out.2.2 rfl H6k.out (Nat.le_of_ble_eq_true rfl) rfl ?_; intro w8 hb8 hk8)
      (try simp only [PU])
      have Hb8 := Lib.hid hb8
      (try have Hown9 := Lib.hid (Hown9.out.keep hk8 (fun b _ e => .inr e)))
      (try have HKo := Lib.hid (HKo.out.trans hk8 (fun _ _ e => .inr e)))
      (try have Hrowk := Lib.hid (row_keep Hrowk.out hk8 (fun k hk e => Hg6r.out (by rw [← e]; exact (Option.some.inj hk).symm))))
      (try have Hcur := Lib.hid (hk8.blk Hcur.out (fun e => Hg6r.out e.symm)))
      have H2k := Lib.hid (hk8.blk H2k.out (blk_type H2k.out H6k.out (by decide)))
      have H3k := Lib.hid (hk8.blk H3k.out (blk_type H3k.out H6k.out (by decide)))
      have Hrk := Lib.hid (Hrk.out.keep hk8 (fun e => N.out.2.2 e.symm))
      have HKall := Lib.hid (HKall.out.trans hk8 (fun i _ e => .inr (by rw [e]; exact Hd.out.2.2.2.1)))
      have H6k := Hb8
      clear hb8 hk8
      refine wpList_nil ⟨⟨(blk_cell H2k.out 0).trans rfl, (blk_cell H3k.out 0).trans rfl⟩, ?_⟩
      refine tree_nil ?_
     case' nb2_19 =>
      refine tree_e rfl rfl ?b2_20
      case' b2_20 =>
       go_must (refine ev_store (cs' := #[y0, y1, y2, y3, y4, .slice (some ⟨gr, 0, none⟩) (n + 1) cap]) rfl rfl rfl rfl rfl rfl HI.out.2.1 HI.out.2.2 rfl H6k.out (Nat.le_of_ble_eq_true rfl) rfl ?_; intro w8 hb8 hk8)
       (try simp only [PU])
       have Hb8 := Lib.hid hb8
       (try have Hown9 := Lib.hid (Hown9.out.keep hk8 (fun b _ e => .inr e)))
       (try have HKo := Lib.hid (HKo.out.trans hk8 (fun _ _ e => .inr e)))
       (try have Hrowk := Lib.hid (row_keep Hrowk.out hk8 (fun k hk e => Hg6r.out (by rw [← e]; exact (Option.some.inj hk).symm))))
       (try have Hcur := Lib.hid (hk8.blk Hcur.out (fun e => Hg6r.out e.symm)))
       have H2k := Lib.hid (hk8.blk H2k.out (blk_type H2k.out H6k.out (by decide)))
       have H3k := Lib.hid (hk8.blk H3k.out (blk_type H3k.out H6k.out (by decide)))
       have Hrk := Lib.hid (Hrk.out.keep hk8 (fun e => N.out.2.2 e.symm))
       have HKall := Lib.hid (HKall.out.trans hk8 (fun i _ e => .inr (by rw [e]; exact Hd.out.2.2.2.1)))
       have H6k := Hb8
       clear hb8 hk8
       refine wpList_nil ⟨⟨(blk_cell H2k.out 0).trans rfl, (blk_cell H3k.out 0).trans rfl⟩, ?_⟩
       refine tree_e rfl rfl ?_
       have hfit : n * 6 + 6 ≤ cur.size := by have h1 := Hcf.out.1; have h2 := Hcf.out.2.1; omega
       go_must (refine ev_store (x := .agg #[.int .i64 jk, .bool jb, .int .i64 jn, .string jt, .slice kA kl kc, .slice jA vl jc]) (vs := [.int .i64 jk, .bool jb, .int .i64 jn, .string jt, .slice kA kl kc, .slice jA vl jc]) (off := n * 6) (cs' := List.toArray (cur.toList.take (n * 6) ++ ([Value.int .i64 jk, Value.bool jb, Value.int .i64 jn, Value.string jt, Value.slice kA kl kc, Value.slice jA vl jc] : List Value) ++ cur.toList.drop (n * 6 + 6))) rfl rfl rfl rfl rfl rfl HI.out.1.1 HI.out.1.2 rfl Hcur.out hfit rfl ?_; intro w7 hb7 hk7)
       (try simp only [PU])
       have H2k' := H2k
       have h6l : g6 < W.heap.size := blk_lt H6.out
       have Hown9 := Lib.hid (RowJ.push HJc.out HV.out (fun b hb => ⟨by have := Hd.out; have := hb.1; omega, fun e => by have := hb.1; omega, fun e => by have := (row_lt HJ.out.row b e.symm).2; have := hb.1; omega, hb.2⟩) (fun b e => by have := HWc.out; rw [e]; omega) rfl (by rw [Hnn.out]; exact Hrowk.out) HKo.out Hr6.out (by rw [Hnn.out]) Hcur.out (by rw [Hnn.out]; exact hb7) hk7)
       have H2k := Lib.hid (hk7.blk H2k.out (blk_type H2k.out Hcur.out (by decide)))
       have H3k := Lib.hid (hk7.blk H3k.out (blk_type H3k.out Hcur.out (by decide)))
       have H6k := Lib.hid (hk7.blk H6k.out Hg6r.out)
       have Hrk := Lib.hid (Hrk.out.keep hk7 (blk_type Hrk.out.blk Hcur.out (by decide)))
       have HKall := Lib.hid (HKall.out.trans hk7 (fun i _ e => .inr (by rw [e]; exact Hcf.out.2.2)))
       clear hb7 hk7 hfit h6l H2k'
       refine wpList_nil ⟨⟨(blk_cell H2k.out 0).trans rfl, (blk_cell H3k.out 0).trans rfl⟩, ?_⟩
       refine tree_nil ?_
  case' nb2_25 =>
   refine tree_e rfl rfl ?b2_38
   case' b2_38 =>
    go_must (refine ev_slice (cs := #[.int .i64 0, .bool false, .int .i64 0, .string ByteArray.empty, .slice none 0 0, .slice none 0 0]) (t := 25) (n := 1) (c := 1) rfl (by first | (go_simp; done) | (go_simp; rfl)) ?_; intro gz wz hgz hlz hbz hkz)
    (try simp only [PU])
    have Hgz := Lib.hid (Nat.le_trans HK.out.size hgz)
    have Hbz := Lib.hid hbz
    (try have Hr1 := Lib.hid (Hr1.out.keep hkz id))
    (try have HV := Lib.hid (HV.out.keep (X' := fun b => W.heap.size ≤ b ∧ b < wz.heap.size) hkz (fun _ _ _ => id) (fun b hb h => ⟨h.1, Nat.lt_of_lt_of_le h.2 hkz.size⟩)))
    (try have Hr0 := Lib.hid (Rd.keep (M := Nob) Hr0.out hkz id))
    have HK := Lib.hid (HK.out.then hkz)
    clear hbz hkz hgz
    refine wpList_nil ⟨⟨HK.out.cell c2 N.out.1, HK.out.cell c3 N.out.2.1⟩, ?_⟩
    refine tree_b rfl rfl ?b2_31 ?nb2_31
    case' b2_31 =>
     have c6 := HK.out.cell ((blk_cell H6.out 5).trans rfl) N.out.2.2
     rw [Hnn.out] at c6
     go_wp2_with fail
     clear c6
     refine ⟨⟨HK.out.cell c2 N.out.1, HK.out.cell c3 N.out.2.1⟩, ?_⟩
     refine tq (some 8) ?_; (try simp only [PU])
     refine tree_e rfl rfl ?_
     go_wp2_with (go_at_call 80; go_must (refine (Hin.out _ Hr0.out).mono ?_; rintro e w1 ⟨⟨v1, rfl, hv1⟩, hr1, hk1⟩; obtain ⟨jk, jb, jn, jt, jks, jvs, jkv, jvv, hjj, rfl, hjk, hjv⟩ := hv1.open; obtain ⟨kA, kc, rfl, -, -⟩ := hjk; obtain ⟨jA, jc, ju, rfl, -, -, -⟩ := hjv); have hw0 := HK.out.size; have HV := Lib.hid (hv1.keep (X' := fun b => W.heap.size ≤ b ∧ b < w1.heap.size) (Keeps.refl Nob w1) (fun _ _ _ => id) (fun b hb hx => ⟨Nat.le_trans hw0 hx, hb⟩)); have Hr1 := Lib.hid hr1; have Hk1 := Lib.hid hk1; have HK := Lib.hid (HK.out.trans hk1 (fun _ _ h => h)); clear hv1 hr1 hjj hw0 hk1; generalize jks.length = kl at *; generalize jvs.length = vl at *; (try simp only [PU]))
     (try have Hbz := Lib.hid (Hk1.out.blk Hbz.out (fun e : gz = r => by have h1 : W.heap.size ≤ gz := Hgz.out; have h2 := Hd.out; omega)))
     refine ⟨⟨HK.out.cell c2 N.out.1, HK.out.cell c3 N.out.2.1⟩, ?_⟩
     refine tree_e rfl rfl ?_
     have HJc := Lib.hid (HJ.out.keep HK.out (fun b _ e => .inl (by have := Hd.out; omega)))
     have hrow7 := HJc.out.row
     rw [Hnn.out] at hrow7
     have Hrow7 := Lib.hid hrow7
     clear hrow7
     go_must (refine ev_append rfl rfl Tryd.underlying23 info25b rfl (by decide) (base := base) rfl Hrow7.out rfl (news := [.int .i64 0, .bool false, .int .i64 0, .string ByteArray.empty, .slice none 0 0, .slice none 0 0]) rfl (fun _ => ⟨_, rfl, World.news_of_block Hbz.out⟩) (by simp [Value.oneCell']) (by omega) (by decide) (by have := HK.out.size; have := Hd.out; omega) ?_; intro v6 w6 hown6 hk6 hr6 hf6; obtain ⟨gr, cap, rfl⟩ := hf6 (by decide))
     have Hr6 := Lib.hid hr6
     (try simp only [PU])
     have b2 := HK.out.blk H2.out N.out.1
     have b3 := HK.out.blk H3.out N.out.2.1
     have b6 := HK.out.blk H6.out N.out.2.2
     have H2k := Lib.hid (hk6.blk b2 (row_ne Hrow7.out b2 (by decide)))
     have H3k := Lib.hid (hk6.blk b3 (row_ne Hrow7.out b3 (by decide)))
     have H6k := Lib.hid (hk6.blk b6 (fun e => HJc.out.ne g6 e.symm rfl))
     have Hrk := Lib.hid (Hr1.out.keep hk6 (row_ne Hrow7.out Hr1.out.blk (by decide)))
     obtain ⟨cur, hcur⟩ : ∃ cur, w6.heap[gr]? = some (.cells cur 25 (0, 0)) ∧ n + 1 ≤ cap ∧ cur.size = cap * 6 ∧ base ≤ gr := by
      rcases hown6.2 with ⟨e, _⟩ | ⟨g', cap', cur, e, hb, hg', hc, hm, hs, ht⟩
      · cases e
      · injection e with e1 e2 e3
        injection e1 with e1
        injection e1 with e1
        subst e1; subst e3
        exact ⟨cur, hg', hc, hs, hb⟩
     have Hcf := Lib.hid hcur.2
     have Hcur := Lib.hid hcur.1
     have Hg6r := Lib.hid (row_notin (fun e => HJc.out.ne g6 e rfl) (blk_lt H6.out) HK.out.size hr6)
     have Hrowk := Lib.hid hown6
     have HKo := Lib.hid (hk6.mono (M' := fun k => some k = (Value.slice vA n vc).ownBlock ∨ k = g6) (fun _ _ e => .inl e))
     have HKall := Lib.hid ((keepsMR HK.out).trans hk6 (fun i hi e => .inr (row_lt HJ.out.row i e.symm).1))
     have HWc := Lib.hid HK.out.size
     have hlt1 : (n : Int) < (n : Int) + 1 := by omega
     clear hown6 hk6 hr6 hf6 b2 b3 b6 hcur
     refine wpList_nil ⟨⟨(blk_cell H2k.out 0).trans rfl, (blk_cell H3k.out 0).trans rfl⟩, ?_⟩
     refine tq (some 11) ?_; (try simp only [PU])
     refine tq (some 12) ?_; (try simp only [PU])
     refine tree_b rfl rfl ?b2_26 ?nb2_26
     case' b2_26 =>
      have hfit : n * 6 + 6 ≤ cur.size := by have h1 := Hcf.out.1; have h2 := Hcf.out.2.1; omega
      go_must (refine ev_store (x := .agg #[.int .i64 jk, .bool jb, .int .i64 jn, .string jt, .slice kA kl kc, .slice jA vl jc]) (vs := [.int .i64 jk, .bool jb, .int .i64 jn, .string jt, .slice kA kl kc, .slice jA vl jc]) (off := n * 6) (cs' := List.toArray (cur.toList.take (n * 6) ++ ([Value.int .i64 jk, Value.bool jb, Value.int .i64 jn, Value.string jt, Value.slice kA kl kc, Value.slice jA vl jc] : List Value) ++ cur.toList.drop (n * 6 + 6))) rfl rfl rfl rfl rfl rfl HI.out.1.1 HI.out.1.2 rfl Hcur.out hfit rfl ?_; intro w7 hb7 hk7)
      (try simp only [PU])
      have H2k' := H2k
      have h6l : g6 < W.heap.size := blk_lt H6.out
      have Hown9 := Lib.hid (RowJ.push HJc.out HV.out (fun b hb => ⟨by have := Hd.out; have := hb.1; omega, fun e => by have := hb.1; omega, fun e => by have := (row_lt HJ.out.row b e.symm).2; have := hb.1; omega, hb.2⟩) (fun b e => by have := HWc.out; rw [e]; omega) rfl (by rw [Hnn.out]; exact Hrowk.out) HKo.out Hr6.out (by rw [Hnn.out]) Hcur.out (by rw [Hnn.out]; exact hb7) hk7)
      have H2k := Lib.hid (hk7.blk H2k.out (blk_type H2k.out Hcur.out (by decide)))
      have H3k := Lib.hid (hk7.blk H3k.out (blk_type H3k.out Hcur.out (by decide)))
      have H6k := Lib.hid (hk7.blk H6k.out Hg6r.out)
      have Hrk := Lib.hid (Hrk.out.keep hk7 (blk_type Hrk.out.blk Hcur.out (by decide)))
      have HKall := Lib.hid (HKall.out.trans hk7 (fun i _ e => .inr (by rw [e]; exact Hcf.out.2.2)))
      clear hb7 hk7 hfit h6l H2k'
      refine wpList_nil ⟨⟨(blk_cell H2k.out 0).trans rfl, (blk_cell H3k.out 0).trans rfl⟩, ?_⟩
      refine tree_e rfl rfl ?_
      go_must (refine ev_store (cs' := #[y0, y1, y2, y3, y4, .slice (some ⟨gr, 0, none⟩) (n + 1) cap]) rfl rfl rfl rfl rfl rfl HI.out.2.1 HI.out.2.2 rfl H6k.out (Nat.le_of_ble_eq_true rfl) rfl ?_; intro w8 hb8 hk8)
      (try simp only [PU])
      have Hb8 := Lib.hid hb8
      (try have Hown9 := Lib.hid (Hown9.out.keep hk8 (fun b _ e => .inr e)))
      (try have HKo := Lib.hid (HKo.out.trans hk8 (fun _ _ e => .inr e)))
      (try have Hrowk := Lib.hid (row_keep Hrowk.out hk8 (fun k hk e => Hg6r.out (by rw [← e]; exact (Option.some.inj hk).symm))))
      (try have Hcur := Lib.hid (hk8.blk Hcur.out (fun e => Hg6r.out e.symm)))
      have H2k := Lib.hid (hk8.blk H2k.out (blk_type H2k.out H6k.out (by decide)))
      have H3k := Lib.hid (hk8.blk H3k.out (blk_type H3k.out H6k.out (by decide)))
      have Hrk := Lib.hid (Hrk.out.keep hk8 (fun e => N.out.2.2 e.symm))
      have HKall := Lib.hid (HKall.out.trans hk8 (fun i _ e => .inr (by rw [e]; exact Hd.out.2.2.2.1)))
      have H6k := Hb8
      clear hb8 hk8
      refine wpList_nil ⟨⟨(blk_cell H2k.out 0).trans rfl, (blk_cell H3k.out 0).trans rfl⟩, ?_⟩
      refine tree_nil ?_
     case' nb2_26 =>
      refine tree_e rfl rfl ?b2_27
      case' b2_27 =>
       go_must (refine ev_store (cs' := #[y0, y1, y2, y3, y4, .slice (some ⟨gr, 0, none⟩) (n + 1) cap]) rfl rfl rfl rfl rfl rfl HI.out.2.1 HI.out.2.2 rfl H6k.out (Nat.le_of_ble_eq_true rfl) rfl ?_; intro w8 hb8 hk8)
       (try simp only [PU])
       have Hb8 := Lib.hid hb8
       (try have Hown9 := Lib.hid (Hown9.out.keep hk8 (fun b _ e => .inr e)))
       (try have HKo := Lib.hid (HKo.out.trans hk8 (fun _ _ e => .inr e)))
       (try have Hrowk := Lib.hid (row_keep Hrowk.out hk8 (fun k hk e => Hg6r.out (by rw [← e]; exact (Option.some.inj hk).symm))))
       (try have Hcur := Lib.hid (hk8.blk Hcur.out (fun e => Hg6r.out e.symm)))
       have H2k := Lib.hid (hk8.blk H2k.out (blk_type H2k.out H6k.out (by decide)))
       have H3k := Lib.hid (hk8.blk H3k.out (blk_type H3k.out H6k.out (by decide)))
       have Hrk := Lib.hid (Hrk.out.keep hk8 (fun e => N.out.2.2 e.symm))
       have HKall := Lib.hid (HKall.out.trans hk8 (fun i _ e => .inr (by rw [e]; exact Hd.out.2.2.2.1)))
       have H6k := Hb8
       clear hb8 hk8
       refine wpList_nil ⟨⟨(blk_cell H2k.out 0).trans rfl, (blk_cell H3k.out 0).trans rfl⟩, ?_⟩
       refine tree_e rfl rfl ?_
       have hfit : n * 6 + 6 ≤ cur.size := by have h1 := Hcf.out.1; have h2 := Hcf.out.2.1; omega
       go_must (refine ev_store (x := .agg #[.int .i64 jk, .bool jb, .int .i64 jn, .string jt, .slice kA kl kc, .slice jA vl jc]) (vs := [.int .i64 jk, .bool jb, .int .i64 jn, .string jt, .slice kA kl kc, .slice jA vl jc]) (off := n * 6) (cs' := List.toArray (cur.toList.take (n * 6) ++ ([Value.int .i64 jk, Value.bool jb, Value.int .i64 jn, Value.string jt, Value.slice kA kl kc, Value.slice jA vl jc] : List Value) ++ cur.toList.drop (n * 6 + 6))) rfl rfl rfl rfl rfl rfl HI.out.1.1 HI.out.1.2 rfl Hcur.out hfit rfl ?_; intro w7 hb7 hk7)
       (try simp only [PU])
       have H2k' := H2k
       have h6l : g6 < W.heap.size := blk_lt H6.out
       have Hown9 := Lib.hid (RowJ.push HJc.out HV.out (fun b hb => ⟨by have := Hd.out; have := hb.1; omega, fun e => by have := hb.1; omega, fun e => by have := (row_lt HJ.out.row b e.symm).2; have := hb.1; omega, hb.2⟩) (fun b e => by have := HWc.out; rw [e]; omega) rfl (by rw [Hnn.out]; exact Hrowk.out) HKo.out Hr6.out (by rw [Hnn.out]) Hcur.out (by rw [Hnn.out]; exact hb7) hk7)
       have H2k := Lib.hid (hk7.blk H2k.out (blk_type H2k.out Hcur.out (by decide)))
       have H3k := Lib.hid (hk7.blk H3k.out (blk_type H3k.out Hcur.out (by decide)))
       have H6k := Lib.hid (hk7.blk H6k.out Hg6r.out)
       have Hrk := Lib.hid (Hrk.out.keep hk7 (blk_type Hrk.out.blk Hcur.out (by decide)))
       have HKall := Lib.hid (HKall.out.trans hk7 (fun i _ e => .inr (by rw [e]; exact Hcf.out.2.2)))
       clear hb7 hk7 hfit h6l H2k'
       refine wpList_nil ⟨⟨(blk_cell H2k.out 0).trans rfl, (blk_cell H3k.out 0).trans rfl⟩, ?_⟩
       refine tree_nil ?_
    case' nb2_31 =>
     refine tree_e rfl rfl ?b2_37
     case' b2_37 =>
      go_wp2_with (go_at_call 80; go_must (refine (Hin.out _ Hr0.out).mono ?_; rintro e w1 ⟨⟨v1, rfl, hv1⟩, hr1, hk1⟩; obtain ⟨jk, jb, jn, jt, jks, jvs, jkv, jvv, hjj, rfl, hjk, hjv⟩ := hv1.open; obtain ⟨kA, kc, rfl, -, -⟩ := hjk; obtain ⟨jA, jc, ju, rfl, -, -, -⟩ := hjv); have hw0 := HK.out.size; have HV := Lib.hid (hv1.keep (X' := fun b => W.heap.size ≤ b ∧ b < w1.heap.size) (Keeps.refl Nob w1) (fun _ _ _ => id) (fun b hb hx => ⟨Nat.le_trans hw0 hx, hb⟩)); have Hr1 := Lib.hid hr1; have Hk1 := Lib.hid hk1; have HK := Lib.hid (HK.out.trans hk1 (fun _ _ h => h)); clear hv1 hr1 hjj hw0 hk1; generalize jks.length = kl at *; generalize jvs.length = vl at *; (try simp only [PU]))
      (try have Hbz := Lib.hid (Hk1.out.blk Hbz.out (fun e : gz = r => by have h1 : W.heap.size ≤ gz := Hgz.out; have h2 := Hd.out; omega)))
      refine ⟨⟨HK.out.cell c2 N.out.1, HK.out.cell c3 N.out.2.1⟩, ?_⟩
      refine tree_e rfl rfl ?_
      have c6 := HK.out.cell ((blk_cell H6.out 5).trans rfl) N.out.2.2
      rw [Hnn.out] at c6
      go_wp2_with fail
      clear c6
      refine ⟨⟨HK.out.cell c2 N.out.1, HK.out.cell c3 N.out.2.1⟩, ?_⟩
      refine tq (some 8) ?_; (try simp only [PU])
      refine tree_e rfl rfl ?_
      have HJc := Lib.hid (HJ.out.keep HK.out (fun b _ e => .inl (by have := Hd.out; omega)))
      have hrow7 := HJc.out.row
      rw [Hnn.out] at hrow7
      have Hrow7 := Lib.hid hrow7
      clear hrow7
      go_must (refine ev_append rfl rfl Tryd.underlying23 info25b rfl (by decide) (base := base) rfl Hrow7.out rfl (news := [.int .i64 0, .bool false, .int .i64 0, .string ByteArray.empty, .slice none 0 0, .slice none 0 0]) rfl (fun _ => ⟨_, rfl, World.news_of_block Hbz.out⟩) (by simp [Value.oneCell']) (by omega) (by decide) (by have := HK.out.size; have := Hd.out; omega) ?_; intro v6 w6 hown6 hk6 hr6 hf6; obtain ⟨gr, cap, rfl⟩ := hf6 (by decide))
      have Hr6 := Lib.hid hr6
      (try simp only [PU])
      have b2 := HK.out.blk H2.out N.out.1
      have b3 := HK.out.blk H3.out N.out.2.1
      have b6 := HK.out.blk H6.out N.out.2.2
      have H2k := Lib.hid (hk6.blk b2 (row_ne Hrow7.out b2 (by decide)))
      have H3k := Lib.hid (hk6.blk b3 (row_ne Hrow7.out b3 (by decide)))
      have H6k := Lib.hid (hk6.blk b6 (fun e => HJc.out.ne g6 e.symm rfl))
      have Hrk := Lib.hid (Hr1.out.keep hk6 (row_ne Hrow7.out Hr1.out.blk (by decide)))
      obtain ⟨cur, hcur⟩ : ∃ cur, w6.heap[gr]? = some (.cells cur 25 (0, 0)) ∧ n + 1 ≤ cap ∧ cur.size = cap * 6 ∧ base ≤ gr := by
       rcases hown6.2 with ⟨e, _⟩ | ⟨g', cap', cur, e, hb, hg', hc, hm, hs, ht⟩
       · cases e
       · injection e with e1 e2 e3
         injection e1 with e1
         injection e1 with e1
         subst e1; subst e3
         exact ⟨cur, hg', hc, hs, hb⟩
      have Hcf := Lib.hid hcur.2
      have Hcur := Lib.hid hcur.1
      have Hg6r := Lib.hid (row_notin (fun e => HJc.out.ne g6 e rfl) (blk_lt H6.out) HK.out.size hr6)
      have Hrowk := Lib.hid hown6
      have HKo := Lib.hid (hk6.mono (M' := fun k => some k = (Value.slice vA n vc).ownBlock ∨ k = g6) (fun _ _ e => .inl e))
      have HKall := Lib.hid ((keepsMR HK.out).trans hk6 (fun i hi e => .inr (row_lt HJ.out.row i e.symm).1))
      have HWc := Lib.hid HK.out.size
      have hlt1 : (n : Int) < (n : Int) + 1 := by omega
      clear hown6 hk6 hr6 hf6 b2 b3 b6 hcur
      refine wpList_nil ⟨⟨(blk_cell H2k.out 0).trans rfl, (blk_cell H3k.out 0).trans rfl⟩, ?_⟩
      refine tq (some 11) ?_; (try simp only [PU])
      refine tq (some 12) ?_; (try simp only [PU])
      refine tree_b rfl rfl ?b2_32 ?nb2_32
      case' b2_32 =>
       have hfit : n * 6 + 6 ≤ cur.size := by have h1 := Hcf.out.1; have h2 := Hcf.out.2.1; omega
       go_must (refine ev_store (x := .agg #[.int .i64 jk, .bool jb, .int .i64 jn, .string jt, .slice kA kl kc, .slice jA vl jc]) (vs := [.int .i64 jk, .bool jb, .int .i64 jn, .string jt, .slice kA kl kc, .slice jA vl jc]) (off := n * 6) (cs' := List.toArray (cur.toList.take (n * 6) ++ ([Value.int .i64 jk, Value.bool jb, Value.int .i64 jn, Value.string jt, Value.slice kA kl kc, Value.slice jA vl jc] : List Value) ++ cur.toList.drop (n * 6 + 6))) rfl rfl rfl rfl rfl rfl HI.out.1.1 HI.out.1.2 rfl Hcur.out hfit rfl ?_; intro w7 hb7 hk7)
       (try simp only [PU])
       have H2k' := H2k
       have h6l : g6 < W.heap.size := blk_lt H6.out
       have Hown9 := Lib.hid (RowJ.push HJc.out HV.out (fun b hb => ⟨by have := Hd.out; have := hb.1; omega, fun e => by have := hb.1; omega, fun e => by have := (row_lt HJ.out.row b e.symm).2; have := hb.1; omega, hb.2⟩) (fun b e => by have := HWc.out; rw [e]; omega) rfl (by rw [Hnn.out]; exact Hrowk.out) HKo.out Hr6.out (by rw [Hnn.out]) Hcur.out (by rw [Hnn.out]; exact hb7) hk7)
       have H2k := Lib.hid (hk7.blk H2k.out (blk_type H2k.out Hcur.out (by decide)))
       have H3k := Lib.hid (hk7.blk H3k.out (blk_type H3k.out Hcur.out (by decide)))
       have H6k := Lib.hid (hk7.blk H6k.out Hg6r.out)
       have Hrk := Lib.hid (Hrk.out.keep hk7 (blk_type Hrk.out.blk Hcur.out (by decide)))
       have HKall := Lib.hid (HKall.out.trans hk7 (fun i _ e => .inr (by rw [e]; exact Hcf.out.2.2)))
       clear hb7 hk7 hfit h6l H2k'
       refine wpList_nil ⟨⟨(blk_cell H2k.out 0).trans rfl, (blk_cell H3k.out 0).trans rfl⟩, ?_⟩
       refine tree_e rfl rfl ?_
       go_must (refine ev_store (cs' := #[y0, y1, y2, y3, y4, .slice (some ⟨gr, 0, none⟩) (n + 1) cap]) rfl rfl rfl rfl rfl rfl HI.out.2.1 HI.out.2.2 rfl H6k.out (Nat.le_of_ble_eq_true rfl) rfl ?_; intro w8 hb8 hk8)
       (try simp only [PU])
       have Hb8 := Lib.hid hb8
       (try have Hown9 := Lib.hid (Hown9.out.keep hk8 (fun b _ e => .inr e)))
       (try have HKo := Lib.hid (HKo.out.trans hk8 (fun _ _ e => .inr e)))
       (try have Hrowk := Lib.hid (row_keep Hrowk.out hk8 (fun k hk e => Hg6r.out (by rw [← e]; exact (Option.some.inj hk).symm))))
       (try have Hcur := Lib.hid (hk8.blk Hcur.out (fun e => Hg6r.out e.symm)))
       have H2k := Lib.hid (hk8.blk H2k.out (blk_type H2k.out H6k.out (by decide)))
       have H3k := Lib.hid (hk8.blk H3k.out (blk_type H3k.out H6k.out (by decide)))
       have Hrk := Lib.hid (Hrk.out.keep hk8 (fun e => N.out.2.2 e.symm))
       have HKall := Lib.hid (HKall.out.trans hk8 (fun i _ e => .inr (by rw [e]; exact Hd.out.2.2.2.1)))
       have H6k := Hb8
       clear hb8 hk8
       refine wpList_nil ⟨⟨(blk_cell H2k.out 0).trans rfl, (blk_cell H3k.out 0).trans rfl⟩, ?_⟩
       refine tree_nil ?_
      case' nb2_32 =>
       refine tree_e rfl rfl ?b2_33
       case' b2_33 =>
        go_must (refine ev_store (cs' := #[y0, y1, y2, y3, y4, .slice (some ⟨gr, 0, none⟩) (n + 1) cap]) rfl rfl rfl rfl rfl rfl HI.out.2.1 HI.out.2.2 rfl H6k.out (Nat.le_of_ble_eq_true rfl) rfl ?_; intro w8 hb8 hk8)
        (try simp only [PU])
        have Hb8 := Lib.hid hb8
        (try have Hown9 := Lib.hid (Hown9.out.keep hk8 (fun b _ e => .inr e)))
        (try have HKo := Lib.hid (HKo.out.trans hk8 (fun _ _ e => .inr e)))
        (try have Hrowk := Lib.hid (row_keep Hrowk.out hk8 (fun k hk e => Hg6r.out (by rw [← e]; exact (Option.some.inj hk).symm))))
        (try have Hcur := Lib.hid (hk8.blk Hcur.out (fun e => Hg6r.out e.symm)))
        have H2k := Lib.hid (hk8.blk H2k.out (blk_type H2k.out H6k.out (by decide)))
        have H3k := Lib.hid (hk8.blk H3k.out (blk_type H3k.out H6k.out (by decide)))
        have Hrk := Lib.hid (Hrk.out.keep hk8 (fun e => N.out.2.2 e.symm))
        have HKall := Lib.hid (HKall.out.trans hk8 (fun i _ e => .inr (by rw [e]; exact Hd.out.2.2.2.1)))
        have H6k := Hb8
        clear hb8 hk8
        refine wpList_nil ⟨⟨(blk_cell H2k.out 0).trans rfl, (blk_cell H3k.out 0).trans rfl⟩, ?_⟩
        refine tree_e rfl rfl ?_
        have hfit : n * 6 + 6 ≤ cur.size := by have h1 := Hcf.out.1; have h2 := Hcf.out.2.1; omega
        go_must (refine ev_store (x := .agg #[.int .i64 jk, .bool jb, .int .i64 jn, .string jt, .slice kA kl kc, .slice jA vl jc]) (vs := [.int .i64 jk, .bool jb, .int .i64 jn, .string jt, .slice kA kl kc, .slice jA vl jc]) (off := n * 6) (cs' := List.toArray (cur.toList.take (n * 6) ++ ([Value.int .i64 jk, Value.bool jb, Value.int .i64 jn, Value.string jt, Value.slice kA kl kc, Value.slice jA vl jc] : List Value) ++ cur.toList.drop (n * 6 + 6))) rfl rfl rfl rfl rfl rfl HI.out.1.1 HI.out.1.2 rfl Hcur.out hfit rfl ?_; intro w7 hb7 hk7)
        (try simp only [PU])
        have H2k' := H2k
        have h6l : g6 < W.heap.size := blk_lt H6.out
        have Hown9 := Lib.hid (RowJ.push HJc.out HV.out (fun b hb => ⟨by have := Hd.out; have := hb.1; omega, fun e => by have := hb.1; omega, fun e => by have := (row_lt HJ.out.row b e.symm).2; have := hb.1; omega, hb.2⟩) (fun b e => by have := HWc.out; rw [e]; omega) rfl (by rw [Hnn.out]; exact Hrowk.out) HKo.out Hr6.out (by rw [Hnn.out]) Hcur.out (by rw [Hnn.out]; exact hb7) hk7)
        have H2k := Lib.hid (hk7.blk H2k.out (blk_type H2k.out Hcur.out (by decide)))
        have H3k := Lib.hid (hk7.blk H3k.out (blk_type H3k.out Hcur.out (by decide)))
        have H6k := Lib.hid (hk7.blk H6k.out Hg6r.out)
        have Hrk := Lib.hid (Hrk.out.keep hk7 (blk_type Hrk.out.blk Hcur.out (by decide)))
        have HKall := Lib.hid (HKall.out.trans hk7 (fun i _ e => .inr (by rw [e]; exact Hcf.out.2.2)))
        clear hb7 hk7 hfit h6l H2k'
        refine wpList_nil ⟨⟨(blk_cell H2k.out 0).trans rfl, (blk_cell H3k.out 0).trans rfl⟩, ?_⟩
        refine tree_nil ?_
 all_goals
  go_wp2
  go_end0
  exact ⟨⟨_, rfl⟩, Hrk.out, ⟨H2k.out, H3k.out, _, H6k.out, Hown9.out⟩, HKall.out⟩
end Go.Proofs.WV

namespace Go.Proofs.WV
open Go.RowKit Go.Proofs.KL Go.Proofs.WM
set_option maxRecDepth 100000
set_option linter.unusedSimpArgs false
set_option linter.unusedVariables false

theorem results_cell1 {fn : Func} {p : Tmp} {ty : TypeId} (h : fn.results = #[.cell p ty]) (tmps : Array Value) (P : Program) (w : World) : (results fn tmps).run P w = (do loadVar ty (← asAddr (tmps.getD p undef))).run P w := by
 simp [results, h]
set_option maxHeartbeats 2000000 in
theorem inner80e {w : World} {r : Nat} {T : ByteArray} {s : Bs} (h : Rd w r T s) (deep : Nat) (hd : deep ≤ 1) : Calls Tryd.prog 80 #[.pointer (some ⟨r, 0, none⟩), .int .i64 deep] w (ValOut w r T (.error s.length)) := by
 have H := Lib.hid h
 have Hfail := Lib.hid (fun W (hk : Keeps Nob w W) => fail47 (h.keep hk id) s.length h.le)
 have hdi : (deep : Int) ≤ 1 := by omega
 obtain ⟨n, hn⟩ : ∃ x, s.length = x := ⟨_, rfl⟩
 have Hn := Lib.hid hn
 rw [hn] at Hfail ⊢
 clear h hn
 go_enter Tryd.func80, Tryd.ntmps80
 go_wp2_with (first
  | ((with_reducible refine at_dst (N := 4) rfl ?_); go_must (refine ev_alloc rfl rfl zero25 rfl ?_; intro g4 w1 hg4 hl4 hb4 hk4)
     have Hb4 := Lib.hid hb4
     have HK1 := Lib.hid hk4
     have Hr1 := Lib.hid (H.out.keep hk4 id)
     have Hg4 := Lib.hid (And.intro hg4 hl4)
     have q1 := (blk_cell Hr1.out.blk 1).trans rfl
     rw [Hn.out] at q1
     clear hb4 hk4 hg4 hl4
     (try simp only [PU]))
  | (go_at_call 47; go_must (refine (Hfail.out _ HK1.out).mono ?_; rintro e w2 ⟨rfl, rfl⟩); unfold stopAt; (try simp only [PU]))
 )
 exact ⟨rfl, rfl, HK1.out.any⟩
set_option maxHeartbeats 2000000 in
theorem inner80v {w : World} {r : Nat} {T : ByteArray} {s : Bs} (h : Rd w r T s) (deep : Nat) (hd : 1 < deep ∧ deep ≤ 40) (R0 : R J) (hin : ∀ W', Rd W' r T s → Calls Tryd.prog 46 #[.pointer (some ⟨r, 0, none⟩), .int .i64 (deep - 1 : Nat)] W' (ValOut W' r T R0)) :
  Calls Tryd.prog 80 #[.pointer (some ⟨r, 0, none⟩), .int .i64 deep] w (ValOut w r T R0) := by
 obtain ⟨i25, hi25, hs25⟩ := info25
 have HI := Lib.hid (And.intro hi25 hs25)
 have H := Lib.hid h
 have hcast : ((deep - 1 : Nat) : Int) = (deep : Int) - 1 := by omega
 rw [hcast] at hin
 have Hin := Lib.hid hin
 have hdi : ¬ (deep : Int) ≤ 1 := by omega
 have hdi2 : (deep : Int) ≤ 40 := by omega
 clear h hin hd hi25 hs25 hcast
 rcases R0 with m | ⟨j, s'⟩
 · go_enter Tryd.func80, Tryd.ntmps80
   go_wp2_with (first
    | ((with_reducible refine at_dst (N := 4) rfl ?_); go_must (refine ev_alloc rfl rfl zero25 rfl ?_; intro g4 w1 hg4 hl4 hb4 hk4)
       have Hb4 := Lib.hid hb4
       have HK1 := Lib.hid hk4
       have Hr1 := Lib.hid (H.out.keep hk4 id)
       have Hg4 := Lib.hid (And.intro hg4 hl4)
       have q1 := (blk_cell Hr1.out.blk 1).trans rfl
       clear hb4 hk4 hg4 hl4
       (try simp only [PU]))
    | (go_at_call 46; go_must (refine (Hin.out _ Hr1.out).mono ?_; rintro e w2 ⟨rfl, hk2⟩); have HK2 := Lib.hid ((HK1.out.any (M := (· = r))).trans hk2 (fun _ _ h => h)); clear hk2; unfold stopAt; (try simp only [PU]))
   )
   exact ⟨rfl, rfl, HK2.out⟩
 · go_enter Tryd.func80, Tryd.ntmps80
   go_wp2_with (first
    | ((with_reducible refine at_dst (N := 4) rfl ?_); go_must (refine ev_alloc rfl rfl zero25 rfl ?_; intro g4 w1 hg4 hl4 hb4 hk4)
       have Hb4 := Lib.hid hb4
       have HK1 := Lib.hid hk4
       have Hr1 := Lib.hid (H.out.keep hk4 id)
       have Hg4 := Lib.hid (And.intro hg4 hl4)
       have q1 := (blk_cell Hr1.out.blk 1).trans rfl
       clear hb4 hk4 hg4 hl4
       (try simp only [PU]))
    | (go_at_call 46; go_must (refine (Hin.out _ Hr1.out).mono ?_; rintro e w2 ⟨⟨v1, rfl, hv1⟩, hr1, hk1⟩; obtain ⟨jk, jb, jn, jt, jks, jvs, jkv, jvv, hjj, rfl, hjk, hjv⟩ := hv1.open; obtain ⟨kA, kc, rfl, -, -⟩ := hjk; obtain ⟨jA, jc, ju, rfl, -, -, -⟩ := hjv)
       have HV := Lib.hid hv1
       have Hr2 := Lib.hid hr1
       have HK2 := Lib.hid ((HK1.out.any (M := (· = r))).trans hk1 (fun _ _ h => h))
       have Hb5 := Lib.hid (hk1.blk Hb4.out (fun e : g4 = r => by have := Hg4.out.1; have := H.out.lt; omega))
       clear hv1 hr1 hk1 hjj
       generalize jks.length = kl at *
       generalize jvs.length = vl at *
       (try simp only [PU]))
    | ((with_reducible refine at_store (t := 25) (p := 4) rfl ?_); go_must (refine ev_store (cs' := #[.int .i64 jk, .bool jb, .int .i64 jn, .string jt, .slice kA kl kc, .slice jA vl jc]) rfl rfl rfl rfl rfl rfl HI.out.1 HI.out.2 rfl Hb5.out (Nat.le_of_ble_eq_true rfl) rfl ?_; intro w3 hb3 hk3)
       have HK3 := Lib.hid hk3
       have s0 := (blk_cell hb3 0).trans rfl
       have s1 := (blk_cell hb3 1).trans rfl
       have s2 := (blk_cell hb3 2).trans rfl
       have s3 := (blk_cell hb3 3).trans rfl
       have s4 := (blk_cell hb3 4).trans rfl
       have s5 := (blk_cell hb3 5).trans rfl
       clear hb3 hk3
       (try simp only [PU]))
   )
   refine bodyPost_ret (v := .agg #[.int .i64 jk, .bool jb, .int .i64 jn, .string jt, .slice kA kl kc, .slice jA vl jc]) (by rw [results_cell1 rfl]; go_simp) rfl ?_
   refine ⟨⟨_, rfl, HV.out.keep HK3.out (fun b hb hx e => by have := Hg4.out.2; omega) (fun b hb hx => Nat.le_trans HK1.out.size hx)⟩, Hr2.out.keep HK3.out (fun e : r = g4 => by have := Hg4.out.1; have := H.out.lt; omega), HK2.out.trans HK3.out (fun i hi e => by have := Hg4.out.1; omega)⟩
end Go.Proofs.WV

namespace Go.Proofs.WV
open Go.RowKit Go.Proofs.KL Go.Proofs.WM
set_option maxRecDepth 100000
set_option linter.unusedSimpArgs false
set_option linter.unusedVariables false

theorem plainJX (W : World) (X : Nat → Prop) (k : Int) (b : Bool) (n : Int) (t : ByteArray) : JX W X (.agg #[.int .i64 k, .bool b, .int .i64 n, .string t, .slice none 0 0, .slice none 0 0]) (.mk k b n t [] []) :=
 JX.close (strs_nil W X) (js_nil W X)
theorem nzNull : ∀ i (hi : i < (ByteArray.mk #[110, 117, 108, 108]).size), (ByteArray.mk #[110, 117, 108, 108])[i] ≠ 0 := by
 intro i hi
 have h1 : i < 4 := hi
 match i, h1 with
 | 0, _ => exact (by decide : (110 : UInt8) ≠ 0)
 | 1, _ => exact (by decide : (117 : UInt8) ≠ 0)
 | 2, _ => exact (by decide : (108 : UInt8) ≠ 0)
 | 3, _ => exact (by decide : (108 : UInt8) ≠ 0)
theorem nzTrue : ∀ i (hi : i < (ByteArray.mk #[116, 114, 117, 101]).size), (ByteArray.mk #[116, 114, 117, 101])[i] ≠ 0 := by
 intro i hi
 have h1 : i < 4 := hi
 match i, h1 with
 | 0, _ => exact (by decide : (116 : UInt8) ≠ 0)
 | 1, _ => exact (by decide : (114 : UInt8) ≠ 0)
 | 2, _ => exact (by decide : (117 : UInt8) ≠ 0)
 | 3, _ => exact (by decide : (101 : UInt8) ≠ 0)
theorem nzFalse : ∀ i (hi : i < (ByteArray.mk #[102, 97, 108, 115, 101]).size), (ByteArray.mk #[102, 97, 108, 115, 101])[i] ≠ 0 := by
 intro i hi
 have h1 : i < 5 := hi
 match i, h1 with
 | 0, _ => exact (by decide : (102 : UInt8) ≠ 0)
 | 1, _ => exact (by decide : (97 : UInt8) ≠ 0)
 | 2, _ => exact (by decide : (108 : UInt8) ≠ 0)
 | 3, _ => exact (by decide : (115 : UInt8) ≠ 0)
 | 4, _ => exact (by decide : (101 : UInt8) ≠ 0)
set_option maxHeartbeats 2000000 in
theorem valueNull {w : World} {r : Nat} {T : ByteArray} {q : Bs} (h : Rd w r T (110 :: q)) (f dp : Nat) (deep : Int) : Calls Tryd.prog 46 #[.pointer (some ⟨r, 0, none⟩), .int .i64 deep] w (ValOut w r T (valueF (f + 1) dp (110 :: q))) := by
 have Hnz := Lib.hid nzNull
 obtain ⟨i25, hi25, hs25⟩ := info25
 have HI := Lib.hid (And.intro hi25 hs25)
 have H := Lib.hid h
 have H73 := Lib.hid (fun W (hk : Keeps Nob w W) => next73 (h.keep hk id))
 have hhd : headN (110 :: q) = 110 := rfl
 rw [hhd] at H73
 clear h hi25 hs25 hhd
 rcases hw : wordB [110, 117, 108, 108] (110 :: q) with m | r1
 · have Hw := Lib.hid (show wordB (bl ⟨#[110, 117, 108, 108]⟩) (110 :: q) = .error m from hw)
   have hv : valueF (f + 1) dp (110 :: q) = .error m := by unfold valueF; simp [hw]
   rw [hv]
   clear hw hv
   go_enter Tryd.func46, Tryd.ntmps46
   go_wp2_with (first
    | ((with_reducible refine at_dst (N := 2) rfl ?_); go_must (refine ev_box (cs := #[.pointer (some ⟨r, 0, none⟩)]) rfl rfl rfl ?_; intro g2 w1 hg2 hl2 hb2 hk2)
       have Hb2 := Lib.hid hb2
       have HKa := Lib.hid hk2
       clear hb2 hk2
       (try simp only [PU]))
    | ((with_reducible refine at_dst (N := 3) rfl ?_); go_must (refine ev_box (cs := #[.int .i64 deep]) rfl rfl rfl ?_; intro g3 w2 hg3 hl3 hb3 hk3)
       have Hb2 := Lib.hid (hk3.blk Hb2.out id)
       have Hb3 := Lib.hid hb3
       have HKa := Lib.hid (HKa.out.trans hk3 (fun _ _ h => h))
       clear hb3 hk3
       (try simp only [PU]))
    | ((with_reducible refine at_dst (N := 4) rfl ?_); go_must (refine ev_alloc rfl rfl zero25 rfl ?_; intro g4 w3 hg4 hl4 hb4 hk4)
       have Hb2 := Lib.hid (hk4.blk Hb2.out id)
       have Hb3 := Lib.hid (hk4.blk Hb3.out id)
       have Hb4 := Lib.hid hb4
       have Hg4 := Lib.hid (show w.heap.size ≤ g4 from Nat.le_trans HKa.out.size hg4)
       have HKa := Lib.hid (HKa.out.trans hk4 (fun _ _ h => h))
       have c2 := (blk_cell Hb2.out 0).trans rfl
       clear hb4 hk4
       (try simp only [PU]))
    | (go_at_call 73; go_must (refine (H73.out _ HKa.out).mono ?_; rintro e w4 ⟨rfl, hk5⟩)
       have Hb2 := Lib.hid (hk5.blk Hb2.out id)
       have Hb3 := Lib.hid (hk5.blk Hb3.out id)
       have Hb4 := Lib.hid (hk5.blk Hb4.out id)
       have HKa := Lib.hid (HKa.out.trans hk5 (fun _ _ h => h))
       have Hr4 := Lib.hid (H.out.keep HKa.out id)
       clear c2 hk5
       have c2 := (blk_cell Hb2.out 0).trans rfl
       (try simp only [PU]))
    | (go_at_call 74; go_must (have h74 := word74 Hr4.out ⟨#[110, 117, 108, 108]⟩ (by decide) Hnz.out; rw [Hw.out] at h74; refine h74.mono ?_; rintro e w6 ⟨rfl, hk6⟩); have HK6 := Lib.hid ((HKa.out.any (M := (· = r))).trans hk6 (fun _ _ h => h)); clear hk6; unfold stopAt; (try simp only [PU]))
   )
   exact ⟨rfl, rfl, HK6.out⟩
 · have Hw := Lib.hid (show wordB (bl ⟨#[110, 117, 108, 108]⟩) (110 :: q) = .ok r1 from hw)
   have hv : valueF (f + 1) dp (110 :: q) = .ok (.mk 1 false 0 ByteArray.empty [] [], r1) := by unfold valueF; simp [hw]
   rw [hv]
   clear hw hv
   go_enter Tryd.func46, Tryd.ntmps46
   go_wp2_with (first
    | ((with_reducible refine at_dst (N := 2) rfl ?_); go_must (refine ev_box (cs := #[.pointer (some ⟨r, 0, none⟩)]) rfl rfl rfl ?_; intro g2 w1 hg2 hl2 hb2 hk2)
       have Hb2 := Lib.hid hb2
       have HKa := Lib.hid hk2
       clear hb2 hk2
       (try simp only [PU]))
    | ((with_reducible refine at_dst (N := 3) rfl ?_); go_must (refine ev_box (cs := #[.int .i64 deep]) rfl rfl rfl ?_; intro g3 w2 hg3 hl3 hb3 hk3)
       have Hb2 := Lib.hid (hk3.blk Hb2.out id)
       have Hb3 := Lib.hid hb3
       have HKa := Lib.hid (HKa.out.trans hk3 (fun _ _ h => h))
       clear hb3 hk3
       (try simp only [PU]))
    | ((with_reducible refine at_dst (N := 4) rfl ?_); go_must (refine ev_alloc rfl rfl zero25 rfl ?_; intro g4 w3 hg4 hl4 hb4 hk4)
       have Hb2 := Lib.hid (hk4.blk Hb2.out id)
       have Hb3 := Lib.hid (hk4.blk Hb3.out id)
       have Hb4 := Lib.hid hb4
       have Hg4 := Lib.hid (show w.heap.size ≤ g4 from Nat.le_trans HKa.out.size hg4)
       have HKa := Lib.hid (HKa.out.trans hk4 (fun _ _ h => h))
       have c2 := (blk_cell Hb2.out 0).trans rfl
       clear hb4 hk4
       (try simp only [PU]))
    | (go_at_call 73; go_must (refine (H73.out _ HKa.out).mono ?_; rintro e w4 ⟨rfl, hk5⟩)
       have Hb2 := Lib.hid (hk5.blk Hb2.out id)
       have Hb3 := Lib.hid (hk5.blk Hb3.out id)
       have Hb4 := Lib.hid (hk5.blk Hb4.out id)
       have HKa := Lib.hid (HKa.out.trans hk5 (fun _ _ h => h))
       have Hr4 := Lib.hid (H.out.keep HKa.out id)
       clear c2 hk5
       have c2 := (blk_cell Hb2.out 0).trans rfl
       (try simp only [PU]))
    | (go_at_call 74; go_must (have h74 := word74 Hr4.out ⟨#[110, 117, 108, 108]⟩ (by decide) Hnz.out; rw [Hw.out] at h74; refine h74.mono ?_; rintro e w6 ⟨⟨y6, rfl⟩, hr6, hk6⟩)
       have HK6 := Lib.hid ((HKa.out.any (M := (· = r))).trans hk6 (fun _ _ h => h))
       have Hr6 := Lib.hid hr6
       have Hb6 := Lib.hid (hk6.blk Hb4.out (fun e : g4 = r => by have := Hg4.out; have := H.out.lt; omega))
       clear hk6 hr6
       (try simp only [PU]))
    | ((with_reducible refine at_store (t := 25) (p := 4) rfl ?_); go_must (refine ev_store (cs' := #[.int .i64 1, .bool false, .int .i64 0, .string ByteArray.empty, .slice none 0 0, .slice none 0 0]) rfl rfl rfl rfl rfl rfl HI.out.1 HI.out.2 rfl Hb6.out (Nat.le_of_ble_eq_true rfl) rfl ?_; intro w7 hb7 hk7)
       have HK7 := Lib.hid hk7
       have s0 := (blk_cell hb7 0).trans rfl
       have s1 := (blk_cell hb7 1).trans rfl
       have s2 := (blk_cell hb7 2).trans rfl
       have s3 := (blk_cell hb7 3).trans rfl
       have s4 := (blk_cell hb7 4).trans rfl
       have s5 := (blk_cell hb7 5).trans rfl
       clear hb7 hk7
       (try simp only [PU]))
   )
   refine bodyPost_ret (v := .agg #[.int .i64 1, .bool false, .int .i64 0, .string ByteArray.empty, .slice none 0 0, .slice none 0 0]) (by rw [results_cell1 rfl]; go_simp) rfl ?_
   exact ⟨⟨_, rfl, plainJX _ _ _ _ _ _⟩, Hr6.out.keep HK7.out (fun e : r = g4 => by have := Hg4.out; have := H.out.lt; omega), HK6.out.trans HK7.out (fun i hi e => by have := Hg4.out; omega)⟩
set_option maxHeartbeats 2000000 in
theorem valueTrue {w : World} {r : Nat} {T : ByteArray} {q : Bs} (h : Rd w r T (116 :: q)) (f dp : Nat) (deep : Int) : Calls Tryd.prog 46 #[.pointer (some ⟨r, 0, none⟩), .int .i64 deep] w (ValOut w r T (valueF (f + 1) dp (116 :: q))) := by
 have Hnz := Lib.hid nzTrue
 obtain ⟨i25, hi25, hs25⟩ := info25
 have HI := Lib.hid (And.intro hi25 hs25)
 have H := Lib.hid h
 have H73 := Lib.hid (fun W (hk : Keeps Nob w W) => next73 (h.keep hk id))
 have hhd : headN (116 :: q) = 116 := rfl
 rw [hhd] at H73
 clear h hi25 hs25 hhd
 rcases hw : wordB [116, 114, 117, 101] (116 :: q) with m | r1
 · have Hw := Lib.hid (show wordB (bl ⟨#[116, 114, 117, 101]⟩) (116 :: q) = .error m from hw)
   have hv : valueF (f + 1) dp (116 :: q) = .error m := by unfold valueF; simp [hw]
   rw [hv]
   clear hw hv
   go_enter Tryd.func46, Tryd.ntmps46
   go_wp2_with (first
    | ((with_reducible refine at_dst (N := 2) rfl ?_); go_must (refine ev_box (cs := #[.pointer (some ⟨r, 0, none⟩)]) rfl rfl rfl ?_; intro g2 w1 hg2 hl2 hb2 hk2)
       have Hb2 := Lib.hid hb2
       have HKa := Lib.hid hk2
       clear hb2 hk2
       (try simp only [PU]))
    | ((with_reducible refine at_dst (N := 3) rfl ?_); go_must (refine ev_box (cs := #[.int .i64 deep]) rfl rfl rfl ?_; intro g3 w2 hg3 hl3 hb3 hk3)
       have Hb2 := Lib.hid (hk3.blk Hb2.out id)
       have Hb3 := Lib.hid hb3
       have HKa := Lib.hid (HKa.out.trans hk3 (fun _ _ h => h))
       clear hb3 hk3
       (try simp only [PU]))
    | ((with_reducible refine at_dst (N := 4) rfl ?_); go_must (refine ev_alloc rfl rfl zero25 rfl ?_; intro g4 w3 hg4 hl4 hb4 hk4)
       have Hb2 := Lib.hid (hk4.blk Hb2.out id)
       have Hb3 := Lib.hid (hk4.blk Hb3.out id)
       have Hb4 := Lib.hid hb4
       have Hg4 := Lib.hid (show w.heap.size ≤ g4 from Nat.le_trans HKa.out.size hg4)
       have HKa := Lib.hid (HKa.out.trans hk4 (fun _ _ h => h))
       have c2 := (blk_cell Hb2.out 0).trans rfl
       clear hb4 hk4
       (try simp only [PU]))
    | (go_at_call 73; go_must (refine (H73.out _ HKa.out).mono ?_; rintro e w4 ⟨rfl, hk5⟩)
       have Hb2 := Lib.hid (hk5.blk Hb2.out id)
       have Hb3 := Lib.hid (hk5.blk Hb3.out id)
       have Hb4 := Lib.hid (hk5.blk Hb4.out id)
       have HKa := Lib.hid (HKa.out.trans hk5 (fun _ _ h => h))
       have Hr4 := Lib.hid (H.out.keep HKa.out id)
       clear c2 hk5
       have c2 := (blk_cell Hb2.out 0).trans rfl
       (try simp only [PU]))
    | (go_at_call 74; go_must (have h74 := word74 Hr4.out ⟨#[116, 114, 117, 101]⟩ (by decide) Hnz.out; rw [Hw.out] at h74; refine h74.mono ?_; rintro e w6 ⟨rfl, hk6⟩); have HK6 := Lib.hid ((HKa.out.any (M := (· = r))).trans hk6 (fun _ _ h => h)); clear hk6; unfold stopAt; (try simp only [PU]))
   )
   exact ⟨rfl, rfl, HK6.out⟩
 · have Hw := Lib.hid (show wordB (bl ⟨#[116, 114, 117, 101]⟩) (116 :: q) = .ok r1 from hw)
   have hv : valueF (f + 1) dp (116 :: q) = .ok (.mk 2 true 0 ByteArray.empty [] [], r1) := by unfold valueF; simp [hw]
   rw [hv]
   clear hw hv
   go_enter Tryd.func46, Tryd.ntmps46
   go_wp2_with (first
    | ((with_reducible refine at_dst (N := 2) rfl ?_); go_must (refine ev_box (cs := #[.pointer (some ⟨r, 0, none⟩)]) rfl rfl rfl ?_; intro g2 w1 hg2 hl2 hb2 hk2)
       have Hb2 := Lib.hid hb2
       have HKa := Lib.hid hk2
       clear hb2 hk2
       (try simp only [PU]))
    | ((with_reducible refine at_dst (N := 3) rfl ?_); go_must (refine ev_box (cs := #[.int .i64 deep]) rfl rfl rfl ?_; intro g3 w2 hg3 hl3 hb3 hk3)
       have Hb2 := Lib.hid (hk3.blk Hb2.out id)
       have Hb3 := Lib.hid hb3
       have HKa := Lib.hid (HKa.out.trans hk3 (fun _ _ h => h))
       clear hb3 hk3
       (try simp only [PU]))
    | ((with_reducible refine at_dst (N := 4) rfl ?_); go_must (refine ev_alloc rfl rfl zero25 rfl ?_; intro g4 w3 hg4 hl4 hb4 hk4)
       have Hb2 := Lib.hid (hk4.blk Hb2.out id)
       have Hb3 := Lib.hid (hk4.blk Hb3.out id)
       have Hb4 := Lib.hid hb4
       have Hg4 := Lib.hid (show w.heap.size ≤ g4 from Nat.le_trans HKa.out.size hg4)
       have HKa := Lib.hid (HKa.out.trans hk4 (fun _ _ h => h))
       have c2 := (blk_cell Hb2.out 0).trans rfl
       clear hb4 hk4
       (try simp only [PU]))
    | (go_at_call 73; go_must (refine (H73.out _ HKa.out).mono ?_; rintro e w4 ⟨rfl, hk5⟩)
       have Hb2 := Lib.hid (hk5.blk Hb2.out id)
       have Hb3 := Lib.hid (hk5.blk Hb3.out id)
       have Hb4 := Lib.hid (hk5.blk Hb4.out id)
       have HKa := Lib.hid (HKa.out.trans hk5 (fun _ _ h => h))
       have Hr4 := Lib.hid (H.out.keep HKa.out id)
       clear c2 hk5
       have c2 := (blk_cell Hb2.out 0).trans rfl
       (try simp only [PU]))
    | (go_at_call 74; go_must (have h74 := word74 Hr4.out ⟨#[116, 114, 117, 101]⟩ (by decide) Hnz.out; rw [Hw.out] at h74; refine h74.mono ?_; rintro e w6 ⟨⟨y6, rfl⟩, hr6, hk6⟩)
       have HK6 := Lib.hid ((HKa.out.any (M := (· = r))).trans hk6 (fun _ _ h => h))
       have Hr6 := Lib.hid hr6
       have Hb6 := Lib.hid (hk6.blk Hb4.out (fun e : g4 = r => by have := Hg4.out; have := H.out.lt; omega))
       clear hk6 hr6
       (try simp only [PU]))
    | ((with_reducible refine at_store (t := 25) (p := 4) rfl ?_); go_must (refine ev_store (cs' := #[.int .i64 2, .bool true, .int .i64 0, .string ByteArray.empty, .slice none 0 0, .slice none 0 0]) rfl rfl rfl rfl rfl rfl HI.out.1 HI.out.2 rfl Hb6.out (Nat.le_of_ble_eq_true rfl) rfl ?_; intro w7 hb7 hk7)
       have HK7 := Lib.hid hk7
       have s0 := (blk_cell hb7 0).trans rfl
       have s1 := (blk_cell hb7 1).trans rfl
       have s2 := (blk_cell hb7 2).trans rfl
       have s3 := (blk_cell hb7 3).trans rfl
       have s4 := (blk_cell hb7 4).trans rfl
       have s5 := (blk_cell hb7 5).trans rfl
       clear hb7 hk7
       (try simp only [PU]))
   )
   refine bodyPost_ret (v := .agg #[.int .i64 2, .bool true, .int .i64 0, .string ByteArray.empty, .slice none 0 0, .slice none 0 0]) (by rw [results_cell1 rfl]; go_simp) rfl ?_
   exact ⟨⟨_, rfl, plainJX _ _ _ _ _ _⟩, Hr6.out.keep HK7.out (fun e : r = g4 => by have := Hg4.out; have := H.out.lt; omega), HK6.out.trans HK7.out (fun i hi e => by have := Hg4.out; omega)⟩
set_option maxHeartbeats 2000000 in
theorem valueFalse {w : World} {r : Nat} {T : ByteArray} {q : Bs} (h : Rd w r T (102 :: q)) (f dp : Nat) (deep : Int) : Calls Tryd.prog 46 #[.pointer (some ⟨r, 0, none⟩), .int .i64 deep] w (ValOut w r T (valueF (f + 1) dp (102 :: q))) := by
 have Hnz := Lib.hid nzFalse
 obtain ⟨i25, hi25, hs25⟩ := info25
 have HI := Lib.hid (And.intro hi25 hs25)
 have H := Lib.hid h
 have H73 := Lib.hid (fun W (hk : Keeps Nob w W) => next73 (h.keep hk id))
 have hhd : headN (102 :: q) = 102 := rfl
 rw [hhd] at H73
 clear h hi25 hs25 hhd
 rcases hw : wordB [102, 97, 108, 115, 101] (102 :: q) with m | r1
 · have Hw := Lib.hid (show wordB (bl ⟨#[102, 97, 108, 115, 101]⟩) (102 :: q) = .error m from hw)
   have hv : valueF (f + 1) dp (102 :: q) = .error m := by unfold valueF; simp [hw]
   rw [hv]
   clear hw hv
   go_enter Tryd.func46, Tryd.ntmps46
   go_wp2_with (first
    | ((with_reducible refine at_dst (N := 2) rfl ?_); go_must (refine ev_box (cs := #[.pointer (some ⟨r, 0, none⟩)]) rfl rfl rfl ?_; intro g2 w1 hg2 hl2 hb2 hk2)
       have Hb2 := Lib.hid hb2
       have HKa := Lib.hid hk2
       clear hb2 hk2
       (try simp only [PU]))
    | ((with_reducible refine at_dst (N := 3) rfl ?_); go_must (refine ev_box (cs := #[.int .i64 deep]) rfl rfl rfl ?_; intro g3 w2 hg3 hl3 hb3 hk3)
       have Hb2 := Lib.hid (hk3.blk Hb2.out id)
       have Hb3 := Lib.hid hb3
       have HKa := Lib.hid (HKa.out.trans hk3 (fun _ _ h => h))
       clear hb3 hk3
       (try simp only [PU]))
    | ((with_reducible refine at_dst (N := 4) rfl ?_); go_must (refine ev_alloc rfl rfl zero25 rfl ?_; intro g4 w3 hg4 hl4 hb4 hk4)
       have Hb2 := Lib.hid (hk4.blk Hb2.out id)
       have Hb3 := Lib.hid (hk4.blk Hb3.out id)
       have Hb4 := Lib.hid hb4
       have Hg4 := Lib.hid (show w.heap.size ≤ g4 from Nat.le_trans HKa.out.size hg4)
       have HKa := Lib.hid (HKa.out.trans hk4 (fun _ _ h => h))
       have c2 := (blk_cell Hb2.out 0).trans rfl
       clear hb4 hk4
       (try simp only [PU]))
    | (go_at_call 73; go_must (refine (H73.out _ HKa.out).mono ?_; rintro e w4 ⟨rfl, hk5⟩)
       have Hb2 := Lib.hid (hk5.blk Hb2.out id)
       have Hb3 := Lib.hid (hk5.blk Hb3.out id)
       have Hb4 := Lib.hid (hk5.blk Hb4.out id)
       have HKa := Lib.hid (HKa.out.trans hk5 (fun _ _ h => h))
       have Hr4 := Lib.hid (H.out.keep HKa.out id)
       clear c2 hk5
       have c2 := (blk_cell Hb2.out 0).trans rfl
       (try simp only [PU]))
    | (go_at_call 74; go_must (have h74 := word74 Hr4.out ⟨#[102, 97, 108, 115, 101]⟩ (by decide) Hnz.out; rw [Hw.out] at h74; refine h74.mono ?_; rintro e w6 ⟨rfl, hk6⟩); have HK6 := Lib.hid ((HKa.out.any (M := (· = r))).trans hk6 (fun _ _ h => h)); clear hk6; unfold stopAt; (try simp only [PU]))
   )
   exact ⟨rfl, rfl, HK6.out⟩
 · have Hw := Lib.hid (show wordB (bl ⟨#[102, 97, 108, 115, 101]⟩) (102 :: q) = .ok r1 from hw)
   have hv : valueF (f + 1) dp (102 :: q) = .ok (.mk 2 false 0 ByteArray.empty [] [], r1) := by unfold valueF; simp [hw]
   rw [hv]
   clear hw hv
   go_enter Tryd.func46, Tryd.ntmps46
   go_wp2_with (first
    | ((with_reducible refine at_dst (N := 2) rfl ?_); go_must (refine ev_box (cs := #[.pointer (some ⟨r, 0, none⟩)]) rfl rfl rfl ?_; intro g2 w1 hg2 hl2 hb2 hk2)
       have Hb2 := Lib.hid hb2
       have HKa := Lib.hid hk2
       clear hb2 hk2
       (try simp only [PU]))
    | ((with_reducible refine at_dst (N := 3) rfl ?_); go_must (refine ev_box (cs := #[.int .i64 deep]) rfl rfl rfl ?_; intro g3 w2 hg3 hl3 hb3 hk3)
       have Hb2 := Lib.hid (hk3.blk Hb2.out id)
       have Hb3 := Lib.hid hb3
       have HKa := Lib.hid (HKa.out.trans hk3 (fun _ _ h => h))
       clear hb3 hk3
       (try simp only [PU]))
    | ((with_reducible refine at_dst (N := 4) rfl ?_); go_must (refine ev_alloc rfl rfl zero25 rfl ?_; intro g4 w3 hg4 hl4 hb4 hk4)
       have Hb2 := Lib.hid (hk4.blk Hb2.out id)
       have Hb3 := Lib.hid (hk4.blk Hb3.out id)
       have Hb4 := Lib.hid hb4
       have Hg4 := Lib.hid (show w.heap.size ≤ g4 from Nat.le_trans HKa.out.size hg4)
       have HKa := Lib.hid (HKa.out.trans hk4 (fun _ _ h => h))
       have c2 := (blk_cell Hb2.out 0).trans rfl
       clear hb4 hk4
       (try simp only [PU]))
    | (go_at_call 73; go_must (refine (H73.out _ HKa.out).mono ?_; rintro e w4 ⟨rfl, hk5⟩)
       have Hb2 := Lib.hid (hk5.blk Hb2.out id)
       have Hb3 := Lib.hid (hk5.blk Hb3.out id)
       have Hb4 := Lib.hid (hk5.blk Hb4.out id)
       have HKa := Lib.hid (HKa.out.trans hk5 (fun _ _ h => h))
       have Hr4 := Lib.hid (H.out.keep HKa.out id)
       clear c2 hk5
       have c2 := (blk_cell Hb2.out 0).trans rfl
       (try simp only [PU]))
    | (go_at_call 74; go_must (have h74 := word74 Hr4.out ⟨#[102, 97, 108, 115, 101]⟩ (by decide) Hnz.out; rw [Hw.out] at h74; refine h74.mono ?_; rintro e w6 ⟨⟨y6, rfl⟩, hr6, hk6⟩)
       have HK6 := Lib.hid ((HKa.out.any (M := (· = r))).trans hk6 (fun _ _ h => h))
       have Hr6 := Lib.hid hr6
       have Hb6 := Lib.hid (hk6.blk Hb4.out (fun e : g4 = r => by have := Hg4.out; have := H.out.lt; omega))
       clear hk6 hr6
       (try simp only [PU]))
    | ((with_reducible refine at_store (t := 25) (p := 4) rfl ?_); go_must (refine ev_store (cs' := #[.int .i64 2, .bool false, .int .i64 0, .string ByteArray.empty, .slice none 0 0, .slice none 0 0]) rfl rfl rfl rfl rfl rfl HI.out.1 HI.out.2 rfl Hb6.out (Nat.le_of_ble_eq_true rfl) rfl ?_; intro w7 hb7 hk7)
       have HK7 := Lib.hid hk7
       have s0 := (blk_cell hb7 0).trans rfl
       have s1 := (blk_cell hb7 1).trans rfl
       have s2 := (blk_cell hb7 2).trans rfl
       have s3 := (blk_cell hb7 3).trans rfl
       have s4 := (blk_cell hb7 4).trans rfl
       have s5 := (blk_cell hb7 5).trans rfl
       clear hb7 hk7
       (try simp only [PU]))
   )
   refine bodyPost_ret (v := .agg #[.int .i64 2, .bool false, .int .i64 0, .string ByteArray.empty, .slice none 0 0, .slice none 0 0]) (by rw [results_cell1 rfl]; go_simp) rfl ?_
   exact ⟨⟨_, rfl, plainJX _ _ _ _ _ _⟩, Hr6.out.keep HK7.out (fun e : r = g4 => by have := Hg4.out; have := H.out.lt; omega), HK6.out.trans HK7.out (fun i hi e => by have := Hg4.out; omega)⟩
end Go.Proofs.WV

namespace Go.Proofs.WV
open Go.RowKit Go.Proofs.KL Go.Proofs.WM
set_option maxRecDepth 100000
set_option linter.unusedSimpArgs false
set_option linter.unusedVariables false

set_option maxHeartbeats 2000000 in
theorem valueStr {w : World} {r : Nat} {T : ByteArray} {q : Bs} (h : Rd w r T (34 :: q)) (f dp : Nat) (deep : Int) : Calls Tryd.prog 46 #[.pointer (some ⟨r, 0, none⟩), .int .i64 deep] w (ValOut w r T (valueF (f + 1) dp (34 :: q))) := by
 obtain ⟨i25, hi25, hs25⟩ := info25
 have HI := Lib.hid (And.intro hi25 hs25)
 have H := Lib.hid h
 have H73 := Lib.hid (fun W (hk : Keeps Nob w W) => next73 (h.keep hk id))
 have H76 := Lib.hid (fun W (hk : Keeps Nob w W) => digit76 (h.keep hk id))
 clear hi25 hs25
 have hhd : headN (34 :: q) = 34 := rfl
 rw [hhd] at H73
 clear h hhd H76
 rcases hw : strB (34 :: q) with m | ⟨t, r1⟩
 · have Hw := Lib.hid hw
   have hv : valueF (f + 1) dp (34 :: q) = .error m := by unfold valueF; simp [hw]
   rw [hv]
   clear hw hv
   go_enter Tryd.func46, Tryd.ntmps46
   go_wp2_with (first
    | ((with_reducible refine at_dst (N := 2) rfl ?_); go_must (refine ev_box (cs := #[.pointer (some ⟨r, 0, none⟩)]) rfl rfl rfl ?_; intro g2 w1 hg2 hl2 hb2 hk2)
       have Hb2 := Lib.hid hb2
       have HKa := Lib.hid hk2
       clear hb2 hk2
       (try simp only [PU]))
    | ((with_reducible refine at_dst (N := 3) rfl ?_); go_must (refine ev_box (cs := #[.int .i64 deep]) rfl rfl rfl ?_; intro g3 w2 hg3 hl3 hb3 hk3)
       have Hb2 := Lib.hid (hk3.blk Hb2.out id)
       have Hb3 := Lib.hid hb3
       have HKa := Lib.hid (HKa.out.trans hk3 (fun _ _ h => h))
       clear hb3 hk3
       (try simp only [PU]))
    | ((with_reducible refine at_dst (N := 4) rfl ?_); go_must (refine ev_alloc rfl rfl zero25 rfl ?_; intro g4 w3 hg4 hl4 hb4 hk4)
       have Hb2 := Lib.hid (hk4.blk Hb2.out id)
       have Hb3 := Lib.hid (hk4.blk Hb3.out id)
       have Hb4 := Lib.hid hb4
       have Hg4 := Lib.hid (show w.heap.size ≤ g4 from Nat.le_trans HKa.out.size hg4)
       have HKa := Lib.hid (HKa.out.trans hk4 (fun _ _ h => h))
       have c2 := (blk_cell Hb2.out 0).trans rfl
       clear hb4 hk4
       (try simp only [PU]))
    | (go_at_call 73; go_must (refine (H73.out _ HKa.out).mono ?_; rintro e w4 ⟨rfl, hk5⟩)
       have Hb2 := Lib.hid (hk5.blk Hb2.out id)
       have Hb3 := Lib.hid (hk5.blk Hb3.out id)
       have Hb4 := Lib.hid (hk5.blk Hb4.out id)
       have HKa := Lib.hid (HKa.out.trans hk5 (fun _ _ h => h))
       have Hr4 := Lib.hid (H.out.keep HKa.out id)
       clear c2 hk5
       have c2 := (blk_cell Hb2.out 0).trans rfl
       (try simp only [PU]))
    | (go_at_call 76; go_must (refine (H76.out _ HKa.out).mono ?_; rintro e w5 ⟨rfl, hk6⟩)
       have Hb2 := Lib.hid (hk6.blk Hb2.out id)
       have Hb3 := Lib.hid (hk6.blk Hb3.out id)
       have Hb4 := Lib.hid (hk6.blk Hb4.out id)
       have HKa := Lib.hid (HKa.out.trans hk6 (fun _ _ h => h))
       have Hr4 := Lib.hid (H.out.keep HKa.out id)
       clear c2 hk6
       have c2 := (blk_cell Hb2.out 0).trans rfl
       (try simp only [PU]))
    | (go_at_call 75; go_must (have hc := str75 Hr4.out; rw [Hw.out] at hc; refine hc.mono ?_; rintro e w6 ⟨rfl, hk6⟩); have HK6 := Lib.hid ((HKa.out.any (M := (· = r))).trans hk6 (fun _ _ h => h)); clear hk6; unfold stopAt; (try simp only [PU]))
   )
   exact ⟨rfl, rfl, HK6.out⟩
 · have Hw := Lib.hid hw
   have hv : valueF (f + 1) dp (34 :: q) = .ok (.mk 4 false 0 (mkB t) [] [], r1) := by unfold valueF; simp [hw]
   rw [hv]
   clear hw hv
   generalize hmt : mkB t = mt
   have Hmt := Lib.hid hmt
   clear hmt
   go_enter Tryd.func46, Tryd.ntmps46
   go_wp2_with (first
    | ((with_reducible refine at_dst (N := 2) rfl ?_); go_must (refine ev_box (cs := #[.pointer (some ⟨r, 0, none⟩)]) rfl rfl rfl ?_; intro g2 w1 hg2 hl2 hb2 hk2)
       have Hb2 := Lib.hid hb2
       have HKa := Lib.hid hk2
       clear hb2 hk2
       (try simp only [PU]))
    | ((with_reducible refine at_dst (N := 3) rfl ?_); go_must (refine ev_box (cs := #[.int .i64 deep]) rfl rfl rfl ?_; intro g3 w2 hg3 hl3 hb3 hk3)
       have Hb2 := Lib.hid (hk3.blk Hb2.out id)
       have Hb3 := Lib.hid hb3
       have HKa := Lib.hid (HKa.out.trans hk3 (fun _ _ h => h))
       clear hb3 hk3
       (try simp only [PU]))
    | ((with_reducible refine at_dst (N := 4) rfl ?_); go_must (refine ev_alloc rfl rfl zero25 rfl ?_; intro g4 w3 hg4 hl4 hb4 hk4)
       have Hb2 := Lib.hid (hk4.blk Hb2.out id)
       have Hb3 := Lib.hid (hk4.blk Hb3.out id)
       have Hb4 := Lib.hid hb4
       have Hg4 := Lib.hid (show w.heap.size ≤ g4 from Nat.le_trans HKa.out.size hg4)
       have HKa := Lib.hid (HKa.out.trans hk4 (fun _ _ h => h))
       have c2 := (blk_cell Hb2.out 0).trans rfl
       clear hb4 hk4
       (try simp only [PU]))
    | (go_at_call 73; go_must (refine (H73.out _ HKa.out).mono ?_; rintro e w4 ⟨rfl, hk5⟩)
       have Hb2 := Lib.hid (hk5.blk Hb2.out id)
       have Hb3 := Lib.hid (hk5.blk Hb3.out id)
       have Hb4 := Lib.hid (hk5.blk Hb4.out id)
       have HKa := Lib.hid (HKa.out.trans hk5 (fun _ _ h => h))
       have Hr4 := Lib.hid (H.out.keep HKa.out id)
       clear c2 hk5
       have c2 := (blk_cell Hb2.out 0).trans rfl
       (try simp only [PU]))
    | (go_at_call 76; go_must (refine (H76.out _ HKa.out).mono ?_; rintro e w5 ⟨rfl, hk6⟩)
       have Hb2 := Lib.hid (hk6.blk Hb2.out id)
       have Hb3 := Lib.hid (hk6.blk Hb3.out id)
       have Hb4 := Lib.hid (hk6.blk Hb4.out id)
       have HKa := Lib.hid (HKa.out.trans hk6 (fun _ _ h => h))
       have Hr4 := Lib.hid (H.out.keep HKa.out id)
       clear c2 hk6
       have c2 := (blk_cell Hb2.out 0).trans rfl
       (try simp only [PU]))
    | (go_at_call 75; go_must (have hc := str75 Hr4.out; rw [Hw.out] at hc; refine hc.mono ?_; rintro e w6 ⟨rfl, hr6, hk6⟩)
       simp only [Hmt.out]
       have HK6 := Lib.hid ((HKa.out.any (M := (· = r))).trans hk6 (fun _ _ h => h))
       have Hr6 := Lib.hid hr6
       have Hb6 := Lib.hid (hk6.blk Hb4.out (fun e : g4 = r => by have := Hg4.out; have := H.out.lt; omega))
       clear hk6 hr6
       (try simp only [PU]))
    | ((with_reducible refine at_store (t := 25) (p := 4) rfl ?_); go_must (refine ev_store (cs' := #[.int .i64 4, .bool false, .int .i64 0, .string mt, .slice none 0 0, .slice none 0 0]) rfl rfl rfl rfl rfl rfl HI.out.1 HI.out.2 rfl Hb6.out (Nat.le_of_ble_eq_true rfl) rfl ?_; intro w7 hb7 hk7)
       have HK7 := Lib.hid hk7
       have s0 := (blk_cell hb7 0).trans rfl
       have s1 := (blk_cell hb7 1).trans rfl
       have s2 := (blk_cell hb7 2).trans rfl
       have s3 := (blk_cell hb7 3).trans rfl
       have s4 := (blk_cell hb7 4).trans rfl
       have s5 := (blk_cell hb7 5).trans rfl
       clear hb7 hk7
       (try simp only [PU]))
   )
   refine bodyPost_ret (v := .agg #[.int .i64 4, .bool false, .int .i64 0, .string mt, .slice none 0 0, .slice none 0 0]) (by rw [results_cell1 rfl]; go_simp) rfl ?_
   exact ⟨⟨_, rfl, plainJX _ _ _ _ _ _⟩, Hr6.out.keep HK7.out (fun e : r = g4 => by have := Hg4.out; have := H.out.lt; omega), HK6.out.trans HK7.out (fun i hi e => by have := Hg4.out; omega)⟩
set_option maxHeartbeats 2000000 in
theorem valueInt {w : World} {r : Nat} {T : ByteArray} {c : UInt8} {q : Bs} (h : Rd w r T (c :: q)) (hc : c = 45 ∨ isDigit c = true) (f dp : Nat) (deep : Int) : Calls Tryd.prog 46 #[.pointer (some ⟨r, 0, none⟩), .int .i64 deep] w (ValOut w r T (valueF (f + 1) dp (c :: q))) := by
 have hv0 : valueF (f + 1) dp (c :: q) = (match intB (c :: q) with | .ok x => .ok (.mk 3 false x.1 ByteArray.empty [] [], x.2) | .error e => .error e) := by
  have hr : c ≠ 110 ∧ c ≠ 116 ∧ c ≠ 102 ∧ c ≠ 34 := by
   rcases hc with rfl | hd
   · decide
   · refine ⟨?_, ?_, ?_, ?_⟩ <;> (rintro rfl; revert hd; decide)
  unfold valueF
  simp only [if_neg hr.1, if_neg hr.2.1, if_neg hr.2.2.1, if_neg hr.2.2.2, if_pos hc]
  rcases intB (c :: q) with e | ⟨n, r1⟩ <;> rfl
 rw [hv0]
 obtain ⟨i25, hi25, hs25⟩ := info25
 have HI := Lib.hid (And.intro hi25 hs25)
 have H := Lib.hid h
 have H73 := Lib.hid (fun W (hk : Keeps Nob w W) => next73 (h.keep hk id))
 have H76 := Lib.hid (fun W (hk : Keeps Nob w W) => digit76 (h.keep hk id))
 clear hi25 hs25
 have hrange : (c.toNat : Int) = 45 ∨ (48 ≤ (c.toNat : Int) ∧ (c.toNat : Int) ≤ 57) := by
  rcases hc with rfl | hd
  · exact .inl rfl
  · have := dig_int c hd; exact .inr ⟨this.1, this.2.1⟩
 have hdig : c ≠ 45 → startsDigit (c :: q) = true := fun hn => hc.elim (fun h => absurd h hn) (fun h => h)
 obtain ⟨cv, hcv⟩ : ∃ x, headN (c :: q) = x := ⟨_, rfl⟩
 have hcv' : (c.toNat : Int) = cv := hcv
 rw [hcv] at H73
 rw [hcv'] at hrange
 have n1 : (cv == 110) = false := beq_eq_false_iff_ne.2 (by omega)
 have n2 : (cv == 116) = false := beq_eq_false_iff_ne.2 (by omega)
 have n3 : (cv == 102) = false := beq_eq_false_iff_ne.2 (by omega)
 have n4 : (cv == 34) = false := beq_eq_false_iff_ne.2 (by omega)
 by_cases h45 : c = 45
 · have e45 : cv = 45 := by rw [← hcv', h45]; rfl
   subst e45
   clear hcv hcv' hv0 h hc hrange hdig n1 n2 n3 n4 H76
   rcases hw : intB (c :: q) with m | ⟨n, r1⟩
   · have Hw := Lib.hid hw
     clear hw h45
     go_enter Tryd.func46, Tryd.ntmps46
     go_wp2_with (first
      | ((with_reducible refine at_dst (N := 2) rfl ?_); go_must (refine ev_box (cs := #[.pointer (some ⟨r, 0, none⟩)]) rfl rfl rfl ?_; intro g2 w1 hg2 hl2 hb2 hk2)
         have Hb2 := Lib.hid hb2
         have HKa := Lib.hid hk2
         clear hb2 hk2
         (try simp only [PU]))
      | ((with_reducible refine at_dst (N := 3) rfl ?_); go_must (refine ev_box (cs := #[.int .i64 deep]) rfl rfl rfl ?_; intro g3 w2 hg3 hl3 hb3 hk3)
         have Hb2 := Lib.hid (hk3.blk Hb2.out id)
         have Hb3 := Lib.hid hb3
         have HKa := Lib.hid (HKa.out.trans hk3 (fun _ _ h => h))
         clear hb3 hk3
         (try simp only [PU]))
      | ((with_reducible refine at_dst (N := 4) rfl ?_); go_must (refine ev_alloc rfl rfl zero25 rfl ?_; intro g4 w3 hg4 hl4 hb4 hk4)
         have Hb2 := Lib.hid (hk4.blk Hb2.out id)
         have Hb3 := Lib.hid (hk4.blk Hb3.out id)
         have Hb4 := Lib.hid hb4
         have Hg4 := Lib.hid (show w.heap.size ≤ g4 from Nat.le_trans HKa.out.size hg4)
         have HKa := Lib.hid (HKa.out.trans hk4 (fun _ _ h => h))
         have c2 := (blk_cell Hb2.out 0).trans rfl
         clear hb4 hk4
         (try simp only [PU]))
      | (go_at_call 73; go_must (refine (H73.out _ HKa.out).mono ?_; rintro e w4 ⟨rfl, hk5⟩)
         have Hb2 := Lib.hid (hk5.blk Hb2.out id)
         have Hb3 := Lib.hid (hk5.blk Hb3.out id)
         have Hb4 := Lib.hid (hk5.blk Hb4.out id)
         have HKa := Lib.hid (HKa.out.trans hk5 (fun _ _ h => h))
         have Hr4 := Lib.hid (H.out.keep HKa.out id)
         clear c2 hk5
         have c2 := (blk_cell Hb2.out 0).trans rfl
         (try simp only [PU]))
      | (go_at_call 76; go_must (refine (H76.out _ HKa.out).mono ?_; rintro e w5 ⟨rfl, hk6⟩)
         have Hb2 := Lib.hid (hk6.blk Hb2.out id)
         have Hb3 := Lib.hid (hk6.blk Hb3.out id)
         have Hb4 := Lib.hid (hk6.blk Hb4.out id)
         have HKa := Lib.hid (HKa.out.trans hk6 (fun _ _ h => h))
         have Hr4 := Lib.hid (H.out.keep HKa.out id)
         clear c2 hk6
         have c2 := (blk_cell Hb2.out 0).trans rfl
         (try simp only [PU]))
      | (go_at_call 77; go_must (have hc := int77 Hr4.out; rw [Hw.out] at hc; refine hc.mono ?_; rintro e w6 ⟨rfl, hk6⟩); have HK6 := Lib.hid ((HKa.out.any (M := (· = r))).trans hk6 (fun _ _ h => h)); clear hk6; unfold stopAt; (try simp only [PU]))
     )
     exact ⟨rfl, rfl, HK6.out⟩
   · have Hw := Lib.hid hw
     clear hw h45
     go_enter Tryd.func46, Tryd.ntmps46
     go_wp2_with (first
      | ((with_reducible refine at_dst (N := 2) rfl ?_); go_must (refine ev_box (cs := #[.pointer (some ⟨r, 0, none⟩)]) rfl rfl rfl ?_; intro g2 w1 hg2 hl2 hb2 hk2)
         have Hb2 := Lib.hid hb2
         have HKa := Lib.hid hk2
         clear hb2 hk2
         (try simp only [PU]))
      | ((with_reducible refine at_dst (N := 3) rfl ?_); go_must (refine ev_box (cs := #[.int .i64 deep]) rfl rfl rfl ?_; intro g3 w2 hg3 hl3 hb3 hk3)
         have Hb2 := Lib.hid (hk3.blk Hb2.out id)
         have Hb3 := Lib.hid hb3
         have HKa := Lib.hid (HKa.out.trans hk3 (fun _ _ h => h))
         clear hb3 hk3
         (try simp only [PU]))
      | ((with_reducible refine at_dst (N := 4) rfl ?_); go_must (refine ev_alloc rfl rfl zero25 rfl ?_; intro g4 w3 hg4 hl4 hb4 hk4)
         have Hb2 := Lib.hid (hk4.blk Hb2.out id)
         have Hb3 := Lib.hid (hk4.blk Hb3.out id)
         have Hb4 := Lib.hid hb4
         have Hg4 := Lib.hid (show w.heap.size ≤ g4 from Nat.le_trans HKa.out.size hg4)
         have HKa := Lib.hid (HKa.out.trans hk4 (fun _ _ h => h))
         have c2 := (blk_cell Hb2.out 0).trans rfl
         clear hb4 hk4
         (try simp only [PU]))
      | (go_at_call 73; go_must (refine (H73.out _ HKa.out).mono ?_; rintro e w4 ⟨rfl, hk5⟩)
         have Hb2 := Lib.hid (hk5.blk Hb2.out id)
         have Hb3 := Lib.hid (hk5.blk Hb3.out id)
         have Hb4 := Lib.hid (hk5.blk Hb4.out id)
         have HKa := Lib.hid (HKa.out.trans hk5 (fun _ _ h => h))
         have Hr4 := Lib.hid (H.out.keep HKa.out id)
         clear c2 hk5
         have c2 := (blk_cell Hb2.out 0).trans rfl
         (try simp only [PU]))
      | (go_at_call 76; go_must (refine (H76.out _ HKa.out).mono ?_; rintro e w5 ⟨rfl, hk6⟩)
         have Hb2 := Lib.hid (hk6.blk Hb2.out id)
         have Hb3 := Lib.hid (hk6.blk Hb3.out id)
         have Hb4 := Lib.hid (hk6.blk Hb4.out id)
         have HKa := Lib.hid (HKa.out.trans hk6 (fun _ _ h => h))
         have Hr4 := Lib.hid (H.out.keep HKa.out id)
         clear c2 hk6
         have c2 := (blk_cell Hb2.out 0).trans rfl
         (try simp only [PU]))
      | (go_at_call 77; go_must (have hc := int77 Hr4.out; rw [Hw.out] at hc; refine hc.mono ?_; rintro e w6 ⟨rfl, hr6, hk6⟩)
         have HK6 := Lib.hid ((HKa.out.any (M := (· = r))).trans hk6 (fun _ _ h => h))
         have Hr6 := Lib.hid hr6
         have Hb6 := Lib.hid (hk6.blk Hb4.out (fun e : g4 = r => by have := Hg4.out; have := H.out.lt; omega))
         clear hk6 hr6
         (try simp only [PU]))
      | ((with_reducible refine at_store (t := 25) (p := 4) rfl ?_); go_must (refine ev_store (cs' := #[.int .i64 3, .bool false, .int .i64 n, .string ByteArray.empty, .slice none 0 0, .slice none 0 0]) rfl rfl rfl rfl rfl rfl HI.out.1 HI.out.2 rfl Hb6.out (Nat.le_of_ble_eq_true rfl) rfl ?_; intro w7 hb7 hk7)
         have HK7 := Lib.hid hk7
         have s0 := (blk_cell hb7 0).trans rfl
         have s1 := (blk_cell hb7 1).trans rfl
         have s2 := (blk_cell hb7 2).trans rfl
         have s3 := (blk_cell hb7 3).trans rfl
         have s4 := (blk_cell hb7 4).trans rfl
         have s5 := (blk_cell hb7 5).trans rfl
         clear hb7 hk7
         (try simp only [PU]))
     )
     refine bodyPost_ret (v := .agg #[.int .i64 3, .bool false, .int .i64 n, .string ByteArray.empty, .slice none 0 0, .slice none 0 0]) (by rw [results_cell1 rfl]; go_simp) rfl ?_
     exact ⟨⟨_, rfl, plainJX _ _ _ _ _ _⟩, Hr6.out.keep HK7.out (fun e : r = g4 => by have := Hg4.out; have := H.out.lt; omega), HK6.out.trans HK7.out (fun i hi e => by have := Hg4.out; omega)⟩
 · have n5 : (cv == 45) = false := beq_eq_false_iff_ne.2 (fun e => h45 (UInt8.toNat_inj.1 (by show c.toNat = 45; omega)))
   rw [hdig h45] at H76
   clear hcv hcv' hv0 h hc hdig h45 hrange
   rcases hw : intB (c :: q) with m | ⟨n, r1⟩
   · have Hw := Lib.hid hw
     clear hw
     go_enter Tryd.func46, Tryd.ntmps46
     go_wp2_with (first
      | ((with_reducible refine at_dst (N := 2) rfl ?_); go_must (refine ev_box (cs := #[.pointer (some ⟨r, 0, none⟩)]) rfl rfl rfl ?_; intro g2 w1 hg2 hl2 hb2 hk2)
         have Hb2 := Lib.hid hb2
         have HKa := Lib.hid hk2
         clear hb2 hk2
         (try simp only [PU]))
      | ((with_reducible refine at_dst (N := 3) rfl ?_); go_must (refine ev_box (cs := #[.int .i64 deep]) rfl rfl rfl ?_; intro g3 w2 hg3 hl3 hb3 hk3)
         have Hb2 := Lib.hid (hk3.blk Hb2.out id)
         have Hb3 := Lib.hid hb3
         have HKa := Lib.hid (HKa.out.trans hk3 (fun _ _ h => h))
         clear hb3 hk3
         (try simp only [PU]))
      | ((with_reducible refine at_dst (N := 4) rfl ?_); go_must (refine ev_alloc rfl rfl zero25 rfl ?_; intro g4 w3 hg4 hl4 hb4 hk4)
         have Hb2 := Lib.hid (hk4.blk Hb2.out id)
         have Hb3 := Lib.hid (hk4.blk Hb3.out id)
         have Hb4 := Lib.hid hb4
         have Hg4 := Lib.hid (show w.heap.size ≤ g4 from Nat.le_trans HKa.out.size hg4)
         have HKa := Lib.hid (HKa.out.trans hk4 (fun _ _ h => h))
         have c2 := (blk_cell Hb2.out 0).trans rfl
         clear hb4 hk4
         (try simp only [PU]))
      | (go_at_call 73; go_must (refine (H73.out _ HKa.out).mono ?_; rintro e w4 ⟨rfl, hk5⟩)
         have Hb2 := Lib.hid (hk5.blk Hb2.out id)
         have Hb3 := Lib.hid (hk5.blk Hb3.out id)
         have Hb4 := Lib.hid (hk5.blk Hb4.out id)
         have HKa := Lib.hid (HKa.out.trans hk5 (fun _ _ h => h))
         have Hr4 := Lib.hid (H.out.keep HKa.out id)
         clear c2 hk5
         have c2 := (blk_cell Hb2.out 0).trans rfl
         (try simp only [PU]))
      | (go_at_call 76; go_must (refine (H76.out _ HKa.out).mono ?_; rintro e w5 ⟨rfl, hk6⟩)
         have Hb2 := Lib.hid (hk6.blk Hb2.out id)
         have Hb3 := Lib.hid (hk6.blk Hb3.out id)
         have Hb4 := Lib.hid (hk6.blk Hb4.out id)
         have HKa := Lib.hid (HKa.out.trans hk6 (fun _ _ h => h))
         have Hr4 := Lib.hid (H.out.keep HKa.out id)
         clear c2 hk6
         have c2 := (blk_cell Hb2.out 0).trans rfl
         (try simp only [PU]))
      | (go_at_call 77; go_must (have hc := int77 Hr4.out; rw [Hw.out] at hc; refine hc.mono ?_; rintro e w6 ⟨rfl, hk6⟩); have HK6 := Lib.hid ((HKa.out.any (M := (· = r))).trans hk6 (fun _ _ h => h)); clear hk6; unfold stopAt; (try simp only [PU]))
     )
     exact ⟨rfl, rfl, HK6.out⟩
   · have Hw := Lib.hid hw
     clear hw
     go_enter Tryd.func46, Tryd.ntmps46
     go_wp2_with (first
      | ((with_reducible refine at_dst (N := 2) rfl ?_); go_must (refine ev_box (cs := #[.pointer (some ⟨r, 0, none⟩)]) rfl rfl rfl ?_; intro g2 w1 hg2 hl2 hb2 hk2)
         have Hb2 := Lib.hid hb2
         have HKa := Lib.hid hk2
         clear hb2 hk2
         (try simp only [PU]))
      | ((with_reducible refine at_dst (N := 3) rfl ?_); go_must (refine ev_box (cs := #[.int .i64 deep]) rfl rfl rfl ?_; intro g3 w2 hg3 hl3 hb3 hk3)
         have Hb2 := Lib.hid (hk3.blk Hb2.out id)
         have Hb3 := Lib.hid hb3
         have HKa := Lib.hid (HKa.out.trans hk3 (fun _ _ h => h))
         clear hb3 hk3
         (try simp only [PU]))
      | ((with_reducible refine at_dst (N := 4) rfl ?_); go_must (refine ev_alloc rfl rfl zero25 rfl ?_; intro g4 w3 hg4 hl4 hb4 hk4)
         have Hb2 := Lib.hid (hk4.blk Hb2.out id)
         have Hb3 := Lib.hid (hk4.blk Hb3.out id)
         have Hb4 := Lib.hid hb4
         have Hg4 := Lib.hid (show w.heap.size ≤ g4 from Nat.le_trans HKa.out.size hg4)
         have HKa := Lib.hid (HKa.out.trans hk4 (fun _ _ h => h))
         have c2 := (blk_cell Hb2.out 0).trans rfl
         clear hb4 hk4
         (try simp only [PU]))
      | (go_at_call 73; go_must (refine (H73.out _ HKa.out).mono ?_; rintro e w4 ⟨rfl, hk5⟩)
         have Hb2 := Lib.hid (hk5.blk Hb2.out id)
         have Hb3 := Lib.hid (hk5.blk Hb3.out id)
         have Hb4 := Lib.hid (hk5.blk Hb4.out id)
         have HKa := Lib.hid (HKa.out.trans hk5 (fun _ _ h => h))
         have Hr4 := Lib.hid (H.out.keep HKa.out id)
         clear c2 hk5
         have c2 := (blk_cell Hb2.out 0).trans rfl
         (try simp only [PU]))
      | (go_at_call 76; go_must (refine (H76.out _ HKa.out).mono ?_; rintro e w5 ⟨rfl, hk6⟩)
         have Hb2 := Lib.hid (hk6.blk Hb2.out id)
         have Hb3 := Lib.hid (hk6.blk Hb3.out id)
         have Hb4 := Lib.hid (hk6.blk Hb4.out id)
         have HKa := Lib.hid (HKa.out.trans hk6 (fun _ _ h => h))
         have Hr4 := Lib.hid (H.out.keep HKa.out id)
         clear c2 hk6
         have c2 := (blk_cell Hb2.out 0).trans rfl
         (try simp only [PU]))
      | (go_at_call 77; go_must (have hc := int77 Hr4.out; rw [Hw.out] at hc; refine hc.mono ?_; rintro e w6 ⟨rfl, hr6, hk6⟩)
         have HK6 := Lib.hid ((HKa.out.any (M := (· = r))).trans hk6 (fun _ _ h => h))
         have Hr6 := Lib.hid hr6
         have Hb6 := Lib.hid (hk6.blk Hb4.out (fun e : g4 = r => by have := Hg4.out; have := H.out.lt; omega))
         clear hk6 hr6
         (try simp only [PU]))
      | ((with_reducible refine at_store (t := 25) (p := 4) rfl ?_); go_must (refine ev_store (cs' := #[.int .i64 3, .bool false, .int .i64 n, .string ByteArray.empty, .slice none 0 0, .slice none 0 0]) rfl rfl rfl rfl rfl rfl HI.out.1 HI.out.2 rfl Hb6.out (Nat.le_of_ble_eq_true rfl) rfl ?_; intro w7 hb7 hk7)
         have HK7 := Lib.hid hk7
         have s0 := (blk_cell hb7 0).trans rfl
         have s1 := (blk_cell hb7 1).trans rfl
         have s2 := (blk_cell hb7 2).trans rfl
         have s3 := (blk_cell hb7 3).trans rfl
         have s4 := (blk_cell hb7 4).trans rfl
         have s5 := (blk_cell hb7 5).trans rfl
         clear hb7 hk7
         (try simp only [PU]))
     )
     refine bodyPost_ret (v := .agg #[.int .i64 3, .bool false, .int .i64 n, .string ByteArray.empty, .slice none 0 0, .slice none 0 0]) (by rw [results_cell1 rfl]; go_simp) rfl ?_
     exact ⟨⟨_, rfl, plainJX _ _ _ _ _ _⟩, Hr6.out.keep HK7.out (fun e : r = g4 => by have := Hg4.out; have := H.out.lt; omega), HK6.out.trans HK7.out (fun i hi e => by have := Hg4.out; omega)⟩
end Go.Proofs.WV

namespace Go.Proofs.WV
open Go.RowKit Go.Proofs.KL Go.Proofs.WM
set_option maxRecDepth 100000
set_option linter.unusedSimpArgs false
set_option linter.unusedVariables false

set_option maxHeartbeats 2000000 in
theorem valueBad {w : World} {r : Nat} {T : ByteArray} {s : Bs} (h : Rd w r T s) (hn : ∀ k : Nat, k ∈ [110, 116, 102, 34, 45, 91, 123] → headN s ≠ (k : Int)) (hd : startsDigit s = false) (deep : Int) : Calls Tryd.prog 46 #[.pointer (some ⟨r, 0, none⟩), .int .i64 deep] w (ValOut w r T (.error s.length)) := by
 have H := Lib.hid h
 have H73 := Lib.hid (fun W (hk : Keeps Nob w W) => next73 (h.keep hk id))
 have H76 := Lib.hid (fun W (hk : Keeps Nob w W) => digit76 (h.keep hk id))
 have Hfail := Lib.hid (fun W (hk : Keeps Nob w W) => fail47 (h.keep hk id) s.length h.le)
 rw [hd] at H76
 obtain ⟨cv, hcv⟩ : ∃ x, headN s = x := ⟨_, rfl⟩
 rw [hcv] at H73 hn
 have n1 : (cv == 110) = false := beq_eq_false_iff_ne.2 (hn 110 (by decide))
 have n2 : (cv == 116) = false := beq_eq_false_iff_ne.2 (hn 116 (by decide))
 have n3 : (cv == 102) = false := beq_eq_false_iff_ne.2 (hn 102 (by decide))
 have n4 : (cv == 34) = false := beq_eq_false_iff_ne.2 (hn 34 (by decide))
 have n5 : (cv == 45) = false := beq_eq_false_iff_ne.2 (hn 45 (by decide))
 have n6 : (cv == 91) = false := beq_eq_false_iff_ne.2 (hn 91 (by decide))
 have n7 : (cv == 123) = false := beq_eq_false_iff_ne.2 (hn 123 (by decide))
 obtain ⟨n, hnn⟩ : ∃ x, s.length = x := ⟨_, rfl⟩
 have Hn := Lib.hid hnn
 rw [hnn] at Hfail ⊢
 clear h hn hd hcv hnn
 go_enter Tryd.func46, Tryd.ntmps46
 go_wp2_with (first
  | ((with_reducible refine at_dst (N := 2) rfl ?_); go_must (refine ev_box (cs := #[.pointer (some ⟨r, 0, none⟩)]) rfl rfl rfl ?_; intro g2 w1 hg2 hl2 hb2 hk2)
     have Hb2 := Lib.hid hb2
     have HKa := Lib.hid hk2
     clear hb2 hk2
     (try simp only [PU]))
  | ((with_reducible refine at_dst (N := 3) rfl ?_); go_must (refine ev_box (cs := #[.int .i64 deep]) rfl rfl rfl ?_; intro g3 w2 hg3 hl3 hb3 hk3)
     have Hb2 := Lib.hid (hk3.blk Hb2.out id)
     have Hb3 := Lib.hid hb3
     have HKa := Lib.hid (HKa.out.trans hk3 (fun _ _ h => h))
     clear hb3 hk3
     (try simp only [PU]))
  | ((with_reducible refine at_dst (N := 4) rfl ?_); go_must (refine ev_alloc rfl rfl zero25 rfl ?_; intro g4 w3 hg4 hl4 hb4 hk4)
     have Hb2 := Lib.hid (hk4.blk Hb2.out id)
     have Hb3 := Lib.hid (hk4.blk Hb3.out id)
     have Hb4 := Lib.hid hb4
     have Hg4 := Lib.hid (show w.heap.size ≤ g4 from Nat.le_trans HKa.out.size hg4)
     have HKa := Lib.hid (HKa.out.trans hk4 (fun _ _ h => h))
     have c2 := (blk_cell Hb2.out 0).trans rfl
     clear hb4 hk4
     (try simp only [PU]))
  | (go_at_call 73; go_must (refine (H73.out _ HKa.out).mono ?_; rintro e w4 ⟨rfl, hk5⟩)
     have Hb2 := Lib.hid (hk5.blk Hb2.out id)
     have Hb3 := Lib.hid (hk5.blk Hb3.out id)
     have Hb4 := Lib.hid (hk5.blk Hb4.out id)
     have HKa := Lib.hid (HKa.out.trans hk5 (fun _ _ h => h))
     have Hr4 := Lib.hid (H.out.keep HKa.out id)
     clear c2 hk5
     have c2 := (blk_cell Hb2.out 0).trans rfl
     (try simp only [PU]))
  | (go_at_call 76; go_must (refine (H76.out _ HKa.out).mono ?_; rintro e w5 ⟨rfl, hk6⟩)
     have Hb2 := Lib.hid (hk6.blk Hb2.out id)
     have Hb3 := Lib.hid (hk6.blk Hb3.out id)
     have Hb4 := Lib.hid (hk6.blk Hb4.out id)
     have HKa := Lib.hid (HKa.out.trans hk6 (fun _ _ h => h))
     have Hr4 := Lib.hid (H.out.keep HKa.out id)
     clear c2 hk6
     have c2 := (blk_cell Hb2.out 0).trans rfl
     (try simp only [PU]))
 )
 have q1 := (blk_cell Hr4.out.blk 1).trans rfl
 rw [Hn.out] at q1
 refine wp_region_perm [(0, true), (1, true), (2, true), (3, true), (4, true), (5, false)] (fun w' => w'.cell? ⟨g2, 0, none⟩ = some (.pointer (some ⟨r, 0, none⟩)) ∧ w'.cell? ⟨r, 1, none⟩ = some (.int .i64 (T.size - n : Nat))) rfl (by kernel_rfl) (by kernel_rfl) (by decide) (fun c a d v w h => by cases d <;> exact h) ⟨c2, q1⟩ ?_
 refine pq (some 57) ?_; (try simp only [PU])
 refine pq (some 58) ?_; (try simp only [PU])
 refine pq (some 59) ?_; (try simp only [PU])
 refine pq (some 60) ?_; (try simp only [PU])
 refine pq (some 61) ?_; (try simp only [PU])
 refine perm_e rfl ?_
 go_wp2_with (go_at_call 47; go_must (refine (Hfail.out _ (HKa.out.then (Keeps.refl Nob _).drew)).mono ?_; rintro e w7 ⟨rfl, rfl⟩); unfold stopAt)
 exact ⟨rfl, rfl, (HKa.out.any (M := (· = r))).then (Keeps.refl Nob _).drew⟩
end Go.Proofs.WV

namespace Go.Proofs.WV
open Go.RowKit Go.Proofs.KL Go.Proofs.WM
set_option maxRecDepth 100000
set_option linter.unusedSimpArgs false
set_option linter.unusedVariables false

def stepI (dp : Nat) : Nat → List J → Bs → R (List J) := fun f acc s => addR acc (innerF f dp s)
theorem items_list (dp : Nat) : ∀ (f : Nat) (acc : List J) (r : Bs), itemsF f dp acc r = listF 93 (stepI dp) f acc r
 | 0, _, _ => by unfold itemsF listF; rfl
 | f + 1, acc, r => by
   unfold itemsF listF stepI
   rcases innerF f dp r with e | ⟨v, r1⟩
   · rfl
   · simp only [addR]
     rcases moreB 93 r1 with r2 | r2 | e
     · rfl
     · exact items_list dp f _ _
     · rfl
def arrR : R (List J) → R J
 | .ok x => .ok (.mk 5 false 0 ByteArray.empty [] x.1, x.2)
 | .error e => .error e
theorem value_list (f dp : Nat) (q : Bs) : valueF (f + 1) dp (91 :: q) = arrR (openL 93 (stepI dp) f [] q) := by
 unfold valueF openL
 rw [if_neg (by decide), if_neg (by decide), if_neg (by decide), if_neg (by decide), if_neg (by decide), if_pos rfl]
 rcases openB 93 q with _ | r
 · simp only [items_list]
   rcases listF 93 (stepI dp) f [] (blanksB q) with e | ⟨v, r1⟩ <;> rfl
 · rfl
theorem stepI_len {dp f : Nat} {acc acc' : List J} {s s' : Bs} (h : stepI dp f acc s = .ok (acc', s')) : s'.length ≤ s.length ∧ acc'.length + s'.length ≤ acc.length + s.length := by
 unfold stepI at h
 rcases hi : innerF f dp s with e | ⟨v, r1⟩
 · rw [hi] at h; cases h
 · rw [hi] at h
   simp only [addR, Except.ok.injEq, Prod.mk.injEq] at h
   obtain ⟨rfl, rfl⟩ := h
   have := ((read_ok f).2.1 dp s v r1 hi).2.1
   simp only [List.length_append, List.length_cons, List.length_nil]
   omega
set_option maxHeartbeats 2000000 in
theorem valueList {w : World} {r : Nat} {T : ByteArray} {q : Bs} (h : Rd w r T (91 :: q)) (f dp : Nat) (hf : 3 * (blanksB q).length + 3 ≤ f)
  (hin : ∀ f' s W', s.length ≤ q.length → 3 * s.length + 2 ≤ f' → Rd W' r T s → Calls Tryd.prog 80 #[.pointer (some ⟨r, 0, none⟩), .int .i64 dp] W' (ValOut W' r T (innerF f' dp s))) :
  Calls Tryd.prog 46 #[.pointer (some ⟨r, 0, none⟩), .int .i64 dp] w (ValOut w r T (valueF (f + 1) dp (91 :: q))) := by
 obtain ⟨i25, hi25, hs25⟩ := info25
 have HI := Lib.hid (And.intro hi25 hs25)
 have H := Lib.hid h
 have H73 := Lib.hid (fun W (hk : Keeps Nob w W) => next73 (h.keep hk id))
 have H76 := Lib.hid (fun W (hk : Keeps Nob w W) => digit76 (h.keep hk id))
 have hhd : headN (91 :: q) = 91 := rfl
 have hsd : startsDigit (91 :: q) = false := by show isDigit 91 = false; decide
 rw [hhd] at H73
 rw [hsd] at H76
 rw [value_list]
 have hq : q.length ≤ 1000000 := by have := h.le; have := h.len; simp only [List.length_cons] at *; omega
 have HL := Lib.hid (fun (W : World) (g2 g3 g6 : Nat) (hr : Rd W r T (91 :: q)) (hb : g6 ≤ W.heap.size) (hg : w.heap.size ≤ g2 ∧ w.heap.size ≤ g3 ∧ w.heap.size ≤ g6)
   (hI : ItemsInv r g2 g3 g6 g6 dp (.int .i64 5) (.bool false) (.int .i64 0) (.string ByteArray.empty) (.slice none 0 0) [] W) =>
  list78v hr g6 ⟨Nat.lt_of_lt_of_le h.lt hg.2.2, hb⟩ 93 g6 g2 g3 (stepI dp) (ItemsInv r g2 g3 g6 g6 dp (.int .i64 5) (.bool false) (.int .i64 0) (.string ByteArray.empty) (.slice none 0 0))
   (fun x W1 W2 hi hk => by
     obtain ⟨a1, a2, vv, a3, a4⟩ := hi
     have hl := h.lt
     exact ⟨hk.blk a1 (fun e : g2 = r => by omega), hk.blk a2 (fun e : g3 = r => by omega), vv, hk.blk a3 (fun e : g6 = r => by omega), a4.keep hk (fun b _ e => .inl (by rw [e]; exact Nat.lt_of_lt_of_le hl hg.2.2))⟩)
   (fun f x s x' s' hs => (stepI_len hs).1) List.length q.length (fun f x s x' s' hs => (stepI_len hs).2)
   (fun f' x s W1 hf' hB hr1 hi1 hk1 => by
     have hl := h.lt
     have hsz := hk1.size
     have hd : r < g6 ∧ ¬ g2 = r ∧ ¬ g3 = r ∧ g6 ≤ g6 ∧ g6 ≤ W1.heap.size := ⟨by omega, by omega, by omega, Nat.le_refl _, by omega⟩
     have hc := fun W' (hr' : Rd W' r T s) => hin f' s W' (by omega) hf' hr'
     unfold stepI
     rcases hres : innerF f' dp s with m | ⟨v, r1⟩
     · rw [hres] at hc
       exact part79e hr1 hi1 hd (by omega) hc
     · rw [hres] at hc
       exact part79o hr1 hi1 hd (by omega) hc)
   f hf [] hI (by simp))
 obtain ⟨R0, hR0⟩ : ∃ x, openL 93 (stepI dp) f [] q = x := ⟨_, rfl⟩
 rw [hR0] at HL ⊢
 clear h hin hf hhd hsd hR0 hi25 hs25
 rcases R0 with m | ⟨vs, r1⟩
 · show Calls _ _ _ _ (ValOut w r T (.error m))
   go_enter Tryd.func46, Tryd.ntmps46
   go_wp2_with (first
    | ((with_reducible refine at_dst (N := 2) rfl ?_); go_must (refine ev_box (cs := #[.pointer (some ⟨r, 0, none⟩)]) rfl rfl rfl ?_; intro g2 w1 hg2 hl2 hb2 hk2)
       have Hb2 := Lib.hid hb2
       have HKa := Lib.hid hk2
       have hgB := hg2
       clear hb2 hk2
       (try simp only [PU]))
    | ((with_reducible refine at_dst (N := 3) rfl ?_); go_must (refine ev_box (cs := #[.int .i64 dp]) rfl rfl rfl ?_; intro g3 w2 hg3 hl3 hb3 hk3)
       have Hb2 := Lib.hid (hk3.blk Hb2.out id)
       have Hb3 := Lib.hid hb3
       have hgA : w.heap.size ≤ g2 ∧ w.heap.size ≤ g3 := ⟨hgB, Nat.le_trans HKa.out.size hg3⟩
       have HKa := Lib.hid (HKa.out.trans hk3 (fun _ _ h => h))
       clear hb3 hk3
       (try simp only [PU]))
    | ((with_reducible refine at_dst (N := 4) rfl ?_); go_must (refine ev_alloc rfl rfl zero25 rfl ?_; intro g4 w3 hg4 hl4 hb4 hk4)
       have Hb2 := Lib.hid (hk4.blk Hb2.out id)
       have Hb3 := Lib.hid (hk4.blk Hb3.out id)
       have Hb4 := Lib.hid hb4
       have Hg4 := Lib.hid (show w.heap.size ≤ g4 from Nat.le_trans HKa.out.size hg4)
       have HKa := Lib.hid (HKa.out.trans hk4 (fun _ _ h => h))
       have c2 := (blk_cell Hb2.out 0).trans rfl
       have Hg2 := Lib.hid (show w.heap.size ≤ g2 ∧ w.heap.size ≤ g3 ∧ g2 < w3.heap.size ∧ g3 < w3.heap.size from ⟨hgA.1, hgA.2, blk_lt Hb2.out, blk_lt Hb3.out⟩)
       clear hb4 hk4
       (try simp only [PU]))
    | (go_at_call 73; go_must (refine (H73.out _ HKa.out).mono ?_; rintro e w4 ⟨rfl, hk5⟩)
       have Hb2 := Lib.hid (hk5.blk Hb2.out id)
       have Hb3 := Lib.hid (hk5.blk Hb3.out id)
       have Hb4 := Lib.hid (hk5.blk Hb4.out id)
       have HKa := Lib.hid (HKa.out.trans hk5 (fun _ _ h => h))
       have Hr4 := Lib.hid (H.out.keep HKa.out id)
       clear c2 hk5
       have c2 := (blk_cell Hb2.out 0).trans rfl
       (try simp only [PU]))
    | (go_at_call 76; go_must (refine (H76.out _ HKa.out).mono ?_; rintro e w5 ⟨rfl, hk6⟩)
       have Hb2 := Lib.hid (hk6.blk Hb2.out id)
       have Hb3 := Lib.hid (hk6.blk Hb3.out id)
       have Hb4 := Lib.hid (hk6.blk Hb4.out id)
       have HKa := Lib.hid (HKa.out.trans hk6 (fun _ _ h => h))
       have Hr4 := Lib.hid (H.out.keep HKa.out id)
       clear c2 hk6
       have c2 := (blk_cell Hb2.out 0).trans rfl
       (try simp only [PU]))
    | ((with_reducible refine at_dst (N := 6) rfl ?_); go_must (refine ev_alloc rfl rfl zero25 rfl ?_; intro g6 w6 hg6 hl6 hb6 hk6)
       have Hb4w := Hb4
       have Hb2 := Lib.hid (hk6.blk Hb2.out id)
       have Hb3 := Lib.hid (hk6.blk Hb3.out id)
       have Hb4 := Lib.hid (hk6.blk Hb4.out id)
       have Hb6 := Lib.hid hb6
       have Hg6 := Lib.hid (show w.heap.size ≤ g2 ∧ w.heap.size ≤ g3 ∧ w.heap.size ≤ g6 from ⟨Hg2.out.1, Hg2.out.2.1, Nat.le_trans HKa.out.size hg6⟩)
       have HKb := Lib.hid (HKa.out.trans hk6 (fun _ _ h => h))
       have Hk6 := Lib.hid hk6
       have Hg46 := Lib.hid (show g4 < g6 from Nat.lt_of_lt_of_le (blk_lt Hb4w.out) hg6)
       clear hb6 hk6
       (try simp only [PU]))
    | ((with_reducible refine at_store (t := 25) (p := 6) rfl ?_); go_must (refine ev_store (cs' := #[.int .i64 5, .bool false, .int .i64 0, .string ByteArray.empty, .slice none 0 0, .slice none 0 0]) rfl rfl rfl rfl rfl rfl HI.out.1 HI.out.2 rfl Hb6.out (Nat.le_of_ble_eq_true rfl) rfl ?_; intro w7 hb7 hk7)
       have Hb2 := Lib.hid (hk7.blk Hb2.out (blk_type Hb2.out Hb6.out (by decide) : ¬ g2 = g6))
       have Hb3 := Lib.hid (hk7.blk Hb3.out (blk_type Hb3.out Hb6.out (by decide) : ¬ g3 = g6))
       have HKb := Lib.hid (show Keeps Nob w w7 from HKb.out.trans hk7 (fun i hi e => by have := Hg6.out.2.2; omega))
       have Hr5 := Lib.hid (H.out.keep HKb.out id)
       have Hb47 := Lib.hid (hk7.blk Hb4.out (fun e : g4 = g6 => by have := Hg46.out; omega))
       have Hb6 := Lib.hid hb7
       clear c2
       have c2 := (blk_cell Hb2.out 0).trans rfl
       clear hb7 hk7
       (try simp only [PU]))
    | (go_at_call 78; go_must (refine (HL.out _ g2 g3 g6 Hr5.out (Nat.le_of_lt (blk_lt Hb6.out)) Hg6.out ⟨Hb2.out, Hb3.out, _, Hb6.out, OwnJ.nil _ _ _⟩).mono ?_; rintro e w8 ⟨rfl, hk8⟩); have HK8 := Lib.hid hk8; clear hk8; unfold stopAt; (try simp only [PU]))
   )
   exact ⟨rfl, rfl, HKb.out.any.trans HK8.out (fun i hi e => e.elim id (fun e => by have := Hg6.out.2.2; omega))⟩
 · show Calls _ _ _ _ (ValOut w r T (.ok (.mk 5 false 0 ByteArray.empty [] vs, r1)))
   go_enter Tryd.func46, Tryd.ntmps46
   go_wp2_with (first
    | ((with_reducible refine at_dst (N := 2) rfl ?_); go_must (refine ev_box (cs := #[.pointer (some ⟨r, 0, none⟩)]) rfl rfl rfl ?_; intro g2 w1 hg2 hl2 hb2 hk2)
       have Hb2 := Lib.hid hb2
       have HKa := Lib.hid hk2
       have hgB := hg2
       clear hb2 hk2
       (try simp only [PU]))
    | ((with_reducible refine at_dst (N := 3) rfl ?_); go_must (refine ev_box (cs := #[.int .i64 dp]) rfl rfl rfl ?_; intro g3 w2 hg3 hl3 hb3 hk3)
       have Hb2 := Lib.hid (hk3.blk Hb2.out id)
       have Hb3 := Lib.hid hb3
       have hgA : w.heap.size ≤ g2 ∧ w.heap.size ≤ g3 := ⟨hgB, Nat.le_trans HKa.out.size hg3⟩
       have HKa := Lib.hid (HKa.out.trans hk3 (fun _ _ h => h))
       clear hb3 hk3
       (try simp only [PU]))
    | ((with_reducible refine at_dst (N := 4) rfl ?_); go_must (refine ev_alloc rfl rfl zero25 rfl ?_; intro g4 w3 hg4 hl4 hb4 hk4)
       have Hb2 := Lib.hid (hk4.blk Hb2.out id)
       have Hb3 := Lib.hid (hk4.blk Hb3.out id)
       have Hb4 := Lib.hid hb4
       have Hg4 := Lib.hid (show w.heap.size ≤ g4 from Nat.le_trans HKa.out.size hg4)
       have HKa := Lib.hid (HKa.out.trans hk4 (fun _ _ h => h))
       have c2 := (blk_cell Hb2.out 0).trans rfl
       have Hg2 := Lib.hid (show w.heap.size ≤ g2 ∧ w.heap.size ≤ g3 ∧ g2 < w3.heap.size ∧ g3 < w3.heap.size from ⟨hgA.1, hgA.2, blk_lt Hb2.out, blk_lt Hb3.out⟩)
       clear hb4 hk4
       (try simp only [PU]))
    | (go_at_call 73; go_must (refine (H73.out _ HKa.out).mono ?_; rintro e w4 ⟨rfl, hk5⟩)
       have Hb2 := Lib.hid (hk5.blk Hb2.out id)
       have Hb3 := Lib.hid (hk5.blk Hb3.out id)
       have Hb4 := Lib.hid (hk5.blk Hb4.out id)
       have HKa := Lib.hid (HKa.out.trans hk5 (fun _ _ h => h))
       have Hr4 := Lib.hid (H.out.keep HKa.out id)
       clear c2 hk5
       have c2 := (blk_cell Hb2.out 0).trans rfl
       (try simp only [PU]))
    | (go_at_call 76; go_must (refine (H76.out _ HKa.out).mono ?_; rintro e w5 ⟨rfl, hk6⟩)
       have Hb2 := Lib.hid (hk6.blk Hb2.out id)
       have Hb3 := Lib.hid (hk6.blk Hb3.out id)
       have Hb4 := Lib.hid (hk6.blk Hb4.out id)
       have HKa := Lib.hid (HKa.out.trans hk6 (fun _ _ h => h))
       have Hr4 := Lib.hid (H.out.keep HKa.out id)
       clear c2 hk6
       have c2 := (blk_cell Hb2.out 0).trans rfl
       (try simp only [PU]))
    | ((with_reducible refine at_dst (N := 6) rfl ?_); go_must (refine ev_alloc rfl rfl zero25 rfl ?_; intro g6 w6 hg6 hl6 hb6 hk6)
       have Hb4w := Hb4
       have Hb2 := Lib.hid (hk6.blk Hb2.out id)
       have Hb3 := Lib.hid (hk6.blk Hb3.out id)
       have Hb4 := Lib.hid (hk6.blk Hb4.out id)
       have Hb6 := Lib.hid hb6
       have Hg6 := Lib.hid (show w.heap.size ≤ g2 ∧ w.heap.size ≤ g3 ∧ w.heap.size ≤ g6 from ⟨Hg2.out.1, Hg2.out.2.1, Nat.le_trans HKa.out.size hg6⟩)
       have HKb := Lib.hid (HKa.out.trans hk6 (fun _ _ h => h))
       have Hk6 := Lib.hid hk6
       have Hg46 := Lib.hid (show g4 < g6 from Nat.lt_of_lt_of_le (blk_lt Hb4w.out) hg6)
       clear hb6 hk6
       (try simp only [PU]))
    | ((with_reducible refine at_store (t := 25) (p := 6) rfl ?_); go_must (refine ev_store (cs' := #[.int .i64 5, .bool false, .int .i64 0, .string ByteArray.empty, .slice none 0 0, .slice none 0 0]) rfl rfl rfl rfl rfl rfl HI.out.1 HI.out.2 rfl Hb6.out (Nat.le_of_ble_eq_true rfl) rfl ?_; intro w7 hb7 hk7)
       have Hb2 := Lib.hid (hk7.blk Hb2.out (blk_type Hb2.out Hb6.out (by decide) : ¬ g2 = g6))
       have Hb3 := Lib.hid (hk7.blk Hb3.out (blk_type Hb3.out Hb6.out (by decide) : ¬ g3 = g6))
       have HKb := Lib.hid (show Keeps Nob w w7 from HKb.out.trans hk7 (fun i hi e => by have := Hg6.out.2.2; omega))
       have Hr5 := Lib.hid (H.out.keep HKb.out id)
       have Hb47 := Lib.hid (hk7.blk Hb4.out (fun e : g4 = g6 => by have := Hg46.out; omega))
       have Hb6 := Lib.hid hb7
       clear c2
       have c2 := (blk_cell Hb2.out 0).trans rfl
       clear hb7 hk7
       (try simp only [PU]))
    | (go_at_call 78; go_must (refine (HL.out _ g2 g3 g6 Hr5.out (Nat.le_of_lt (blk_lt Hb6.out)) Hg6.out ⟨Hb2.out, Hb3.out, _, Hb6.out, OwnJ.nil _ _ _⟩).mono ?_; rintro e w8 ⟨⟨y8, rfl⟩, hr8, ⟨-, -, vv, h6, hown⟩, hk8⟩; obtain ⟨X, xs, hrow⟩ := id hown; obtain ⟨vA, vc, rfl, -⟩ := row_slice hrow.row)
       have Hr8 := Lib.hid hr8
       have Hown := Lib.hid hown
       have HK8 := Lib.hid (show Keeps (· = r) w w8 from HKb.out.any.trans hk8 (fun i hi e => e.elim id (fun e => by have := Hg6.out.2.2; omega)))
       have Hb9 := Lib.hid (hk8.blk (Hb47.out) (fun e => e.elim (fun e => by have := Hg4.out; have := H.out.lt; omega) (fun e => by have := Hg46.out; omega)))
       have s0 := (blk_cell h6 0).trans rfl
       have s1 := (blk_cell h6 1).trans rfl
       have s2 := (blk_cell h6 2).trans rfl
       have s3 := (blk_cell h6 3).trans rfl
       have s4 := (blk_cell h6 4).trans rfl
       have s5 := (blk_cell h6 5).trans rfl
       clear hr8 h6 hown hk8 hrow
       generalize vs.length = nv at *
       (try simp only [PU]))
    | ((with_reducible refine at_store (t := 25) (p := 4) rfl ?_); go_must (refine ev_store (cs' := #[.int .i64 5, .bool false, .int .i64 0, .string ByteArray.empty, .slice none 0 0, .slice vA nv vc]) rfl rfl rfl rfl rfl rfl HI.out.1 HI.out.2 rfl Hb9.out (Nat.le_of_ble_eq_true rfl) rfl ?_; intro w9 hb9 hk9)
       have HK9 := Lib.hid hk9
       clear s0 s1 s2 s3 s4 s5
       have s0 := (blk_cell hb9 0).trans rfl
       have s1 := (blk_cell hb9 1).trans rfl
       have s2 := (blk_cell hb9 2).trans rfl
       have s3 := (blk_cell hb9 3).trans rfl
       have s4 := (blk_cell hb9 4).trans rfl
       have s5 := (blk_cell hb9 5).trans rfl
       clear hb9 hk9
       (try simp only [PU]))
   )
   refine bodyPost_ret (v := .agg #[.int .i64 5, .bool false, .int .i64 0, .string ByteArray.empty, .slice none 0 0, .slice vA nv vc]) (by rw [results_cell1 rfl]; go_simp) rfl ?_
   have hjs := (Hown.out.js.keep HK9.out (X' := fun b => w.heap.size ≤ b) (fun b hb hx e => by have := Hg46.out; omega) (fun b hb hx => Nat.le_trans Hg6.out.2.2 hx))
   exact ⟨⟨_, rfl, JX.close (strs_nil _ _) hjs⟩, Hr8.out.keep HK9.out (fun e : r = g4 => by have := Hg4.out; have := H.out.lt; omega), HK8.out.trans HK9.out (fun i hi e => by have := Hg4.out; omega)⟩
end Go.Proofs.WV

namespace Go.Proofs.WV
open Go.RowKit Go.Proofs.KL Go.Proofs.WM
set_option linter.unusedVariables false

def stepP (dp : Nat) : Nat → List ByteArray × List J → Bs → R (List ByteArray × List J) := fun f x s =>
 match keyB x.1 s with
 | .error e => .error e
 | .ok y => match innerF f dp y.2 with
   | .error e => .error e
   | .ok z => .ok ((x.1 ++ [y.1], x.2 ++ [z.1]), z.2)
theorem pairs_list (dp : Nat) : ∀ (f : Nat) (ks : List ByteArray) (vs : List J) (r : Bs), pairsF f dp ks vs r = listF 125 (stepP dp) f (ks, vs) r
 | 0, _, _, _ => by unfold pairsF listF; rfl
 | f + 1, ks, vs, r => by
   unfold pairsF listF stepP
   rcases keyB ks r with e | ⟨k, r0⟩
   · rfl
   · simp only
     rcases innerF f dp r0 with e | ⟨v, r1⟩
     · rfl
     · simp only
       rcases moreB 125 r1 with r2 | r2 | e
       · rfl
       · exact pairs_list dp f _ _ _
       · rfl
def tabR : R (List ByteArray × List J) → R J
 | .ok x => .ok (.mk 6 false 0 ByteArray.empty x.1.1 x.1.2, x.2)
 | .error e => .error e
theorem value_table (f dp : Nat) (q : Bs) : valueF (f + 1) dp (123 :: q) = tabR (openL 125 (stepP dp) f ([], []) q) := by
 unfold valueF openL
 rw [if_neg (by decide), if_neg (by decide), if_neg (by decide), if_neg (by decide), if_neg (by decide), if_neg (by decide), if_pos rfl]
 rcases openB 125 q with _ | r
 · simp only [pairs_list]
   rcases listF 125 (stepP dp) f ([], []) (blanksB q) with e | ⟨⟨ks, vs⟩, r1⟩ <;> rfl
 · rfl
theorem stepP_len {dp f : Nat} {x x' : List ByteArray × List J} {s s' : Bs} (h : stepP dp f x s = .ok (x', s')) : s'.length ≤ s.length ∧ x'.2.length + s'.length ≤ x.2.length + s.length := by
 unfold stepP at h
 rcases hk : keyB x.1 s with e | ⟨k, r0⟩
 · rw [hk] at h; cases h
 · rw [hk] at h
   simp only at h
   rcases hi : innerF f dp r0 with e | ⟨v, r1⟩
   · rw [hi] at h; cases h
   · rw [hi] at h
     simp only [Except.ok.injEq, Prod.mk.injEq] at h
     obtain ⟨rfl, rfl⟩ := h
     have h1 := (keyB_len hk).1
     have h2 := ((read_ok f).2.1 dp r0 v r1 hi).2.1
     simp only [List.length_append, List.length_cons, List.length_nil]
     omega
end Go.Proofs.WV

namespace Go.Proofs.WV
open Go.RowKit Go.Proofs.KL Go.Proofs.WM
set_option linter.unusedVariables false

theorem RowJ.swap {M : Nat → Prop} {W W' : World} {lo : Nat} {E E' : Nat → Prop} {v : Value} {acc : List J} {X : Nat → Prop} {xs : List Value} (h : RowJ W lo E v acc X xs) (hk : Keeps M W W') (hM : ∀ b, b < W.heap.size → M b → b < lo ∨ E b) (hE : ∀ b, E' b → E b ∨ W.heap.size ≤ b) : RowJ W' lo E' v acc X xs := by
 have h' := h.keep hk hM
 refine ⟨h'.row, fun b hb => ⟨(h'.low b hb).1, fun e => ?_, (h'.low b hb).2.2⟩, fun k hk' e => ?_, h'.val⟩
 · have h1 := h.low b hb
   rcases hE b e with h2 | h2
   · exact h1.2.1 h2
   · omega
 · have h1 := row_lt h.row k hk'
   rcases hE k e with h2 | h2
   · exact h.ne k hk' h2
   · omega
theorem OwnJ.swap {M : Nat → Prop} {W W' : World} {lo : Nat} {E E' : Nat → Prop} {v : Value} {acc : List J} (h : OwnJ W lo E v acc) (hk : Keeps M W W') (hM : ∀ b, b < W.heap.size → M b → b < lo ∨ E b) (hE : ∀ b, E' b → E b ∨ W.heap.size ≤ b) : OwnJ W' lo E' v acc := by
 obtain ⟨X, xs, h⟩ := h
 exact ⟨X, xs, h.swap hk hM hE⟩
def OwnS (W : World) (lo : Nat) (v : Value) (ks : List ByteArray) : Prop := W.ownsRow lo 9 1 v ks.length (ks.map Value.string)
theorem OwnS.nil (W : World) (lo : Nat) : OwnS W lo (.slice none 0 0) [] := ⟨rfl, .inl ⟨rfl, rfl⟩⟩
theorem OwnS.lt {W : World} {lo : Nat} {v : Value} {ks : List ByteArray} (h : OwnS W lo v ks) : ∀ k, v.ownBlock = some k → lo ≤ k ∧ k < W.heap.size := fun k hk => by
 rcases h.2 with ⟨rfl, _⟩ | ⟨g, cap, cur, rfl, hb, hg, _⟩
 · cases hk
 · simp only [Value.ownBlock, Option.some.injEq] at hk; subst hk; exact ⟨hb, blk_lt hg⟩
theorem OwnS.keep {M : Nat → Prop} {W W' : World} {lo : Nat} {v : Value} {ks : List ByteArray} (h : OwnS W lo v ks) (hk : Keeps M W W') (hn : ∀ k, v.ownBlock = some k → ¬ M k) : OwnS W' lo v ks := by
 obtain ⟨hl, h⟩ := h
 refine ⟨hl, ?_⟩
 rcases h with h | ⟨g, cap, cur, rfl, hb, hg, h⟩
 · exact .inl h
 · exact .inr ⟨g, cap, cur, rfl, hb, hk.blk hg (hn g rfl), h⟩
theorem OwnS.slice {W : World} {lo : Nat} {v : Value} {ks : List ByteArray} (h : OwnS W lo v ks) : ∃ A c, v = .slice A ks.length c ∧ ks.length ≤ c := by
 rcases h.2 with ⟨rfl, h0⟩ | ⟨g, cap, cur, rfl, _, _, hc, _⟩
 · exact ⟨none, 0, by rw [h0], by omega⟩
 · exact ⟨_, cap, rfl, hc⟩
theorem OwnS.ne {W : World} {lo g : Nat} {v : Value} {ks : List ByteArray} {cs : Array Value} {t : TypeId} (h : OwnS W lo v ks) (hg : W.heap[g]? = some (.cells cs t (0, 0))) (ht : t ≠ 9) : some g ≠ v.ownBlock := fun e => by
 rcases h.2 with ⟨rfl, _⟩ | ⟨g', cap, cur, rfl, hb, hg', _⟩
 · cases e
 · simp only [Value.ownBlock, Option.some.injEq] at e
   subst e
   rw [hg] at hg'
   injection hg' with hg'
   injection hg' with _ h2 _
   exact ht h2
theorem OwnS.neMap {W : World} {lo g : Nat} {v : Value} {ks : List ByteArray} {es : Array MapEntry} {c : Nat} (h : OwnS W lo v ks) (hg : W.heap[g]? = some (.map es c)) : some g ≠ v.ownBlock := fun e => by
 rcases h.2 with ⟨rfl, _⟩ | ⟨g', cap, cur, rfl, hb, hg', _⟩
 · cases e
 · simp only [Value.ownBlock, Option.some.injEq] at e
   subst e
   rw [hg] at hg'
   injection hg' with hg'
   cases hg'
theorem OwnS.strs {W : World} {lo : Nat} {v : Value} {ks : List ByteArray} (h : OwnS W lo v ks) : StrsX W (fun b => lo ≤ b) v ks := by
 obtain ⟨hl, h⟩ := h
 rcases h with ⟨rfl, h0⟩ | ⟨g, cap, cur, rfl, hb, hg, hc, hm, hs, ht⟩
 · have e : ks = [] := List.length_eq_zero_iff.1 h0
   subst e
   exact strs_nil W _
 · refine ⟨_, cap, rfl, hc, fun i hi => ⟨g, 0, rfl, hb, ?_⟩⟩
   rw [Nat.zero_add, blk_cell hg i]
   have h1 : (cur.toList.take (ks.length * 1))[i]? = (ks.map Value.string)[i]? := by rw [ht]
   rw [List.getElem?_take, if_pos (by omega), List.getElem?_map, List.getElem?_eq_getElem hi] at h1
   rw [← Array.getElem?_toList, h1, List.getD_eq_getElem?_getD, List.getElem?_eq_getElem hi]
   rfl
end Go.Proofs.WV

namespace Go.Proofs.WV
open Go.RowKit Go.Proofs.KL Go.Proofs.WM
set_option maxRecDepth 100000
set_option linter.unusedSimpArgs false
set_option linter.unusedVariables false

def PairsInv (r g2 gS g5 g3 gm base : Nat) (deep : Int) (x : List ByteArray × List J) (W : World) : Prop :=
 (W.heap[g2]? = some (.cells #[.pointer (some ⟨r, 0, none⟩)] 78 (0, 0)) ∧ W.heap[gS]? = some (.cells #[.map (some gm)] 98 (0, 0)) ∧ W.heap[g3]? = some (.cells #[.int .i64 deep] 3 (0, 0))) ∧ (∃ es c, W.heap[gm]? = some (.map es c) ∧ StrSet es.toList x.1) ∧
   ∃ kv vv, W.heap[g5]? = some (.cells #[.int .i64 6, .bool false, .int .i64 0, .string ByteArray.empty, kv, vv] 25 (0, 0)) ∧ OwnS W base kv x.1 ∧ OwnJ W base (fun b => b = g5 ∨ b = gm ∨ some b = kv.ownBlock) vv x.2
set_option maxHeartbeats 2000000 in
theorem key103s {W : World} {r g2 gS g5 g3 gm base : Nat} {deep : Int} {T : ByteArray} {s : Bs} {x : List ByteArray × List J} {m : Nat} (hr : Rd W r T s) (hI : PairsInv r g2 gS g5 g3 gm base deep x W) (hs : strB s = .error m) :
  Calls Tryd.prog 103 #[.pointer (some ⟨g2, 0, none⟩), .pointer (some ⟨gS, 0, none⟩), .pointer (some ⟨g5, 0, none⟩), .pointer (some ⟨g3, 0, none⟩)] W (PartOut W r T base (PairsInv r g2 gS g5 g3 gm base deep) (.error m)) := by
 have Hr := Lib.hid hr
 have Hs := Lib.hid hs
 have c2 := (blk_cell hI.1.1 0).trans rfl
 clear hr hI hs
 go_enter Tryd.func103, Tryd.ntmps103
 go_wp2_with (first
  | (go_at_call 75; go_must (have hc := str75 Hr.out; rw [Hs.out] at hc; refine hc.mono ?_; rintro e w6 ⟨rfl, hk6⟩); have HK6 := Lib.hid hk6; clear hk6; unfold stopAt; (try simp only [PU]))
 )
 exact ⟨rfl, rfl, keepsMR HK6.out⟩
set_option maxHeartbeats 2000000 in
theorem key103d {W : World} {r g2 gS g5 g3 gm base : Nat} {deep : Int} {T : ByteArray} {s t r1 : Bs} {x : List ByteArray × List J} (hr : Rd W r T s) (hI : PairsInv r g2 gS g5 g3 gm base deep x W) (hd : ¬ g2 = r ∧ ¬ gS = r ∧ ¬ gm = r) (hs : strB s = .ok (t, r1)) (hk : hasKey x.1 (mkB t) = true) :
  Calls Tryd.prog 103 #[.pointer (some ⟨g2, 0, none⟩), .pointer (some ⟨gS, 0, none⟩), .pointer (some ⟨g5, 0, none⟩), .pointer (some ⟨g3, 0, none⟩)] W (PartOut W r T base (PairsInv r g2 gS g5 g3 gm base deep) (.error (r1.length + 1))) := by
 have Hr := Lib.hid hr
 have Hs := Lib.hid hs
 have HI := Lib.hid hI
 have Hd := Lib.hid hd
 have Hk := Lib.hid hk
 have hlen := (strB_len hs).1
 have hle := hr.le
 have hT := hr.len
 have c2 := (blk_cell hI.1.1 0).trans rfl
 obtain ⟨es, ec, hmap, hset⟩ := hI.2.1
 have Hm := Lib.hid (And.intro hmap hset)
 obtain ⟨a, ha⟩ : ∃ a, T.size - r1.length = a := ⟨_, rfl⟩
 have ha1 : 1 ≤ a := by omega
 have ha2 : a ≤ 1000000 := by omega
 have Hfail := Lib.hid (fun w (h : Rd w r T r1) => by
  have hc := fail47 h (r1.length + 1) (by omega)
  rw [show ((T.size - (r1.length + 1) : Nat) : Int) = (a : Int) - 1 by omega] at hc
  exact hc)
 have Ha := Lib.hid ha
 obtain ⟨key, hkey⟩ : ∃ y, mkB t = y := ⟨_, rfl⟩
 have Hkey := Lib.hid hkey
 clear hr hI hd hs hk hlen hle hmap hset ha hkey
 go_enter Tryd.func103, Tryd.ntmps103
 go_wp2_with (first
  | (go_at_call 75; go_must (have hc := str75 Hr.out; rw [Hs.out] at hc; refine hc.mono ?_; rintro e w6 ⟨rfl, hr6, hk6⟩)
     simp only [Hkey.out]
     have HK6 := Lib.hid hk6
     have Hr6 := Lib.hid hr6
     have b2 := hk6.blk HI.out.1.1 Hd.out.1
     have bS := hk6.blk HI.out.1.2.1 Hd.out.2.1
     have Hm6 := Lib.hid (hk6.blk Hm.out.1 Hd.out.2.2)
     clear c2
     have c2 := (blk_cell b2 0).trans rfl
     have cS := (blk_cell bS 0).trans rfl
     have q1 := (blk_cell hr6.blk 1).trans rfl
     rw [Ha.out] at q1
     clear hr6 hk6 b2 bS
     (try simp only [PU]))
  | ((with_reducible refine at_dst (N := 9) rfl ?_); go_must (refine ev_lookup_set (q := key) rfl rfl Tryd.underlying98 Tryd.underlying9 zero98 rfl rfl Hm6.out Hm.out.2 ?_; rw [← Hkey.out, Hk.out]); (try simp only [PU]))
 )
 refine wp_region_perm [(0, true), (1, true), (2, true), (3, true), (4, true), (5, true), (6, false)] (fun w' => w'.cell? ⟨g2, 0, none⟩ = some (.pointer (some ⟨r, 0, none⟩)) ∧ w'.cell? ⟨r, 1, none⟩ = some (.int .i64 a)) rfl (by kernel_rfl) (by kernel_rfl) (by decide) (fun c a d v w h => by cases d <;> exact h) ⟨c2, q1⟩ ?_
 refine pq (some 10) ?_; (try simp only [PU])
 refine pq (some 11) ?_; (try simp only [PU])
 refine pq (some 12) ?_; (try simp only [PU])
 refine pq (some 13) ?_; (try simp only [PU])
 refine pq (some 14) ?_; (try simp only [PU])
 refine pq (some 15) ?_; (try simp only [PU])
 refine perm_e rfl ?_
 go_wp2_with (go_at_call 47; go_must (refine (Hfail.out _ (Hr6.out.keep (Keeps.refl Nob w6).drew id)).mono ?_; rintro e w7 ⟨rfl, rfl⟩); unfold stopAt)
 exact ⟨rfl, rfl, keepsMR (HK6.out.then (Keeps.refl Nob w6).drew)⟩
end Go.Proofs.WV

namespace Go.Proofs.WV
open Go.RowKit Go.Proofs.KL Go.Proofs.WM
set_option maxRecDepth 100000
set_option linter.unusedSimpArgs false
set_option linter.unusedVariables false

set_option maxHeartbeats 2000000 in
theorem key103w {W : World} {r g2 gS g5 g3 gm base : Nat} {deep : Int} {T : ByteArray} {s t r1 : Bs} {m : Nat} {x : List ByteArray × List J} (hr : Rd W r T s) (hI : PairsInv r g2 gS g5 g3 gm base deep x W) (hd : ¬ g2 = r ∧ ¬ gS = r ∧ ¬ gm = r) (hgm : base ≤ gm) (hs : strB s = .ok (t, r1)) (hk : hasKey x.1 (mkB t) = false) (hw : wordB [58] (blanksB r1) = .error m) :
  Calls Tryd.prog 103 #[.pointer (some ⟨g2, 0, none⟩), .pointer (some ⟨gS, 0, none⟩), .pointer (some ⟨g5, 0, none⟩), .pointer (some ⟨g3, 0, none⟩)] W (PartOut W r T base (PairsInv r g2 gS g5 g3 gm base deep) (.error m)) := by
 have Hr := Lib.hid hr
 have Hs := Lib.hid hs
 have HI := Lib.hid hI
 have Hd := Lib.hid hd
 have c2 := (blk_cell hI.1.1 0).trans rfl
 obtain ⟨es, ec, hmap, hset⟩ := hI.2.1
 have Hm := Lib.hid (And.intro hmap hset)
 obtain ⟨key, hkey⟩ : ∃ y, mkB t = y := ⟨_, rfl⟩
 have Hkey := Lib.hid hkey
 rw [hkey] at hk
 have Hk := Lib.hid hk
 have Hw := Lib.hid hw
 have Hgm := Lib.hid hgm
 clear hr hI hd hs hk hmap hset hkey hw hgm
 go_enter Tryd.func103, Tryd.ntmps103
 go_wp2_with (first
  | (go_at_call 75; go_must (have hc := str75 Hr.out; rw [Hs.out] at hc; refine hc.mono ?_; rintro e w6 ⟨rfl, hr6, hk6⟩)
     simp only [Hkey.out]
     have HK6 := Lib.hid hk6
     have Hr6 := Lib.hid hr6
     have B2 := Lib.hid (hk6.blk HI.out.1.1 Hd.out.1)
     have BS := Lib.hid (hk6.blk HI.out.1.2.1 Hd.out.2.1)
     have Hm6 := Lib.hid (hk6.blk Hm.out.1 Hd.out.2.2)
     clear c2
     have c2 := (blk_cell B2.out 0).trans rfl
     have cS := (blk_cell BS.out 0).trans rfl
     clear hr6 hk6
     (try simp only [PU]))
  | ((with_reducible refine at_dst (N := 9) rfl ?_); go_must (refine ev_lookup_set (q := key) rfl rfl Tryd.underlying98 Tryd.underlying9 zero98 rfl rfl Hm6.out Hm.out.2 ?_; rw [Hk.out]); (try simp only [PU]))
  | (refine at_update rfl ?_; go_must (refine ev_mapUpdate_set (q := key) rfl rfl rfl Tryd.underlying98 Tryd.underlying9 rfl rfl rfl Hm6.out Hm.out.2 Hk.out ?_; intro es7 c7 w7 hb7 hs7 hk7)
     have HM7 := Lib.hid (And.intro hb7 hs7)
     have Hk7 := Lib.hid hk7
     have B2 := Lib.hid (hk7.blk B2.out (fun e : g2 = gm => by have h1 := B2.out; rw [e, Hm6.out] at h1; cases h1))
     have BS := Lib.hid (hk7.blk BS.out (fun e : gS = gm => by have h1 := BS.out; rw [e, Hm6.out] at h1; cases h1))
     have Hr7 := Lib.hid (Hr6.out.keep hk7 (fun e : r = gm => Hd.out.2.2 e.symm))
     clear c2 cS hb7 hs7 hk7
     have c2 := (blk_cell B2.out 0).trans rfl
     (try simp only [PU]))
  | (go_at_call 45; go_must (refine (blanks45 Hr7.out).mono ?_; rintro e w8 ⟨⟨y8, rfl⟩, hr8, hk8⟩)
     have Hr8 := Lib.hid hr8
     have B2 := Lib.hid (hk8.blk B2.out Hd.out.1)
     have Hk8 := Lib.hid hk8
     clear c2 hr8 hk8
     have c2 := (blk_cell B2.out 0).trans rfl
     (try simp only [PU]))
  | (go_at_call 74; go_must (have h74 := word74 Hr8.out ⟨#[58]⟩ (by decide) (nz1 58 (by decide)); rw [show bl ⟨#[58]⟩ = [58] from rfl, Hw.out] at h74; refine h74.mono ?_; rintro e w9 ⟨rfl, hk9⟩); have Hk9 := Lib.hid hk9; clear hk9; unfold stopAt; (try simp only [PU]))
 )
 exact ⟨rfl, rfl, (((keepsMR HK6.out).trans Hk7.out (fun i _ e => .inr (by rw [e]; exact Hgm.out))).trans (keepsMR Hk8.out) (fun _ _ h => h)).trans (keepsMR Hk9.out) (fun _ _ h => h)⟩
end Go.Proofs.WV

namespace Go.Proofs.WV
open Go.RowKit Go.Proofs.KL Go.Proofs.WM
set_option maxRecDepth 100000
set_option linter.unusedSimpArgs false
set_option linter.unusedVariables false

theorem info9b : (Tryd.prog.info? 9).map (fun i => (i.zero, i.size, i.bytes)) = some (some (.string ByteArray.empty), 1, 16) := by kernel_rfl
theorem info22 : ∃ i, Tryd.prog.info? 22 = some i ∧ i.size = 1 := by
 have h : (Tryd.prog.info? 22).map (·.size) = some 1 := by kernel_rfl
 obtain ⟨i, hi, hs⟩ := Option.map_eq_some_iff.1 h
 exact ⟨i, hi, hs⟩
theorem map_ne {w : World} {g gm : Nat} {cs : Array Value} {t : TypeId} {es : Array MapEntry} {c : Nat} (h : w.heap[g]? = some (.cells cs t (0, 0))) (hm : w.heap[gm]? = some (.map es c)) : ¬ g = gm := fun e => by
 subst e
 rw [h] at hm
 injection hm with hm
 cases hm
theorem PairsInv.apart {r g2 gS g5 g3 gm base : Nat} {deep : Int} {x : List ByteArray × List J} {W : World} (h : PairsInv r g2 gS g5 g3 gm base deep x W) : (¬ g2 = gm ∧ ¬ gS = gm ∧ ¬ g3 = gm ∧ ¬ g5 = gm) ∧ (¬ g2 = g5 ∧ ¬ gS = g5 ∧ ¬ g3 = g5) := by
 obtain ⟨⟨h2, hS, h3⟩, ⟨es, c, hm, -⟩, kv, vv, h5, -, -⟩ := h
 exact ⟨⟨map_ne h2 hm, map_ne hS hm, map_ne h3 hm, map_ne h5 hm⟩, blk_type h2 h5 (by decide), blk_type hS h5 (by decide), blk_type h3 h5 (by decide)⟩
set_option maxHeartbeats 4000000 in
theorem key103e {W : World} {r g2 gS g5 g3 gm base : Nat} {deep : Int} {T : ByteArray} {s t r1 r2 : Bs} {m : Nat} {x : List ByteArray × List J} (hr : Rd W r T s) (hI : PairsInv r g2 gS g5 g3 gm base deep x W)
  (hd : r < base ∧ ¬ g2 = r ∧ ¬ gS = r ∧ ¬ g3 = r ∧ ¬ gm = r ∧ ¬ g5 = r ∧ base ≤ gm ∧ base ≤ g5 ∧ base ≤ W.heap.size) (hn : x.1.length ≤ 1000000 ∧ x.2.length ≤ 1000000) (hs : strB s = .ok (t, r1)) (hk : hasKey x.1 (mkB t) = false) (hw : wordB [58] (blanksB r1) = .ok r2)
  (hin : ∀ W', Rd W' r T (blanksB r2) → Calls Tryd.prog 80 #[.pointer (some ⟨r, 0, none⟩), .int .i64 deep] W' (ValOut W' r T (.error m))) :
  Calls Tryd.prog 103 #[.pointer (some ⟨g2, 0, none⟩), .pointer (some ⟨gS, 0, none⟩), .pointer (some ⟨g5, 0, none⟩), .pointer (some ⟨g3, 0, none⟩)] W (PartOut W r T base (PairsInv r g2 gS g5 g3 gm base deep) (.error m)) := by
 have Hr := Lib.hid hr
 have Hs := Lib.hid hs
 have Hap := Lib.hid hI.apart
 obtain ⟨⟨h2, hS, h3⟩, ⟨es, ec, hmap, hset⟩, kv, vv, h5, hks, hvs⟩ := hI
 obtain ⟨kA, kc, rfl, hkc⟩ := hks.slice
 obtain ⟨vA, vc, rfl, hvc⟩ : ∃ A c, vv = .slice A x.2.length c ∧ x.2.length ≤ c := by obtain ⟨X, xs, hrow⟩ := id hvs; exact row_slice hrow.row
 have H2 := Lib.hid h2
 have HS := Lib.hid hS
 have H3 := Lib.hid h3
 have H5 := Lib.hid h5
 have HKS := Lib.hid hks
 have HVS := Lib.hid hvs
 have Hm := Lib.hid (And.intro hmap hset)
 have Hd := Lib.hid hd
 have c2 := (blk_cell h2 0).trans rfl
 obtain ⟨key, hkey⟩ : ∃ y, mkB t = y := ⟨_, rfl⟩
 have Hkey := Lib.hid hkey
 rw [hkey] at hk
 have Hk := Lib.hid hk
 have Hw := Lib.hid hw
 clear hr hs h2 hS h3 h5 hks hvs hmap hset hd hkey hk hw
 have Hin := Lib.hid hin
 clear hin
 obtain ⟨hn1, hn2⟩ := hn
 go_enter Tryd.func103, Tryd.ntmps103
 go_upto_region 7 with (first
  | (go_at_call 75; go_must (have hc := str75 Hr.out; rw [Hs.out] at hc; refine hc.mono ?_; rintro e w6 ⟨rfl, hr6, hk6⟩)
     simp only [Hkey.out]
     have HK := Lib.hid (show Keeps (fun k => k = r ∨ k = gm) W w6 from hk6.mono (fun _ _ e => .inl e))
     have HR := Lib.hid hr6
     have Hm6 := Lib.hid (hk6.blk Hm.out.1 Hd.out.2.2.2.2.1)
     clear c2 hr6 hk6
     have c2 := (blk_cell (HK.out.blk H2.out (fun e => e.elim Hd.out.2.1 Hap.out.1.1)) 0).trans rfl
     have cS := (blk_cell (HK.out.blk HS.out (fun e => e.elim Hd.out.2.2.1 Hap.out.1.2.1)) 0).trans rfl
     (try simp only [PU]))
  | ((with_reducible refine at_dst (N := 9) rfl ?_); go_must (refine ev_lookup_set (q := key) rfl rfl Tryd.underlying98 Tryd.underlying9 zero98 rfl rfl Hm6.out Hm.out.2 ?_; rw [Hk.out]); (try simp only [PU]))
  | (refine at_update rfl ?_; go_must (refine ev_mapUpdate_set (q := key) rfl rfl rfl Tryd.underlying98 Tryd.underlying9 rfl rfl rfl Hm6.out Hm.out.2 Hk.out ?_; intro es7 c7 w7 hb7 hs7 hk7)
     have HM7 := Lib.hid (And.intro hb7 hs7)
     have HR := Lib.hid (HR.out.keep hk7 (fun e : r = gm => Hd.out.2.2.2.2.1 e.symm))
     have HK := Lib.hid (HK.out.trans hk7 (fun _ _ e => .inr e))
     clear c2 cS hb7 hs7 hk7
     have c2 := (blk_cell (HK.out.blk H2.out (fun e => e.elim Hd.out.2.1 Hap.out.1.1)) 0).trans rfl
     (try simp only [PU]))
  | (go_at_call 45; go_must (refine (blanks45 HR.out).mono ?_; rintro e w8 ⟨⟨y8, rfl⟩, hr8, hk8⟩)
     have HR := Lib.hid hr8
     have HM7 := Lib.hid (And.intro (hk8.blk HM7.out.1 Hd.out.2.2.2.2.1) HM7.out.2)
     have HK := Lib.hid (HK.out.trans hk8 (fun _ _ e => .inl e))
     clear c2 hr8 hk8
     have c2 := (blk_cell (HK.out.blk H2.out (fun e => e.elim Hd.out.2.1 Hap.out.1.1)) 0).trans rfl
     have c5 := (blk_cell (HK.out.blk H5.out (fun e => e.elim Hd.out.2.2.2.2.2.1 Hap.out.1.2.2.2)) 4).trans rfl
     (try simp only [PU]))
  | (go_at_call 74; go_must (have h74 := word74 HR.out ⟨#[58]⟩ (by decide) (nz1 58 (by decide)); rw [show bl ⟨#[58]⟩ = [58] from rfl, Hw.out] at h74; refine h74.mono ?_; rintro e w9 ⟨⟨y9, rfl⟩, hr9, hk9⟩)
     have HR := Lib.hid hr9
     have HM7 := Lib.hid (And.intro (hk9.blk HM7.out.1 Hd.out.2.2.2.2.1) HM7.out.2)
     have HK := Lib.hid (HK.out.trans hk9 (fun _ _ e => .inl e))
     clear c2 hr9 hk9
     have c2 := (blk_cell (HK.out.blk H2.out (fun e => e.elim Hd.out.2.1 Hap.out.1.1)) 0).trans rfl
     (try simp only [PU]))
 )
 obtain ⟨i22, hi22, hs22⟩ := info22
 have HI22 := Lib.hid (And.intro hi22 hs22)
 clear hi22 hs22
 go_upto_region 8 with (first
  | ((with_reducible refine at_dst (N := 28) rfl ?_); go_must (refine ev_slice (cs := #[.string key]) (t := 9) (n := 1) (c := 1) rfl (by first | (go_simp; done) | (go_simp; rfl)) ?_; intro gk w10 hgk hlk hbk hkk)
     have Hbk := Lib.hid hbk
     have HKS1 := Lib.hid ((HKS.out.keep HK.out (fun k hk' e => e.elim (fun e => by have h1 := (HKS.out.lt k hk').1; have := Hd.out.1; omega) (fun e => by rw [e] at hk'; exact HKS.out.neMap Hm.out.1 hk'.symm))).keep hkk (fun _ _ => id))
     have HR1 := Lib.hid (HR.out.keep hkk id)
     have HM7 := Lib.hid (And.intro (hkk.blk HM7.out.1 id) HM7.out.2)
     have HK1 := Lib.hid (HK.out.then hkk)
     clear hbk hkk
     (try simp only [PU]))
  | ((with_reducible refine at_dst (N := 29) rfl ?_); go_must (refine ev_append rfl rfl Tryd.underlying22 info9b rfl (by decide) (base := base) rfl HKS1.out rfl (news := [Value.string key]) rfl (fun _ => ⟨_, rfl, World.news_of_block Hbk.out⟩) (by simp [Value.oneCell']) (by omega) (by decide) (by have := HK1.out.size; have := Hd.out.2.2.2.2.2.2.2.2; omega) ?_; intro v9 w11 hown9 hk11 hr11 hf11; obtain ⟨gq, cq, rfl⟩ := hf11 (by decide))
     have Hown := Lib.hid hown9
     have Hk11 := Lib.hid hk11
     have Hr11 := Lib.hid hr11
     have H5a := Lib.hid (hk11.blk (HK1.out.blk H5.out (fun e => e.elim Hd.out.2.2.2.2.2.1 Hap.out.1.2.2.2)) (HKS1.out.ne (HK1.out.blk H5.out (fun e => e.elim Hd.out.2.2.2.2.2.1 Hap.out.1.2.2.2)) (by decide)))
     clear hown9 hk11 hr11 hf11 c5
     (try simp only [PU]))
  | ((with_reducible refine at_store (t := 22) rfl ?_); go_must (refine ev_store (cs' := #[.int .i64 6, .bool false, .int .i64 0, .string ByteArray.empty, .slice (some ⟨gq, 0, none⟩) (x.1.length + 1) cq, .slice vA x.2.length vc]) rfl rfl rfl rfl rfl rfl HI22.out.1 HI22.out.2 rfl H5a.out (Nat.le_of_ble_eq_true rfl) rfl ?_; intro w12 hb12 hk12)
     have H5b := Lib.hid hb12
     have Hk12 := Lib.hid hk12
     clear hb12 hk12
     (try simp only [PU]))
 )
 have hbg : base ≤ W.heap.size := Hd.out.2.2.2.2.2.2.2.2
 have H2c := Lib.hid (Hk12.out.blk (Hk11.out.blk (HK1.out.blk H2.out (fun e => e.elim Hd.out.2.1 Hap.out.1.1)) (HKS1.out.ne (HK1.out.blk H2.out (fun e => e.elim Hd.out.2.1 Hap.out.1.1)) (by decide))) Hap.out.2.1)
 have H3c := Lib.hid (Hk12.out.blk (Hk11.out.blk (HK1.out.blk H3.out (fun e => e.elim Hd.out.2.2.2.1 Hap.out.1.2.2.1)) (HKS1.out.ne (HK1.out.blk H3.out (fun e => e.elim Hd.out.2.2.2.1 Hap.out.1.2.2.1)) (by decide))) Hap.out.2.2.2)
 have HSc := Lib.hid (Hk12.out.blk (Hk11.out.blk (HK1.out.blk HS.out (fun e => e.elim Hd.out.2.2.1 Hap.out.1.2.1)) (HKS1.out.ne (HK1.out.blk HS.out (fun e => e.elim Hd.out.2.2.1 Hap.out.1.2.1)) (by decide))) Hap.out.2.2.1)
 have HRc := Lib.hid ((HR1.out.keep Hk11.out (HKS1.out.ne HR1.out.blk (by decide))).keep Hk12.out (fun e => Hd.out.2.2.2.2.2.1 e.symm))
 have HMc := Lib.hid (And.intro (Hk12.out.blk (Hk11.out.blk HM7.out.1 (HKS1.out.neMap HM7.out.1)) (fun e => Hap.out.1.2.2.2 e.symm)) HM7.out.2)
 have hos : OwnS w11 base (.slice (some ⟨gq, 0, none⟩) (x.1.length + 1) cq) (x.1 ++ [key]) := by
  have h := Hown.out
  unfold OwnS
  rw [List.length_append, List.map_append]
  exact h
 have HOS := Lib.hid (hos.keep Hk12.out (fun k hk e => by rw [e] at hk; exact hos.ne H5a.out (by decide) hk.symm))
 have hkt : Keeps (fun k => k = r ∨ k = gm ∨ some k = (Value.slice kA x.1.length kc).ownBlock ∨ k = g5) W w12 := ((HK1.out.mono (M' := fun k => k = r ∨ k = gm ∨ some k = (Value.slice kA x.1.length kc).ownBlock ∨ k = g5) (fun _ _ e => e.elim .inl (fun e => .inr (.inl e)))).trans Hk11.out (fun _ _ e => .inr (.inr (.inl e)))).trans Hk12.out (fun _ _ e => .inr (.inr (.inr e)))
 have HOJ := Lib.hid (HVS.out.swap (E' := fun b => b = g5 ∨ b = gm ∨ some b = (Value.slice (some ⟨gq, 0, none⟩) (x.1.length + 1) cq).ownBlock) hkt (fun b _ e => by
   rcases e with e | e | e | e
   · exact .inl (by rw [e]; exact Hd.out.1)
   · exact .inr (.inr (.inl e))
   · exact .inr (.inr (.inr e))
   · exact .inr (.inl e)) (fun b e => by
   rcases e with e | e | e
   · exact .inl (.inl e)
   · exact .inl (.inr (.inl e))
   · rcases Hr11.out with h | ⟨k, h, hk⟩
     · exact .inl (.inr (.inr (e.trans h)))
     · rw [h] at e; injection e with e; exact .inr (by have := HK1.out.size; omega)))
 have HKT := Lib.hid hkt
 clear hkt hos
 have c2 := (blk_cell H2c.out 0).trans rfl
 have c3 := (blk_cell H3c.out 0).trans rfl
 have c5' : w12.cell? ⟨g5, 5, none⟩ = some (.slice vA x.2.length vc) := (blk_cell H5b.out 5).trans rfl
 have N := Lib.hid (show ¬ g2 = r ∧ ¬ g3 = r ∧ ¬ g5 = r from ⟨Hd.out.2.1, Hd.out.2.2.2.1, Hd.out.2.2.2.2.2.1⟩)
 have HKr := Lib.hid ((Keeps.refl (· = r) w12).drew)
 have Hr0 := Lib.hid (HRc.out.keep (Keeps.refl Nob w12).drew id)
 refine wp_region_tree (.q 0 (.q 2 (.q 3 (.br [1, 4, 6] (fun k => bif Nat.beq k 1 then .q 5 (.br [4, 6] (fun k => bif Nat.beq k 4 then .br [6] (fun k => .br [7] (fun k => .q 8 (.q 10 (.br [9, 11] (fun k => bif Nat.beq k 9 then .br [11] (fun k => .done) else .br [9] (fun k => .done)))))) else .br [4] (fun k => .br [7] (fun k => .q 8 (.q 10 (.br [9, 11] (fun k => bif Nat.beq k 9 then .br [11] (fun k => .done) else .br [9] (fun k => .done)))))))) else bif Nat.beq k 4 then .br [1, 6] (fun k => bif Nat.beq k 1 then .q 5 (.br [6] (fun k => .br [7] (fun k => .q 8 (.q 10 (.br [9, 11] (fun k => bif Nat.beq k 9 then .br [11] (fun k => .done) else .br [9] (fun k => .done))))))) else .br [1] (fun k => .q 5 (.br [7] (fun k => .q 8 (.q 10 (.br [9, 11] (fun k => bif Nat.beq k 9 then .br [11] (fun k => .done) else .br [9] (fun k => .done)))))))) else .br [1, 4] (fun k => bif Nat.beq k 1 then .q 5 (.br [4] (fun k => .br [7] (fun k => .q 8 (.q 10 (.br [9, 11] (fun k => bif Nat.beq k 9 then .br [11] (fun k => .done) else .br [9] (fun k => .done))))))) else .br [1] (fun k => .q 5 (.br [7] (fun k => .q 8 (.q 10 (.br [9, 11] (fun k => bif Nat.beq k 9 then .br [11] (fun k => .done) else .br [9] (fun k => .done))))))))))))) (fun w' => w'.cell? ⟨g2, 0, none⟩ = some (.pointer (some ⟨r, 0, none⟩)) ∧ w'.cell? ⟨g3, 0, none⟩ = some (.int .i64 deep)) rfl (by kernel_rfl) (by kernel_rfl) (fun c a d v w h => by cases d <;> exact h) ⟨c2, c3⟩ ?_
 refine tq (some 31) ?_; (try simp only [PU])
 refine tq (some 33) ?_; (try simp only [PU])
 refine tq (some 34) ?_; (try simp only [PU])
 refine tree_b rfl rfl ?b1_12 ?nb1_12
 case' b1_12 =>
  have c6 := HKr.out.cell c5' N.out.2.2
  go_wp2_with fail
  clear c6
  (try refine ⟨⟨HKr.out.cell c2 N.out.1, HKr.out.cell c3 N.out.2.1⟩, ?_⟩)
  refine tq (some 36) ?_; (try simp only [PU])
  refine tree_b rfl rfl ?b1_5 ?nb1_5
  case' b1_5 =>
   go_wp2_with (go_at_call 80; go_must (refine (Hin.out _ Hr0.out).mono ?_; rintro e w1 ⟨rfl, hk1⟩); unfold stopAt)
   exact ⟨rfl, rfl, (HKT.out.mono (M' := MR r base) (fun i _ e => by
    rcases e with e | e | e | e
    · exact .inl e
    · exact .inr (by rw [e]; exact Hd.out.2.2.2.2.2.2.1)
    · exact .inr (HKS.out.lt i e.symm).1
    · exact .inr (by rw [e]; exact Hd.out.2.2.2.2.2.2.2.1))).trans (HKr.out.trans hk1 (fun _ _ h => h)) (fun _ _ e => .inl e)⟩
  case' nb1_5 =>
   refine tree_e rfl rfl ?b1_10
   case' b1_10 =>
    go_must (refine ev_slice (cs := #[.int .i64 0, .bool false, .int .i64 0, .string ByteArray.empty, .slice none 0 0, .slice none 0 0]) (t := 25) (n := 1) (c := 1) rfl (by first | (go_simp; done) | (go_simp; rfl)) ?_; intro gz wz hgz hlz hbz hkz)
    (try simp only [PU])
    have Hr0 := Lib.hid (Hr0.out.keep hkz id)
    have HKr := Lib.hid (HKr.out.then hkz)
    clear hbz hkz
    refine wpList_nil ⟨⟨HKr.out.cell c2 N.out.1, HKr.out.cell c3 N.out.2.1⟩, ?_⟩
    refine tree_e rfl rfl ?_
    go_wp2_with (go_at_call 80; go_must (refine (Hin.out _ Hr0.out).mono ?_; rintro e w1 ⟨rfl, hk1⟩); unfold stopAt)
    exact ⟨rfl, rfl, (HKT.out.mono (M' := MR r base) (fun i _ e => by
     rcases e with e | e | e | e
     · exact .inl e
     · exact .inr (by rw [e]; exact Hd.out.2.2.2.2.2.2.1)
     · exact .inr (HKS.out.lt i e.symm).1
     · exact .inr (by rw [e]; exact Hd.out.2.2.2.2.2.2.2.1))).trans (HKr.out.trans hk1 (fun _ _ h => h)) (fun _ _ e => .inl e)⟩
 case' nb1_12 =>
  refine tree_b rfl rfl ?b1_25 ?nb1_25
  case' b1_25 =>
   go_wp2_with (go_at_call 80; go_must (refine (Hin.out _ Hr0.out).mono ?_; rintro e w1 ⟨rfl, hk1⟩); unfold stopAt)
   exact ⟨rfl, rfl, (HKT.out.mono (M' := MR r base) (fun i _ e => by
    rcases e with e | e | e | e
    · exact .inl e
    · exact .inr (by rw [e]; exact Hd.out.2.2.2.2.2.2.1)
    · exact .inr (HKS.out.lt i e.symm).1
    · exact .inr (by rw [e]; exact Hd.out.2.2.2.2.2.2.2.1))).trans (HKr.out.trans hk1 (fun _ _ h => h)) (fun _ _ e => .inl e)⟩
  case' nb1_25 =>
   refine tree_e rfl rfl ?b1_38
   case' b1_38 =>
    go_must (refine ev_slice (cs := #[.int .i64 0, .bool false, .int .i64 0, .string ByteArray.empty, .slice none 0 0, .slice none 0 0]) (t := 25) (n := 1) (c := 1) rfl (by first | (go_simp; done) | (go_simp; rfl)) ?_; intro gz wz hgz hlz hbz hkz)
    (try simp only [PU])
    have Hr0 := Lib.hid (Hr0.out.keep hkz id)
    have HKr := Lib.hid (HKr.out.then hkz)
    clear hbz hkz
    refine wpList_nil ⟨⟨HKr.out.cell c2 N.out.1, HKr.out.cell c3 N.out.2.1⟩, ?_⟩
    refine tree_b rfl rfl ?b1_31 ?nb1_31
    case' b1_31 =>
     have c6 := HKr.out.cell c5' N.out.2.2
     go_wp2_with fail
     clear c6
     (try refine ⟨⟨HKr.out.cell c2 N.out.1, HKr.out.cell c3 N.out.2.1⟩, ?_⟩)
     refine tq (some 36) ?_; (try simp only [PU])
     refine tree_e rfl rfl ?_
     go_wp2_with (go_at_call 80; go_must (refine (Hin.out _ Hr0.out).mono ?_; rintro e w1 ⟨rfl, hk1⟩); unfold stopAt)
     exact ⟨rfl, rfl, (HKT.out.mono (M' := MR r base) (fun i _ e => by
      rcases e with e | e | e | e
      · exact .inl e
      · exact .inr (by rw [e]; exact Hd.out.2.2.2.2.2.2.1)
      · exact .inr (HKS.out.lt i e.symm).1
      · exact .inr (by rw [e]; exact Hd.out.2.2.2.2.2.2.2.1))).trans (HKr.out.trans hk1 (fun _ _ h => h)) (fun _ _ e => .inl e)⟩
    case' nb1_31 =>
     refine tree_e rfl rfl ?b1_37
     case' b1_37 =>
      go_wp2_with (go_at_call 80; go_must (refine (Hin.out _ Hr0.out).mono ?_; rintro e w1 ⟨rfl, hk1⟩); unfold stopAt)
      exact ⟨rfl, rfl, (HKT.out.mono (M' := MR r base) (fun i _ e => by
       rcases e with e | e | e | e
       · exact .inl e
       · exact .inr (by rw [e]; exact Hd.out.2.2.2.2.2.2.1)
       · exact .inr (HKS.out.lt i e.symm).1
       · exact .inr (by rw [e]; exact Hd.out.2.2.2.2.2.2.2.1))).trans (HKr.out.trans hk1 (fun _ _ h => h)) (fun _ _ e => .inl e)⟩
end Go.Proofs.WV

namespace Go.Proofs.WV
open Go.RowKit Go.Proofs.KL Go.Proofs.WM
set_option maxRecDepth 100000
set_option linter.unusedSimpArgs false
set_option linter.unusedVariables false

def idxK (key : ByteArray) : List ByteArray → Option Nat
 | [] => none
 | k :: ks => if key = k then some 0 else (idxK key ks).map (· + 1)
def idxI : Option Nat → Int
 | none => -1
 | some i => i
theorem idxK_step {key : ByteArray} {ks : List ByteArray} {i : Nat} (hi : i < ks.length) : (idxK key (ks.drop i)).map (· + i) = if key = ks.getD i ByteArray.empty then some i else (idxK key (ks.drop (i + 1))).map (· + (i + 1)) := by
 rw [List.drop_eq_getElem_cons hi, List.getD_eq_getElem?_getD, List.getElem?_eq_getElem hi]
 simp only [Option.getD_some]
 conv => lhs; unfold idxK
 split
 · simp
 · rw [Option.map_map]
   congr 1
   funext x
   show x + 1 + i = x + (i + 1)
   omega
theorem idxK_some {key : ByteArray} : ∀ {ks : List ByteArray} {i : Nat}, idxK key ks = some i → i < ks.length ∧ ks.getD i ByteArray.empty = key
 | [], i, h => by cases h
 | k :: ks, i, h => by
   unfold idxK at h
   split at h
   · rename_i e
     injection h with h
     subst h
     exact ⟨by simp, by simp [e]⟩
   · obtain ⟨j, hj, rfl⟩ := Option.map_eq_some_iff.1 h
     obtain ⟨h1, h2⟩ := idxK_some hj
     exact ⟨by simpa using h1, by simpa using h2⟩
set_option maxHeartbeats 2000000 in
theorem index58 {W : World} {X : Nat → Prop} {A : Option Addr} {n c : Nat} {ks : List ByteArray} {key : ByteArray} (hs : StrsX W X (.slice A n c) ks) (hl : n ≤ 1000000000) :
  Calls Tryd.prog 58 #[.slice A n c, .string key] W fun e w' => e = .returned (.int .i64 (idxI (idxK key ks))) ∧ w' = W := by
 obtain ⟨A', c', e, hc, hx⟩ := hs
 injection e with e1 e2 e3
 subst e1; subst e3
 have HX := Lib.hid hx
 have HN := Lib.hid e2
 have hni : (n : Int) ≤ 1000000000 := by omega
 obtain ⟨R, hR⟩ : ∃ R, idxK key ks = R := ⟨_, rfl⟩
 rw [hR]
 have HR := Lib.hid (show (idxK key (ks.drop 0)).map (· + 0) = R by rw [← hR, List.drop_zero]; cases idxK key ks <;> rfl)
 clear hx e2 hR hc
 go_enter Tryd.func58, Tryd.ntmps58
 go_wp2
 go_loopg [8] n (fun K iv wr => ∃ i : Nat, iv = .int .i64 i ∧ i + K = n ∧ Hid ((idxK key (ks.drop i)).map (· + i) = R) ∧ Hid (W = wr))
 case atStart => exact ⟨0, rfl, by omega, HR, Lib.hid rfl⟩
 case round =>
  obtain ⟨i, rfl, hiK, HE, Hw⟩ := hrel
  have hw : W = wr := Hw.out
  subst hw
  by_cases hlt : i < n
  · obtain ⟨b, o, rfl, -, hcell⟩ := HX.out i (by rw [← HN.out]; exact hlt)
    have hE := HE.out
    rw [idxK_step (by rw [← HN.out]; exact hlt)] at hE
    obtain ⟨k, hk⟩ : ∃ k, ks.getD i ByteArray.empty = k := ⟨_, rfl⟩
    rw [hk] at hcell hE
    by_cases hkk : key = k
    · have HF := Lib.hid (show some i = R by rw [← hE, if_pos hkk])
      subst hkk
      clear hE hk HE
      go_wp2
      go_ret
      rw [← HF.out]
      exact ⟨rfl, rfl⟩
    · have HF := Lib.hid (show (idxK key (ks.drop (i + 1))).map (· + (i + 1)) = R by rw [← hE, if_neg hkk])
      have hkb : (key.toList == k.toList) = false := by simpa using str_ne hkk
      clear hE hk HE
      go_wp2
      go_roundg (n - i - 1)
      case measure => omega
      case rel => exact ⟨i + 1, by rfl, by omega, HF, by first | exact Lib.hid rfl | exact Lib.hid trivial⟩
  · have HF := Lib.hid (show none = R by rw [← HE.out, List.drop_of_length_le (by rw [← HN.out]; omega)]; rfl)
    clear HE
    go_wp2
    go_ret
    rw [← HF.out]
    exact ⟨rfl, rfl⟩
theorem sl22_nil (n c : Nat) (w : World) : (binOp .eql 22 (.slice none n c) (.slice none 0 0)).run Tryd.prog w = .ok (.bool true) w := by kernel_rfl
theorem sl22_some (b o : Nat) (sp : Option Nat) (n c : Nat) (w : World) : (binOp .eql 22 (.slice (some ⟨b, o, sp⟩) n c) (.slice none 0 0)).run Tryd.prog w = .ok (.bool false) w := by kernel_rfl
theorem sl23_nil (n c : Nat) (w : World) : (binOp .eql 23 (.slice none n c) (.slice none 0 0)).run Tryd.prog w = .ok (.bool true) w := by kernel_rfl
theorem sl23_some (b o : Nat) (sp : Option Nat) (n c : Nat) (w : World) : (binOp .eql 23 (.slice (some ⟨b, o, sp⟩) n c) (.slice none 0 0)).run Tryd.prog w = .ok (.bool false) w := by kernel_rfl
theorem strs_news {W : World} {X : Nat → Prop} {A : Option Addr} {n c : Nat} {ks : List ByteArray} (h : StrsX W X (.slice A n c) ks) : 0 < n → ∃ ad, A = some ad ∧ ∀ j u, (ks.map Value.string)[j]? = some u → W.cell? (ad.add j) = some u := fun hn => by
 obtain ⟨A', c', e, hc, hx⟩ := h
 injection e with e1 e2 e3
 subst e1
 obtain ⟨b, o, e4, -, -⟩ := hx 0 (by omega)
 refine ⟨⟨b, o, none⟩, e4, fun j u hj => ?_⟩
 rw [List.getElem?_map] at hj
 obtain ⟨k, hk, rfl⟩ := Option.map_eq_some_iff.1 hj
 obtain ⟨hjl, hk2⟩ := List.getElem?_eq_some_iff.1 hk
 obtain ⟨b', o', e5, -, hcell⟩ := hx j hjl
 rw [e4] at e5
 injection e5 with e5
 injection e5 with e6 e7
 subst e6; subst e7
 rw [show (⟨b, o, none⟩ : Addr).add j = ⟨b, o + j, none⟩ by unfold Addr.add; split <;> simp_all]
 rw [hcell, List.getD_eq_getElem?_getD, hk]
 rfl
theorem strs_len {W : World} {X : Nat → Prop} {A : Option Addr} {n c : Nat} {ks : List ByteArray} (h : StrsX W X (.slice A n c) ks) : n = ks.length := by
 obtain ⟨A', c', e, -⟩ := h
 injection e
theorem strs_none {W : World} {X : Nat → Prop} {n c : Nat} {ks : List ByteArray} (h : StrsX W X (.slice none n c) ks) : ks = [] := by
 rcases ks with _ | ⟨k, ks⟩
 · rfl
 · obtain ⟨A', c', e, hc, hx⟩ := h
   injection e with e1 e2 e3
   subst e1
   obtain ⟨b, o, e4, -⟩ := hx 0 (by simp)
   cases e4
set_option maxHeartbeats 2000000 in
theorem clone91 {W : World} {X : Nat → Prop} {A : Option Addr} {n c : Nat} {ks : List ByteArray} (hs : StrsX W X (.slice A n c) ks) (hl : n ≤ 1000000000) :
  Calls Tryd.prog 91 #[.slice A n c] W fun e w' => (∃ v, e = .returned v ∧ OwnS w' W.heap.size v ks) ∧ Keeps Nob W w' := by
 have HN := Lib.hid (strs_len hs)
 have HB := Lib.hid hs
 cases A with
 | none =>
   have Hs := Lib.hid (strs_none hs)
   have hnil := sl22_nil n c
   clear hs
   go_enter Tryd.func91, Tryd.ntmps91
   go_wp2
   go_ret
   refine ⟨⟨_, rfl, ?_⟩, Keeps.refl _ _⟩
   rw [Hs.out]
   exact OwnS.nil _ _
 | some ad =>
   obtain ⟨b, o, sp⟩ := ad
   have hnil := sl22_some b o sp n c
   clear hs
   go_enter Tryd.func91, Tryd.ntmps91
   go_wp2_with (first
    | ((with_reducible refine at_dst (N := 5) rfl ?_); go_must (refine ev_slice (cs := #[]) (t := 9) (n := 0) (c := 0) rfl (by first | (go_simp; done) | (go_simp; rfl)) ?_; intro g w1 hg hlg hbg hkg)
       have Hbg := Lib.hid hbg
       have Hkg := Lib.hid hkg
       have Hg := Lib.hid hg
       clear hbg hkg hg hlg
       (try simp only [PU]))
    | ((with_reducible refine at_dst (N := 7) rfl ?_)
       go_must (refine ev_append rfl rfl Tryd.underlying22 info9b rfl (by decide) (base := W.heap.size) (v := .slice (some ⟨g, 0, none⟩) 0 0) (n := 0) (xs := []) rfl ⟨rfl, .inr ⟨g, 0, #[], rfl, Hg.out, Hbg.out, Nat.zero_le _, by decide, rfl, rfl⟩⟩ rfl (news := ks.map Value.string) (by rw [List.length_map, Nat.mul_one]; exact HN.out.symm) (strs_news (HB.out.keep (X' := X) Hkg.out (fun _ _ _ => id) (fun _ _ h => h))) (fun u hu => by obtain ⟨k, -, rfl⟩ := List.mem_map.1 hu; rfl) (by omega) (by decide) Hkg.out.size ?_; intro v' w2 ho2 hk2 hr2 hf2)
       have Ho2 := Lib.hid (show OwnS w2 W.heap.size v' ks from (show w2.ownsRow W.heap.size 9 1 v' ks.length (ks.map Value.string) by have h := ho2; rw [Nat.zero_add, HN.out] at h; exact h))
       have Ha2 := Lib.hid (show Keeps Nob W w2 from Hkg.out.trans hk2 (fun i hi e => by have := Hg.out; have e' : i = g := Option.some.inj e; omega))
       clear ho2 hk2 hr2 hf2
       (try simp only [PU]))
   )
   go_ret
   exact ⟨⟨_, rfl, Ho2.out⟩, Ha2.out⟩
def flat6 (u : Nat → Nat → Value) : Nat → List Value
 | 0 => []
 | n + 1 => flat6 u n ++ [u n 0, u n 1, u n 2, u n 3, u n 4, u n 5]
theorem flat6_len (u : Nat → Nat → Value) : ∀ n, (flat6 u n).length = n * 6
 | 0 => rfl
 | n + 1 => by unfold flat6; rw [List.length_append, flat6_len u n]; simp only [List.length_cons, List.length_nil]; omega
theorem flat6_six (u : Nat → Nat → Value) : ∀ {n i : Nat}, i < n → sixAt (flat6 u n) i = .agg #[u i 0, u i 1, u i 2, u i 3, u i 4, u i 5]
 | n + 1, i, h => by
   unfold flat6
   by_cases e : i < n
   · rw [sixAt_append (flat6_len u n) e]; exact flat6_six u e
   · obtain rfl : i = n := by omega
     exact sixAt_last (flat6_len u i)
theorem flat6_get (u : Nat → Nat → Value) : ∀ {n j : Nat} {v : Value}, (flat6 u n)[j]? = some v → ∃ i k, i < n ∧ k < 6 ∧ j = i * 6 + k ∧ v = u i k
 | 0, j, v, h => by simp [flat6] at h
 | n + 1, j, v, h => by
   unfold flat6 at h
   by_cases hj : j < n * 6
   · rw [List.getElem?_append_left (by rw [flat6_len]; exact hj)] at h
     obtain ⟨i, k, hi, hk, e, hv⟩ := flat6_get u h
     exact ⟨i, k, by omega, hk, e, hv⟩
   · rw [List.getElem?_append_right (by rw [flat6_len]; omega), flat6_len] at h
     refine ⟨n, j - n * 6, by omega, ?_, by omega, ?_⟩
     · have := (List.getElem?_eq_some_iff.1 h).1
       simpa using this
     · match j - n * 6, h with
       | 0, h => simpa using h.symm
       | 1, h => simpa using h.symm
       | 2, h => simpa using h.symm
       | 3, h => simpa using h.symm
       | 4, h => simpa using h.symm
       | 5, h => simpa using h.symm
       | k + 6, h => simp at h
theorem six_get {w : World} {b o : Nat} {u : Nat → Value} (h : Six w b o (u 0) (u 1) (u 2) (u 3) (u 4) (u 5)) {k : Nat} (hk : k < 6) : w.cell? ⟨b, o + k, none⟩ = some (u k) := by
 obtain ⟨⟨h0, h1, h2⟩, h3, h4, h5⟩ := h
 match k, hk with
 | 0, _ => exact h0
 | 1, _ => exact h1
 | 2, _ => exact h2
 | 3, _ => exact h3
 | 4, _ => exact h4
 | 5, _ => exact h5
theorem flat6_news {W : World} {X : Nat → Prop} {A : Option Addr} {n : Nat} {u : Nat → Nat → Value} (hA : ∀ i, i < n → ∃ b o, A = some ⟨b, o, none⟩ ∧ X b ∧ Six W b (o + i * 6) (u i 0) (u i 1) (u i 2) (u i 3) (u i 4) (u i 5)) : 0 < n → ∃ ad, A = some ad ∧ ∀ j x, (flat6 u n)[j]? = some x → W.cell? (ad.add j) = some x := fun hn => by
 obtain ⟨b, o, e4, -, -⟩ := hA 0 hn
 refine ⟨⟨b, o, none⟩, e4, fun j x hj => ?_⟩
 obtain ⟨i, k, hi, hk, rfl, rfl⟩ := flat6_get u hj
 obtain ⟨b', o', e5, -, h6⟩ := hA i hi
 rw [e4] at e5
 injection e5 with e5
 injection e5 with e6 e7
 subst e6; subst e7
 rw [show (⟨b, o, none⟩ : Addr).add (i * 6 + k) = ⟨b, o + i * 6 + k, none⟩ by unfold Addr.add; split <;> simp_all <;> omega]
 exact six_get (u := u i) h6 hk
theorem flat6_one {W : World} {X : Nat → Prop} {n : Nat} {u : Nat → Nat → Value} {vs : List J} (hv : ∀ i, i < n → JX W X (.agg #[u i 0, u i 1, u i 2, u i 3, u i 4, u i 5]) (vs.getD i default)) : ∀ x ∈ flat6 u n, x.oneCell' = true := fun x hx => by
 obtain ⟨j, hj⟩ := List.mem_iff_getElem?.1 hx
 obtain ⟨i, k, hi, hk, -, rfl⟩ := flat6_get u hj
 obtain ⟨k', b', n', t', A', nk, c', B', nv, d', ⟨h0, h1, h2⟩, h3, h4, h5⟩ := (hv i hi).six
 match k, hk with
 | 0, _ => rw [h0]; rfl
 | 1, _ => rw [h1]; rfl
 | 2, _ => rw [h2]; rfl
 | 3, _ => rw [h3]; rfl
 | 4, _ => rw [h4]; rfl
 | 5, _ => rw [h5]; rfl
set_option maxHeartbeats 2000000 in
theorem clone92 {W : World} {X : Nat → Prop} {A : Option Addr} {n c : Nat} {u : Nat → Nat → Value} {vs : List J} (hA : ∀ i, i < n → ∃ b o, A = some ⟨b, o, none⟩ ∧ X b ∧ Six W b (o + i * 6) (u i 0) (u i 1) (u i 2) (u i 3) (u i 4) (u i 5))
  (hv : ∀ i, i < n → JX W X (.agg #[u i 0, u i 1, u i 2, u i 3, u i 4, u i 5]) (vs.getD i default)) (hl : n ≤ 1000000000) :
  Calls Tryd.prog 92 #[.slice A n c] W fun e w' => (∃ v, e = .returned v ∧ w'.ownsRow W.heap.size 25 6 v n (flat6 u n)) ∧ Keeps Nob W w' := by
 have HA := Lib.hid hA
 have HV := Lib.hid hv
 cases A with
 | none =>
   have Hs := Lib.hid (show n = 0 by
    rcases Nat.eq_zero_or_pos n with h | h
    · exact h
    · obtain ⟨b, o, e, -⟩ := hA 0 h; cases e)
   have hnil := sl23_nil n c
   clear hA hv
   go_enter Tryd.func92, Tryd.ntmps92
   go_wp2
   go_ret
   refine ⟨⟨_, rfl, ?_⟩, Keeps.refl _ _⟩
   rw [Hs.out]
   exact ⟨rfl, .inl ⟨rfl, rfl⟩⟩
 | some ad =>
   obtain ⟨b, o, sp⟩ := ad
   have hnil := sl23_some b o sp n c
   clear hA hv
   go_enter Tryd.func92, Tryd.ntmps92
   go_wp2_with (first
    | ((with_reducible refine at_dst (N := 5) rfl ?_); go_must (refine ev_slice (cs := #[]) (t := 25) (n := 0) (c := 0) rfl (by first | (go_simp; done) | (go_simp; rfl)) ?_; intro g w1 hg hlg hbg hkg)
       have Hbg := Lib.hid hbg
       have Hkg := Lib.hid hkg
       have Hg := Lib.hid hg
       clear hbg hkg hg hlg
       (try simp only [PU]))
    | ((with_reducible refine at_dst (N := 7) rfl ?_)
       go_must (refine ev_append rfl rfl Tryd.underlying23 info25b rfl (by decide) (base := W.heap.size) (v := .slice (some ⟨g, 0, none⟩) 0 0) (n := 0) (xs := []) rfl ⟨rfl, .inr ⟨g, 0, #[], rfl, Hg.out, Hbg.out, Nat.zero_le _, by decide, rfl, rfl⟩⟩ rfl (news := flat6 u n) (flat6_len u n) (flat6_news (X := X) (fun i hi => by obtain ⟨b, o, e, hb, h6⟩ := HA.out i hi; exact ⟨b, o, e, hb, h6.keep Hkg.out id⟩)) (flat6_one HV.out) (by omega) (by decide) Hkg.out.size ?_; intro v' w2 ho2 hk2 hr2 hf2)
       have Ho2 := Lib.hid (show w2.ownsRow W.heap.size 25 6 v' n (flat6 u n) by have h := ho2; rw [Nat.zero_add] at h; exact h)
       have Ha2 := Lib.hid (show Keeps Nob W w2 from Hkg.out.trans hk2 (fun i hi e => by have := Hg.out; have e' : i = g := Option.some.inj e; omega))
       clear ho2 hk2 hr2 hf2
       (try simp only [PU]))
   )
   go_ret
   exact ⟨⟨_, rfl, Ho2.out⟩, Ha2.out⟩
end Go.Proofs.WV
