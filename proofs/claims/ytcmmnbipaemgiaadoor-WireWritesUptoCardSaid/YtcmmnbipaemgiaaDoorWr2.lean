/-
  The law WireWrites, by the program, in memory. Condition: the standard library's table of powers lies; the value lies, of a size that an int counts.
-/
import Derived.Test.YtcmmnbipaemgiaaDoorWr1
import Derived.ChangeSlices
import Derived.ChangeArms
import Derived.Carry
namespace Go.Proofs.WV
open Go.RowKit Go.Proofs.KL Go.Proofs.WM
set_option maxRecDepth 100000
set_option linter.unusedSimpArgs false
set_option linter.unusedVariables false

theorem writeJ_no {j : J} (h : checkJ j ≠ 0) : (writeJ j).1 = [] := by
  unfold checkJ at h
  unfold writeJ
  split at h
  · rename_i h1; rw [if_pos h1]
  split at h
  · rename_i h1 h2; rw [if_neg h1, if_pos h2]
  · exact absurd rfl h
set_option maxHeartbeats 8000000 in
theorem WireWrites_any {w : World} {v : Value} {j : J} (ht : Tab w w.heap.size) (h : JX w (fun _ => True) v j) (hb : sizeJ j ≤ 100000000) : Calls Tryd.prog 3 #[v] w fun e w' => e = .returned (.bool true) ∧ Keeps Nob w w' := by
  obtain ⟨jk, jb, jn, jt, ks, vs, kv, vv, hjj, rfl, hjk, hjv⟩ := h.open
  obtain ⟨kA, kc, rfl, -, -⟩ := id hjk
  obtain ⟨vA, vc, ru, rfl, -, -, -⟩ := id hjv
  generalize ks.length = kl at *
  generalize vs.length = vl at *
  obtain ⟨i25, hi25, hs25⟩ := info25
  have HI := Lib.hid (And.intro hi25 hs25)
  have HT := Lib.hid ht
  have HV := Lib.hid h.low
  have HJ := Lib.hid (show sizeJ j ≤ 10000000000 ∧ sizeJ j ≤ 1000000000000 by omega)
  have H12 := Lib.hid (fun (W' : World) (g9 : Nat) (hg : W'.heap[g9]? = some (.cells #[.int .i64 jk, .bool jb, .int .i64 jn, .string jt, .slice kA kl kc, .slice vA vl vc] 25 (0, 0))) (hx : JX W' (fun b => b < w.heap.size) (.agg #[.int .i64 jk, .bool jb, .int .i64 jn, .string jt, .slice kA kl kc, .slice vA vl vc]) j) =>
    small12 (js1 (X := fun _ => True) hg trivial (hx.keep (Keeps.refl Nob W') (fun _ _ _ => id) (fun _ _ _ => trivial))) (by simp only [List.mem_cons, List.not_mem_nil, or_false]; rintro j' rfl; omega) (by decide))
  rw [small_one] at H12
  clear ht h hjk hjv hi25 hs25
  by_cases hsm : sizeJ j ≤ 3000
  · have Hsm := Lib.hid (decide_eq_true hsm)
    by_cases hc : checkJ j = 0
    · have Hck := Lib.hid hc
      obtain ⟨p1, p2⟩ := back_plain hsm hc
      have hfm : formedJ j = true := by
        rcases hf : formedJ j with _ | _
        · unfold checkJ at hc; rw [if_pos hf] at hc; cases hc
        · rfl
      have h15 : ∀ W X v, JX W X v j → Tab W W.heap.size → Calls Tryd.prog 15 #[v] W fun e w' => e = .returned (.tuple #[.string (mkB (textJ j)), .int .i64 0]) ∧ Keeps Nob W w' := fun W X v h ht => by
        have := write15 h ht HJ.out.1
        rw [p1] at this
        exact this
      have h17 : ∀ (w0 : World), JX w0 (fun b => b < w.heap.size) (.agg #[.int .i64 jk, .bool jb, .int .i64 jn, .string jt, .slice kA kl kc, .slice vA vl vc]) j → ∀ W, Keeps Nob w0 W → Tab W W.heap.size → Calls Tryd.prog 17 #[.agg #[.int .i64 jk, .bool jb, .int .i64 jn, .string jt, .slice kA kl kc, .slice vA vl vc]] W fun e w' => e = .returned (.string (mkB (textJ j))) ∧ Keeps Nob W w' := fun w0 h W hk ht => text17 h W hk ht hfm HJ.out.1
      generalize mkB (textJ j) = S at *
      have H15 := Lib.hid h15
      have H17 := Lib.hid h17
      clear hsm hc p1 p2 h15 h17 hjj hb hfm
      go_enter Tryd.func3, Tryd.ntmps3
      go_wp2_with (first
        | ((with_reducible refine at_dst (N := 1) rfl ?_); go_must (refine ev_box (cs := #[.int .i64 jk, .bool jb, .int .i64 jn, .string jt, .slice kA kl kc, .slice vA vl vc]) rfl rfl rfl ?_; intro g1 w1 hg1 hl1 hb1 hk1)
           have Hb1 := Lib.hid hb1
           have HV := Lib.hid (HV.out.after hk1)
           have HK := Lib.hid hk1
           have s0 := (blk_cell Hb1.out 0).trans rfl
           have s1 := (blk_cell Hb1.out 1).trans rfl
           have s2 := (blk_cell Hb1.out 2).trans rfl
           have s3 := (blk_cell Hb1.out 3).trans rfl
           have s4 := (blk_cell Hb1.out 4).trans rfl
           have s5 := (blk_cell Hb1.out 5).trans rfl
           clear hb1 hk1 hg1 hl1
           (try simp only [PU]))
        | ((with_reducible refine at_dst (N := 7) rfl ?_); go_must (refine ev_slice (cs := #[.int .i64 jk, .bool jb, .int .i64 jn, .string jt, .slice kA kl kc, .slice vA vl vc]) (t := 25) (n := 1) (c := 1) rfl (by first | (go_simp; done) | (go_simp; rfl)) ?_; intro g9 w2 hg2 hl2 hb2 hk2)
           have Hb9 := Lib.hid hb2
           have Hb1 := Lib.hid (hk2.blk Hb1.out id)
           have HV := Lib.hid (HV.out.after hk2)
           have HK := Lib.hid (HK.out.trans hk2 (fun _ _ h => h))
           clear hb2 hk2 hg2 hl2 s0 s1 s2 s3 s4 s5
           have s0 := (blk_cell Hb1.out 0).trans rfl
           have s1 := (blk_cell Hb1.out 1).trans rfl
           have s2 := (blk_cell Hb1.out 2).trans rfl
           have s3 := (blk_cell Hb1.out 3).trans rfl
           have s4 := (blk_cell Hb1.out 4).trans rfl
           have s5 := (blk_cell Hb1.out 5).trans rfl
           (try simp only [PU]))
        | (go_at_call 12; go_must (refine (H12.out _ _ Hb9.out HV.out).mono ?_; rintro e w3 ⟨rfl, hk3⟩; rw [Hsm.out])
           have Hb1 := Lib.hid (hk3.blk Hb1.out id)
           have HV := Lib.hid (HV.out.after hk3)
           have HK := Lib.hid (HK.out.trans hk3 (fun _ _ h => h))
           clear hk3 s0 s1 s2 s3 s4 s5
           have s0 := (blk_cell Hb1.out 0).trans rfl
           have s1 := (blk_cell Hb1.out 1).trans rfl
           have s2 := (blk_cell Hb1.out 2).trans rfl
           have s3 := (blk_cell Hb1.out 3).trans rfl
           have s4 := (blk_cell Hb1.out 4).trans rfl
           have s5 := (blk_cell Hb1.out 5).trans rfl
           (try simp only [PU]))
        | (go_at_call 15; go_must (refine (H15.out _ _ _ HV.out (Tab.after HT.out HK.out)).mono ?_; rintro e w4 ⟨rfl, hk4⟩)
           have Hb1 := Lib.hid (hk4.blk Hb1.out id)
           have HV := Lib.hid (HV.out.after hk4)
           have HK := Lib.hid (HK.out.trans hk4 (fun _ _ h => h))
           clear hk4 s0 s1 s2 s3 s4 s5
           have s0 := (blk_cell Hb1.out 0).trans rfl
           have s1 := (blk_cell Hb1.out 1).trans rfl
           have s2 := (blk_cell Hb1.out 2).trans rfl
           have s3 := (blk_cell Hb1.out 3).trans rfl
           have s4 := (blk_cell Hb1.out 4).trans rfl
           have s5 := (blk_cell Hb1.out 5).trans rfl
           (try simp only [PU]))
        | (go_at_call 14; go_must (refine (check14 HV.out (Tab.after HT.out HK.out) HJ.out.1).mono ?_; rintro e w4 ⟨rfl, hk4⟩; rw [Hck.out])
           have Hb1 := Lib.hid (hk4.blk Hb1.out id)
           have HV := Lib.hid (HV.out.after hk4)
           have HK := Lib.hid (HK.out.trans hk4 (fun _ _ h => h))
           clear hk4 s0 s1 s2 s3 s4 s5
           have s0 := (blk_cell Hb1.out 0).trans rfl
           have s1 := (blk_cell Hb1.out 1).trans rfl
           have s2 := (blk_cell Hb1.out 2).trans rfl
           have s3 := (blk_cell Hb1.out 3).trans rfl
           have s4 := (blk_cell Hb1.out 4).trans rfl
           have s5 := (blk_cell Hb1.out 5).trans rfl
           (try simp only [PU]))
        | (go_at_call 16; go_must (refine (check16 HV.out (Tab.after HT.out HK.out) HJ.out.1).mono ?_; rintro e w4 ⟨rfl, hk4⟩; rw [Hck.out])
           have Hb1 := Lib.hid (hk4.blk Hb1.out id)
           have HV := Lib.hid (HV.out.after hk4)
           have HK := Lib.hid (HK.out.trans hk4 (fun _ _ h => h))
           clear hk4 s0 s1 s2 s3 s4 s5
           have s0 := (blk_cell Hb1.out 0).trans rfl
           have s1 := (blk_cell Hb1.out 1).trans rfl
           have s2 := (blk_cell Hb1.out 2).trans rfl
           have s3 := (blk_cell Hb1.out 3).trans rfl
           have s4 := (blk_cell Hb1.out 4).trans rfl
           have s5 := (blk_cell Hb1.out 5).trans rfl
           (try simp only [PU]))
        | (go_at_call 17; go_must (refine (H17.out _ HV.out _ (Keeps.refl Nob _) (Tab.after HT.out HK.out)).mono ?_; rintro e w4 ⟨rfl, hk4⟩)
           have Hb1 := Lib.hid (hk4.blk Hb1.out id)
           have HV := Lib.hid (HV.out.after hk4)
           have HK := Lib.hid (HK.out.trans hk4 (fun _ _ h => h))
           clear hk4 s0 s1 s2 s3 s4 s5
           have s0 := (blk_cell Hb1.out 0).trans rfl
           have s1 := (blk_cell Hb1.out 1).trans rfl
           have s2 := (blk_cell Hb1.out 2).trans rfl
           have s3 := (blk_cell Hb1.out 3).trans rfl
           have s4 := (blk_cell Hb1.out 4).trans rfl
           have s5 := (blk_cell Hb1.out 5).trans rfl
           (try simp only [PU]))
        | (go_at_call 13; go_must (refine (alive13 (Tab.after HT.out HK.out)).mono ?_; rintro e w9 ⟨rfl, hk9⟩); have HKz := Lib.hid (HK.out.trans hk9 (fun _ _ h => h)); clear hk9; (try simp only [PU]))
      )
      go_ret
      exact ⟨rfl, HKz.out⟩
    · have h15 : ∀ W X v, JX W X v j → Tab W W.heap.size → Calls Tryd.prog 15 #[v] W fun e w' => e = .returned (.tuple #[.string ⟨#[]⟩, .int .i64 (checkJ j)]) ∧ Keeps Nob W w' := fun W X v h ht => by
        have := write15 h ht HJ.out.1
        rw [writeJ_no hc, writeJ_check] at this
        exact this
      obtain ⟨ck, hck⟩ : ∃ c, checkJ j = c := ⟨_, rfl⟩
      have Hck := Lib.hid hck
      rw [hck] at h15 hc
      have hcb : (ck == 0) = false := beq_eq_false_iff_ne.2 hc
      have H15 := Lib.hid h15
      have H17 := Lib.hid True.intro
      clear hsm h15 hjj hb hck
      go_enter Tryd.func3, Tryd.ntmps3
      go_wp2_with (first
        | ((with_reducible refine at_dst (N := 1) rfl ?_); go_must (refine ev_box (cs := #[.int .i64 jk, .bool jb, .int .i64 jn, .string jt, .slice kA kl kc, .slice vA vl vc]) rfl rfl rfl ?_; intro g1 w1 hg1 hl1 hb1 hk1)
           have Hb1 := Lib.hid hb1
           have HV := Lib.hid (HV.out.after hk1)
           have HK := Lib.hid hk1
           have s0 := (blk_cell Hb1.out 0).trans rfl
           have s1 := (blk_cell Hb1.out 1).trans rfl
           have s2 := (blk_cell Hb1.out 2).trans rfl
           have s3 := (blk_cell Hb1.out 3).trans rfl
           have s4 := (blk_cell Hb1.out 4).trans rfl
           have s5 := (blk_cell Hb1.out 5).trans rfl
           clear hb1 hk1 hg1 hl1
           (try simp only [PU]))
        | ((with_reducible refine at_dst (N := 7) rfl ?_); go_must (refine ev_slice (cs := #[.int .i64 jk, .bool jb, .int .i64 jn, .string jt, .slice kA kl kc, .slice vA vl vc]) (t := 25) (n := 1) (c := 1) rfl (by first | (go_simp; done) | (go_simp; rfl)) ?_; intro g9 w2 hg2 hl2 hb2 hk2)
           have Hb9 := Lib.hid hb2
           have Hb1 := Lib.hid (hk2.blk Hb1.out id)
           have HV := Lib.hid (HV.out.after hk2)
           have HK := Lib.hid (HK.out.trans hk2 (fun _ _ h => h))
           clear hb2 hk2 hg2 hl2 s0 s1 s2 s3 s4 s5
           have s0 := (blk_cell Hb1.out 0).trans rfl
           have s1 := (blk_cell Hb1.out 1).trans rfl
           have s2 := (blk_cell Hb1.out 2).trans rfl
           have s3 := (blk_cell Hb1.out 3).trans rfl
           have s4 := (blk_cell Hb1.out 4).trans rfl
           have s5 := (blk_cell Hb1.out 5).trans rfl
           (try simp only [PU]))
        | (go_at_call 12; go_must (refine (H12.out _ _ Hb9.out HV.out).mono ?_; rintro e w3 ⟨rfl, hk3⟩; rw [Hsm.out])
           have Hb1 := Lib.hid (hk3.blk Hb1.out id)
           have HV := Lib.hid (HV.out.after hk3)
           have HK := Lib.hid (HK.out.trans hk3 (fun _ _ h => h))
           clear hk3 s0 s1 s2 s3 s4 s5
           have s0 := (blk_cell Hb1.out 0).trans rfl
           have s1 := (blk_cell Hb1.out 1).trans rfl
           have s2 := (blk_cell Hb1.out 2).trans rfl
           have s3 := (blk_cell Hb1.out 3).trans rfl
           have s4 := (blk_cell Hb1.out 4).trans rfl
           have s5 := (blk_cell Hb1.out 5).trans rfl
           (try simp only [PU]))
        | (go_at_call 15; go_must (refine (H15.out _ _ _ HV.out (Tab.after HT.out HK.out)).mono ?_; rintro e w4 ⟨rfl, hk4⟩)
           have Hb1 := Lib.hid (hk4.blk Hb1.out id)
           have HV := Lib.hid (HV.out.after hk4)
           have HK := Lib.hid (HK.out.trans hk4 (fun _ _ h => h))
           clear hk4 s0 s1 s2 s3 s4 s5
           have s0 := (blk_cell Hb1.out 0).trans rfl
           have s1 := (blk_cell Hb1.out 1).trans rfl
           have s2 := (blk_cell Hb1.out 2).trans rfl
           have s3 := (blk_cell Hb1.out 3).trans rfl
           have s4 := (blk_cell Hb1.out 4).trans rfl
           have s5 := (blk_cell Hb1.out 5).trans rfl
           (try simp only [PU]))
        | (go_at_call 14; go_must (refine (check14 HV.out (Tab.after HT.out HK.out) HJ.out.1).mono ?_; rintro e w4 ⟨rfl, hk4⟩; rw [Hck.out])
           have Hb1 := Lib.hid (hk4.blk Hb1.out id)
           have HV := Lib.hid (HV.out.after hk4)
           have HK := Lib.hid (HK.out.trans hk4 (fun _ _ h => h))
           clear hk4 s0 s1 s2 s3 s4 s5
           have s0 := (blk_cell Hb1.out 0).trans rfl
           have s1 := (blk_cell Hb1.out 1).trans rfl
           have s2 := (blk_cell Hb1.out 2).trans rfl
           have s3 := (blk_cell Hb1.out 3).trans rfl
           have s4 := (blk_cell Hb1.out 4).trans rfl
           have s5 := (blk_cell Hb1.out 5).trans rfl
           (try simp only [PU]))
        | (go_at_call 16; go_must (refine (check16 HV.out (Tab.after HT.out HK.out) HJ.out.1).mono ?_; rintro e w4 ⟨rfl, hk4⟩; rw [Hck.out])
           have Hb1 := Lib.hid (hk4.blk Hb1.out id)
           have HV := Lib.hid (HV.out.after hk4)
           have HK := Lib.hid (HK.out.trans hk4 (fun _ _ h => h))
           clear hk4 s0 s1 s2 s3 s4 s5
           have s0 := (blk_cell Hb1.out 0).trans rfl
           have s1 := (blk_cell Hb1.out 1).trans rfl
           have s2 := (blk_cell Hb1.out 2).trans rfl
           have s3 := (blk_cell Hb1.out 3).trans rfl
           have s4 := (blk_cell Hb1.out 4).trans rfl
           have s5 := (blk_cell Hb1.out 5).trans rfl
           (try simp only [PU]))
        | (go_at_call 17; go_must (refine (H17.out _ HV.out _ (Keeps.refl Nob _) (Tab.after HT.out HK.out)).mono ?_; rintro e w4 ⟨rfl, hk4⟩)
           have Hb1 := Lib.hid (hk4.blk Hb1.out id)
           have HV := Lib.hid (HV.out.after hk4)
           have HK := Lib.hid (HK.out.trans hk4 (fun _ _ h => h))
           clear hk4 s0 s1 s2 s3 s4 s5
           have s0 := (blk_cell Hb1.out 0).trans rfl
           have s1 := (blk_cell Hb1.out 1).trans rfl
           have s2 := (blk_cell Hb1.out 2).trans rfl
           have s3 := (blk_cell Hb1.out 3).trans rfl
           have s4 := (blk_cell Hb1.out 4).trans rfl
           have s5 := (blk_cell Hb1.out 5).trans rfl
           (try simp only [PU]))
        | (go_at_call 13; go_must (refine (alive13 (Tab.after HT.out HK.out)).mono ?_; rintro e w9 ⟨rfl, hk9⟩); have HKz := Lib.hid (HK.out.trans hk9 (fun _ _ h => h)); clear hk9; (try simp only [PU]))
      )
      go_ret
      exact ⟨rfl, HKz.out⟩
  · have Hsm := Lib.hid (decide_eq_false hsm)
    have H15 := Lib.hid True.intro
    have H17 := Lib.hid True.intro
    have Hck := Lib.hid True.intro
    clear hsm hjj hb
    go_enter Tryd.func3, Tryd.ntmps3
    go_wp2_with (first
      | ((with_reducible refine at_dst (N := 1) rfl ?_); go_must (refine ev_box (cs := #[.int .i64 jk, .bool jb, .int .i64 jn, .string jt, .slice kA kl kc, .slice vA vl vc]) rfl rfl rfl ?_; intro g1 w1 hg1 hl1 hb1 hk1)
         have Hb1 := Lib.hid hb1
         have HV := Lib.hid (HV.out.after hk1)
         have HK := Lib.hid hk1
         have s0 := (blk_cell Hb1.out 0).trans rfl
         have s1 := (blk_cell Hb1.out 1).trans rfl
         have s2 := (blk_cell Hb1.out 2).trans rfl
         have s3 := (blk_cell Hb1.out 3).trans rfl
         have s4 := (blk_cell Hb1.out 4).trans rfl
         have s5 := (blk_cell Hb1.out 5).trans rfl
         clear hb1 hk1 hg1 hl1
         (try simp only [PU]))
      | ((with_reducible refine at_dst (N := 7) rfl ?_); go_must (refine ev_slice (cs := #[.int .i64 jk, .bool jb, .int .i64 jn, .string jt, .slice kA kl kc, .slice vA vl vc]) (t := 25) (n := 1) (c := 1) rfl (by first | (go_simp; done) | (go_simp; rfl)) ?_; intro g9 w2 hg2 hl2 hb2 hk2)
         have Hb9 := Lib.hid hb2
         have Hb1 := Lib.hid (hk2.blk Hb1.out id)
         have HV := Lib.hid (HV.out.after hk2)
         have HK := Lib.hid (HK.out.trans hk2 (fun _ _ h => h))
         clear hb2 hk2 hg2 hl2 s0 s1 s2 s3 s4 s5
         have s0 := (blk_cell Hb1.out 0).trans rfl
         have s1 := (blk_cell Hb1.out 1).trans rfl
         have s2 := (blk_cell Hb1.out 2).trans rfl
         have s3 := (blk_cell Hb1.out 3).trans rfl
         have s4 := (blk_cell Hb1.out 4).trans rfl
         have s5 := (blk_cell Hb1.out 5).trans rfl
         (try simp only [PU]))
      | (go_at_call 12; go_must (refine (H12.out _ _ Hb9.out HV.out).mono ?_; rintro e w3 ⟨rfl, hk3⟩; rw [Hsm.out])
         have Hb1 := Lib.hid (hk3.blk Hb1.out id)
         have HV := Lib.hid (HV.out.after hk3)
         have HK := Lib.hid (HK.out.trans hk3 (fun _ _ h => h))
         clear hk3 s0 s1 s2 s3 s4 s5
         have s0 := (blk_cell Hb1.out 0).trans rfl
         have s1 := (blk_cell Hb1.out 1).trans rfl
         have s2 := (blk_cell Hb1.out 2).trans rfl
         have s3 := (blk_cell Hb1.out 3).trans rfl
         have s4 := (blk_cell Hb1.out 4).trans rfl
         have s5 := (blk_cell Hb1.out 5).trans rfl
         (try simp only [PU]))
      | (go_at_call 15; go_must (refine (H15.out _ _ _ HV.out (Tab.after HT.out HK.out)).mono ?_; rintro e w4 ⟨rfl, hk4⟩)
         have Hb1 := Lib.hid (hk4.blk Hb1.out id)
         have HV := Lib.hid (HV.out.after hk4)
         have HK := Lib.hid (HK.out.trans hk4 (fun _ _ h => h))
         clear hk4 s0 s1 s2 s3 s4 s5
         have s0 := (blk_cell Hb1.out 0).trans rfl
         have s1 := (blk_cell Hb1.out 1).trans rfl
         have s2 := (blk_cell Hb1.out 2).trans rfl
         have s3 := (blk_cell Hb1.out 3).trans rfl
         have s4 := (blk_cell Hb1.out 4).trans rfl
         have s5 := (blk_cell Hb1.out 5).trans rfl
         (try simp only [PU]))
      | (go_at_call 14; go_must (refine (check14 HV.out (Tab.after HT.out HK.out) HJ.out.1).mono ?_; rintro e w4 ⟨rfl, hk4⟩; rw [Hck.out])
         have Hb1 := Lib.hid (hk4.blk Hb1.out id)
         have HV := Lib.hid (HV.out.after hk4)
         have HK := Lib.hid (HK.out.trans hk4 (fun _ _ h => h))
         clear hk4 s0 s1 s2 s3 s4 s5
         have s0 := (blk_cell Hb1.out 0).trans rfl
         have s1 := (blk_cell Hb1.out 1).trans rfl
         have s2 := (blk_cell Hb1.out 2).trans rfl
         have s3 := (blk_cell Hb1.out 3).trans rfl
         have s4 := (blk_cell Hb1.out 4).trans rfl
         have s5 := (blk_cell Hb1.out 5).trans rfl
         (try simp only [PU]))
      | (go_at_call 16; go_must (refine (check16 HV.out (Tab.after HT.out HK.out) HJ.out.1).mono ?_; rintro e w4 ⟨rfl, hk4⟩; rw [Hck.out])
         have Hb1 := Lib.hid (hk4.blk Hb1.out id)
         have HV := Lib.hid (HV.out.after hk4)
         have HK := Lib.hid (HK.out.trans hk4 (fun _ _ h => h))
         clear hk4 s0 s1 s2 s3 s4 s5
         have s0 := (blk_cell Hb1.out 0).trans rfl
         have s1 := (blk_cell Hb1.out 1).trans rfl
         have s2 := (blk_cell Hb1.out 2).trans rfl
         have s3 := (blk_cell Hb1.out 3).trans rfl
         have s4 := (blk_cell Hb1.out 4).trans rfl
         have s5 := (blk_cell Hb1.out 5).trans rfl
         (try simp only [PU]))
      | (go_at_call 17; go_must (refine (H17.out _ HV.out _ (Keeps.refl Nob _) (Tab.after HT.out HK.out)).mono ?_; rintro e w4 ⟨rfl, hk4⟩)
         have Hb1 := Lib.hid (hk4.blk Hb1.out id)
         have HV := Lib.hid (HV.out.after hk4)
         have HK := Lib.hid (HK.out.trans hk4 (fun _ _ h => h))
         clear hk4 s0 s1 s2 s3 s4 s5
         have s0 := (blk_cell Hb1.out 0).trans rfl
         have s1 := (blk_cell Hb1.out 1).trans rfl
         have s2 := (blk_cell Hb1.out 2).trans rfl
         have s3 := (blk_cell Hb1.out 3).trans rfl
         have s4 := (blk_cell Hb1.out 4).trans rfl
         have s5 := (blk_cell Hb1.out 5).trans rfl
         (try simp only [PU]))
      | (go_at_call 13; go_must (refine (alive13 (Tab.after HT.out HK.out)).mono ?_; rintro e w9 ⟨rfl, hk9⟩); have HKz := Lib.hid (HK.out.trans hk9 (fun _ _ h => h)); clear hk9; (try simp only [PU]))
    )
    go_ret
    exact ⟨rfl, HKz.out⟩
end Go.Proofs.WV

/-
  How the statements' values lie in memory, out of their readings; how large they are. No condition.
-/
namespace Go.Proofs.WV
open Go.RowKit Go.Proofs.KL Go.Proofs.WM Go.ChangeShapes Go.Proofs.YtcmmnbipaemgiaaDoor
set_option maxRecDepth 100000
set_option linter.unusedVariables false

theorem spot_none {w : World} {a : Addr} {v : Value} (h : w.cell? a = some v) : ∃ b o, a = ⟨b, o, none⟩ := by
  obtain ⟨b, o, s⟩ := a
  cases s with
  | none => exact ⟨b, o, rfl⟩
  | some x => unfold World.cell? at h; simp only [Option.isSome_some, if_true] at h; split at h <;> cases h
theorem add_at (b o i : Nat) : (⟨b, o, none⟩ : Addr).add i = ⟨b, o + i, none⟩ := by
  unfold Addr.add
  split
  · rename_i h; subst h; rfl
  · rfl
theorem one_of {l : List Value} {i : Nat} {v : Value} (h : l[i]? = some v) : (l.drop i).take 1 = [v] := by
  obtain ⟨hi, hv⟩ := List.getElem?_eq_some_iff.1 h
  rw [List.drop_eq_getElem_cons hi, hv]; rfl
theorem list_of {α : Type} [Inhabited α] {n : Nat} {p : Nat → α → Prop} (h : ∀ i, i < n → ∃ a, p i a) : ∃ l : List α, l.length = n ∧ ∀ i, i < n → p i (l.getD i default) := by
  induction n with
  | zero => exact ⟨[], rfl, fun i hi => absurd hi (by omega)⟩
  | succ n ih =>
    obtain ⟨l, hl, hp⟩ := ih (fun i hi => h i (by omega))
    obtain ⟨a, ha⟩ := h n (by omega)
    refine ⟨l ++ [a], by simp [hl], fun i hi => ?_⟩
    rw [List.getD_eq_getElem?_getD, List.getElem?_append]
    by_cases e : i < n
    · rw [if_pos (by omega), ← List.getD_eq_getElem?_getD]; exact hp i e
    · obtain rfl : i = n := by omega
      rw [if_neg (by omega), hl]; simpa using ha
theorem cells9 : Tryd.prog.cellsOf 9 = 1 := by kernel_rfl
theorem cells3 : Tryd.prog.cellsOf 3 = 1 := by kernel_rfl
theorem cells4 : Tryd.prog.cellsOf 4 = 1 := by kernel_rfl
theorem cells2 : Tryd.prog.cellsOf 2 = 1 := by kernel_rfl
theorem cells22 : Tryd.prog.cellsOf 22 = 1 := by kernel_rfl
theorem cells23 : Tryd.prog.cellsOf 23 = 1 := by kernel_rfl
theorem cells25 : Tryd.prog.cellsOf 25 = 6 := by kernel_rfl
theorem bulk_one {H : Type} (d : DataW H) : 1 ≤ Rows.uptoBulk d := by
  cases d with
  | lit l => cases l <;> simp [Rows.uptoBulk]
  | nil => simp [Rows.uptoBulk]
  | ptr d => simp [Rows.uptoBulk]
  | slice elems spare => simp [Rows.uptoBulk]
  | agg parts => simp [Rows.uptoBulk]
  | iface t d => simp [Rows.uptoBulk]
  | map entries => simp [Rows.uptoBulk]
  | held h => simp [Rows.uptoBulk]
theorem bulk_string {H : Type} (s : ByteArray) : Rows.uptoBulk (DataW.lit (H := H) (.string s.data.toList)) = s.size + 1 := by simp [Rows.uptoBulk]
section
variable {H : Type} {enc : TypeId × Value → H} {W : World} {base : Nat} {sp : Nat → Bool} {held : Bool}
/-- A sum over a list of the elements' measures, each bounded by its datum's bulk. -/
theorem bulk_sum {H : Type} {α : Type} (f : α → Nat) : ∀ (l : List α) (es : List (DataW H × List MemPlace)), l.length = es.length → (∀ i, i < l.length → ∀ a x, l[i]? = some a → es[i]? = some x → f a ≤ Rows.uptoBulk x.1) → (l.map f).sum ≤ Rows.uptoBulkAll (es.map (·.1))
  | [], [], _, _ => by simp [Rows.uptoBulkAll]
  | a :: l, x :: es, hl, h => by
    have h0 := h 0 (by simp) a x rfl rfl
    have h1 := bulk_sum f l es (by simpa using hl) (fun i hi a' x' ha hx => h (i + 1) (by simpa using hi) a' x' (by simpa using ha) (by simpa using hx))
    simp only [List.map_cons, List.sum_cons, Rows.uptoBulkAll]
    omega
  | [], _ :: _, hl, _ => by simp at hl
  | _ :: _, [], hl, _ => by simp at hl
theorem strs_of {fuel : Nat} {v : Value} {x : DataW H × List MemPlace} (h : DataW.trod enc Tryd.prog W base sp held fuel 22 [v] = some x) : ∃ ks, StrsX W (fun _ => True) v ks ∧ ks.length + (ks.map ByteArray.size).sum + 1 ≤ Rows.uptoBulk x.1 := by
  rcases DataW.trod_slice Tryd.underlying22 h with ⟨hc, hx⟩ | ⟨a, len, cap, elems, rest, n, _, hc, hx, _, hl, _, hel, hget, _, _⟩
  · injection hc with hc _
    subst hc
    exact ⟨[], strs_nil _ _, by simpa using bulk_one x.1⟩
  · injection hc with hc _
    subst hc
    have key : ∀ i, i < len → ∃ s : ByteArray, (∃ y, elems[i]? = some y ∧ y.1 = .lit (.string s.data.toList)) ∧ ∃ b o, a = ⟨b, o, none⟩ ∧ W.cell? ⟨b, o + i, none⟩ = some (.string s) := by
      intro i hi
      have hg := hget i hi
      rw [List.getElem?_eq_getElem (by omega), cells9, Nat.mul_one] at hg
      obtain ⟨cs, hcs, hst⟩ := Option.bind_eq_some_iff.1 hg
      obtain ⟨_, hlen, hcell⟩ := World.cells?_some hcs
      obtain ⟨s, rfl, hy, _⟩ := DataW.trod_string Tryd.underlying9 hst
      have e0 := hcell 0 (by omega)
      have hadd : (a.add i).add 0 = a.add i := by simp [Addr.add]
      rw [hadd] at e0
      have hsp : ∃ b o, a = ⟨b, o, none⟩ := by
        have hg0 := hget 0 (by omega)
        rw [List.getElem?_eq_getElem (by omega), cells9, Nat.mul_one] at hg0
        obtain ⟨cs0, hcs0, _⟩ := Option.bind_eq_some_iff.1 hg0
        obtain ⟨_, hlen0, hcell0⟩ := World.cells?_some hcs0
        have := hcell0 0 (by omega)
        rw [List.getElem?_eq_getElem (by omega), show (a.add 0).add 0 = a by simp [Addr.add]] at this
        exact spot_none this
      obtain ⟨b, o, rfl⟩ := hsp
      rw [add_at] at e0
      exact ⟨s, ⟨_, List.getElem?_eq_getElem (by omega), by rw [hy]⟩, b, o, rfl, e0⟩
    obtain ⟨ks, hkl, hp⟩ := list_of (α := ByteArray) key
    refine ⟨ks, ⟨some a, cap, by rw [hkl], by omega, fun i hi => ?_⟩, ?_⟩
    · obtain ⟨_, b, o, rfl, hc⟩ := hp i (by omega)
      exact ⟨b, o, rfl, trivial, hc⟩
    · have hs := bulk_sum (fun s : ByteArray => s.size + 1) ks elems (by omega) (fun i hi s y hs hy => by
        obtain ⟨⟨y', hy', hd⟩, _⟩ := hp i (by omega)
        rw [hy] at hy'
        injection hy' with hy'
        subst hy'
        have e : ks.getD i default = s := by rw [List.getD_eq_getElem?_getD, hs]; rfl
        rw [hd, e, bulk_string]
        exact Nat.le_refl _)
      have e2 : (ks.map fun s : ByteArray => s.size + 1).sum = (ks.map ByteArray.size).sum + ks.length := by
        clear hp hkl hs
        induction ks with
        | nil => rfl
        | cons k ks ih => simp only [List.map_cons, List.sum_cons, List.length_cons, ih]; omega
      rw [hx]
      simp only [Rows.uptoBulk]
      omega
theorem sizeL_sum : ∀ vs : List J, sizeL vs = (vs.map sizeJ).sum
  | [] => rfl
  | v :: vs => by unfold sizeL; rw [sizeL_sum vs]; rfl
/-- A value, out of its reading. -/
theorem json_of : ∀ (fuel : Nat) {cs : List Value} {x : DataW H × List MemPlace}, DataW.trod enc Tryd.prog W base sp held fuel 25 cs = some x → ∃ (v0 v1 v2 v3 v4 v5 : Value) (j : J), cs = [v0, v1, v2, v3, v4, v5] ∧ JX W (fun _ => True) (.agg #[v0, v1, v2, v3, v4, v5]) j ∧ sizeJ j ≤ Rows.uptoBulk x.1 := by
  intro fuel
  induction fuel using Nat.strongRecOn with
  | _ fuel ih =>
    intro cs x h
    obtain ⟨xs, n, hfu, hx, hcl, hxl, hf⟩ := DataW.trod_struct Tryd.underlying25 h
    rw [cells25] at hcl
    have f0 : DataW.trod enc Tryd.prog W base sp held n 3 ((cs.drop 0).take (Tryd.prog.cellsOf 3)) = xs[0]? := hf 0 _ rfl
    have f1 : DataW.trod enc Tryd.prog W base sp held n 4 ((cs.drop 1).take (Tryd.prog.cellsOf 4)) = xs[1]? := hf 1 _ rfl
    have f2 : DataW.trod enc Tryd.prog W base sp held n 2 ((cs.drop 2).take (Tryd.prog.cellsOf 2)) = xs[2]? := hf 2 _ rfl
    have f3 : DataW.trod enc Tryd.prog W base sp held n 9 ((cs.drop 3).take (Tryd.prog.cellsOf 9)) = xs[3]? := hf 3 _ rfl
    have f4 : DataW.trod enc Tryd.prog W base sp held n 22 ((cs.drop 4).take (Tryd.prog.cellsOf 22)) = xs[4]? := hf 4 _ rfl
    have f5 : DataW.trod enc Tryd.prog W base sp held n 23 ((cs.drop 5).take (Tryd.prog.cellsOf 23)) = xs[5]? := hf 5 _ rfl
    have hxs : xs.length = 6 := hxl
    obtain ⟨v0, v1, v2, v3, v4, v5, rfl⟩ : ∃ v0 v1 v2 v3 v4 v5, cs = [v0, v1, v2, v3, v4, v5] := by
      match cs, hcl with
      | [v0, v1, v2, v3, v4, v5], _ => exact ⟨v0, v1, v2, v3, v4, v5, rfl⟩
    obtain ⟨x0, x1, x2, x3, x4, x5, rfl⟩ : ∃ x0 x1 x2 x3 x4 x5, xs = [x0, x1, x2, x3, x4, x5] := by
      match xs, hxs with
      | [x0, x1, x2, x3, x4, x5], _ => exact ⟨x0, x1, x2, x3, x4, x5, rfl⟩
    rw [cells3] at f0
    rw [cells4] at f1
    rw [cells2] at f2
    rw [cells9] at f3
    rw [cells22] at f4
    rw [cells23] at f5
    obtain ⟨k, hk, hx0, _⟩ := DataW.trod_int Tryd.underlying3 (show DataW.trod enc Tryd.prog W base sp held n 3 [v0] = some x0 from f0)
    obtain ⟨b, hb, hx1⟩ := DataW.trod_bool Tryd.underlying4 (show DataW.trod enc Tryd.prog W base sp held n 4 [v1] = some x1 from f1)
    obtain ⟨m, hm, hx2, _⟩ := DataW.trod_int Tryd.underlying2 (show DataW.trod enc Tryd.prog W base sp held n 2 [v2] = some x2 from f2)
    obtain ⟨t, ht, hx3, _⟩ := DataW.trod_string Tryd.underlying9 (show DataW.trod enc Tryd.prog W base sp held n 9 [v3] = some x3 from f3)
    obtain ⟨ks, hks, hkb⟩ := strs_of (show DataW.trod enc Tryd.prog W base sp held n 22 [v4] = some x4 from f4)
    injection hk with hk _
    injection hb with hb _
    injection hm with hm _
    injection ht with ht _
    subst hk hb hm ht
    have hvs : ∃ vs, JsX W (fun _ => True) v5 vs ∧ sizeL vs + 1 ≤ Rows.uptoBulk x5.1 := by
      rcases DataW.trod_slice Tryd.underlying23 (show DataW.trod enc Tryd.prog W base sp held n 23 [v5] = some x5 from f5) with ⟨hc, hx⟩ | ⟨a, len, cap, elems, rest, n', hn', hc, hx5, _, hl, _, hel, hget, _, _⟩
      · injection hc with hc _
        subst hc
        exact ⟨[], ⟨none, 0, fun _ _ => .nilIface, rfl, Nat.le_refl _, fun i hi => absurd hi (Nat.not_lt_zero _), fun i hi => absurd hi (Nat.not_lt_zero _)⟩, by simpa [sizeL] using bulk_one x5.1⟩
      · injection hc with hc _
        subst hc
        have hsp : 0 < len → ∃ b o, a = ⟨b, o, none⟩ := by
          intro h0
          have hg0 := hget 0 h0
          rw [List.getElem?_eq_getElem (by omega), cells25] at hg0
          obtain ⟨cs0, hcs0, _⟩ := Option.bind_eq_some_iff.1 hg0
          obtain ⟨_, hlen0, hcell0⟩ := World.cells?_some hcs0
          have := hcell0 0 (by omega)
          rw [List.getElem?_eq_getElem (by omega), show (0 * 6 : Nat) = 0 from rfl, show (a.add 0).add 0 = a by simp [Addr.add]] at this
          exact spot_none this
        have key : ∀ i, i < len → ∃ j : J, ∃ u : Nat → Value, (∃ y, elems[i]? = some y ∧ sizeJ j ≤ Rows.uptoBulk y.1) ∧ JX W (fun _ => True) (.agg #[u 0, u 1, u 2, u 3, u 4, u 5]) j ∧ ∃ b o, a = ⟨b, o, none⟩ ∧ Six W b (o + i * 6) (u 0) (u 1) (u 2) (u 3) (u 4) (u 5) := by
          intro i hi
          have hg := hget i hi
          rw [List.getElem?_eq_getElem (by omega), cells25] at hg
          obtain ⟨cs, hcs, hst⟩ := Option.bind_eq_some_iff.1 hg
          obtain ⟨_, hlen, hcell⟩ := World.cells?_some hcs
          obtain ⟨w0, w1, w2, w3, w4, w5, j, rfl, hj, hjb⟩ := ih n' (by omega) hst
          obtain ⟨b, o, rfl⟩ := hsp (by omega)
          have e0 := hcell 0 (by decide)
          have e1 := hcell 1 (by decide)
          have e2 := hcell 2 (by decide)
          have e3 := hcell 3 (by decide)
          have e4 := hcell 4 (by decide)
          have e5 := hcell 5 (by decide)
          simp only [add_at] at e0 e1 e2 e3 e4 e5
          exact ⟨j, fun i => [w0, w1, w2, w3, w4, w5].getD i .nilIface, ⟨_, List.getElem?_eq_getElem (by omega), hjb⟩, hj, b, o, rfl, ⟨⟨e0, e1, e2⟩, e3, e4, e5⟩⟩
        obtain ⟨vs, hvl, hp⟩ := list_of (α := J) key
        have hchoose : ∀ i : Nat, ∃ u : Nat → Value, i < len → (JX W (fun _ => True) (.agg #[u 0, u 1, u 2, u 3, u 4, u 5]) (vs.getD i default) ∧ ∃ b o, a = ⟨b, o, none⟩ ∧ Six W b (o + i * 6) (u 0) (u 1) (u 2) (u 3) (u 4) (u 5)) := fun i => by
          by_cases hi : i < len
          · obtain ⟨u, _, h1, h2⟩ := hp i hi
            exact ⟨u, fun _ => ⟨h1, h2⟩⟩
          · exact ⟨fun _ => .nilIface, fun h => absurd h hi⟩
        refine ⟨vs, ⟨some a, cap, fun i => (hchoose i).choose, by rw [hvl], by omega, fun i hi => ?_, fun i hi => ((hchoose i).choose_spec (by omega)).1⟩, ?_⟩
        · obtain ⟨b, o, rfl, h6⟩ := ((hchoose i).choose_spec (by omega)).2
          exact ⟨b, o, rfl, trivial, h6⟩
        · have hs := bulk_sum sizeJ vs elems (by omega) (fun i hi j y hj hy => by
            obtain ⟨u, ⟨y', hy', hb⟩, _⟩ := hp i (by omega)
            rw [hy] at hy'
            injection hy' with hy'
            subst hy'
            have e : vs.getD i default = j := by rw [List.getD_eq_getElem?_getD, hj]; rfl
            rw [← e]
            exact hb)
          rw [sizeL_sum, hx5]
          simp only [Rows.uptoBulk]
          omega
    obtain ⟨vs, hvs, hvb⟩ := hvs
    refine ⟨_, _, _, _, _, _, .mk k b m t ks vs, rfl, JX.close hks hvs, ?_⟩
    have h3 : Rows.uptoBulk x3.1 = t.size + 1 := by rw [hx3]; exact bulk_string t
    have h0 := bulk_one x0.1
    have h1 := bulk_one x1.1
    have h2 := bulk_one x2.1
    rw [hx]
    unfold sizeJ
    simp only [Rows.uptoBulk, List.map_cons, List.map_nil, Rows.uptoBulkAll]
    omega
end
end Go.Proofs.WV
