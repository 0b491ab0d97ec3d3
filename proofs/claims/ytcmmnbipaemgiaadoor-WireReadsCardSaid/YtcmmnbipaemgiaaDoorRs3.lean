/-
 The head of a frame (head), by the program, in memory. Condition: at most two thousand million bytes.
-/
import Derived.Test.YtcmmnbipaemgiaaDoorRs2
namespace Go.Proofs.WV
open Go.RowKit Go.Proofs.KL Go.Proofs.WM
set_option maxRecDepth 100000
set_option linter.unusedSimpArgs false
set_option linter.unusedVariables false

def HeadEnd (W : World) (x : Nat × Nat × Bool × Bool) (e : Ending) (w' : World) : Prop := e = .returned (.tuple #[.int .i64 x.1, .int .i64 x.2.1, .bool x.2.2.1, .bool x.2.2.2]) ∧ Keeps Nob W w'
theorem mkB_toList (x : Bs) : (mkB x).toList = x := ByteArray.toList_mk x
theorem begin_take (k : Nat) : (({ data := #[76, 101, 110, 103, 116, 104, 58, 32] } : ByteArray).extract 0 k).toList = beginB.take k := by
 rw [Lib.toList_data]
 simp [beginB]
theorem take_min (s : Bs) {k : Nat} (hk : min s.length 8 = k) : s.take 8 = s.take k ∧ beginB.take s.length = beginB.take k := by
 rcases Nat.le_or_ge s.length 8 with h | h
 · rw [Nat.min_eq_left h] at hk
   subst hk
   exact ⟨by rw [List.take_of_length_le h, List.take_length], rfl⟩
 · rw [Nat.min_eq_right h] at hk
   subst hk
   exact ⟨rfl, by rw [List.take_of_length_le (by exact h), List.take_of_length_le (by decide)]⟩
theorem begin_test (s : Bs) {k : Nat} (hk : min s.length 8 = k) : ((mkB (s.take k)).toList == (({ data := #[76, 101, 110, 103, 116, 104, 58, 32] } : ByteArray).extract 0 k).toList) = decide (s.take 8 = beginB.take s.length) := by
 rw [mkB_toList, begin_take, (take_min s hk).1, (take_min s hk).2]
 exact Bool.beq_eq_decide_eq _ _
theorem results_tmp4 {fn : Func} {t u v x : Tmp} (h : fn.results = #[.tmp t, .tmp u, .tmp v, .tmp x]) (tmps : Array Value) (P : Program) (w : World) :
  (results fn tmps).run P w = .ok (.tuple #[tmps[t]?.getD undef, tmps[u]?.getD undef, tmps[v]?.getD undef, tmps[x]?.getD undef]) w := by
 simp [results, h, Result.andThen]
set_option maxHeartbeats 2000000 in
theorem head_no {W : World} {X : Nat → Prop} {A : Option Addr} {n c : Nat} {s : Bs} (hb : BytesX W X (.slice A n c) s) (hne : s.take 8 ≠ beginB.take s.length) : Calls Tryd.prog 52 #[.slice A n c] W (HeadEnd W (0, 0, false, false)) := by
 obtain ⟨hn, hc⟩ := hb.len
 have hb0 := hb.sub (l := 0) (h := min n 8) (Nat.zero_le _) (Nat.min_le_left _ _)
 simp only [Nat.sub_zero, List.drop_zero] at hb0
 have hki0 : min (n : Int) 8 = ((min n 8 : Nat) : Int) := by omega
 have hkn0 : min n 8 ≤ n ∧ min n 8 ≤ 8 ∧ (n ≤ 8 → min n 8 = n) ∧ (8 ≤ n → min n 8 = 8) := by omega
 have htest := begin_test s (k := min n 8) (by rw [hn])
 obtain ⟨k, hk⟩ : ∃ k, min n 8 = k := ⟨_, rfl⟩
 rw [hk] at hb0 hki0 hkn0 htest
 have HB0 := Lib.hid hb0
 have hki := hki0
 have Hkn := Lib.hid hkn0
 have hkc : k ≤ c := by omega
 have hk8 : (k : Int) ≤ 8 := by omega
 rw [decide_eq_false hne] at htest
 clear hb hb0 hn hki0 hkn0 hk hne
 go_enter Tryd.func52, Tryd.ntmps52
 go_wp2_with fail
 refine wp_region_tree (.q 0 (.q 1 (.q 4 (.q 5 (.br [2] (fun k => .br [3] (fun k => .q 6 (.done)))))))) (fun w' => True) rfl (by kernel_rfl) (by kernel_rfl) (fun c a d v w h => by cases d <;> exact h) trivial ?_
 refine tq (some 12) ?_; (try simp only [PU])
 refine tq (some 13) ?_; (try simp only [PU])
 refine tq (some 16) ?_; (try simp only [PU])
 refine tq (some 17) ?_; (try simp only [PU])
 refine tree_e rfl rfl ?_
 go_must (refine ev_sub_h (h := k) rfl rfl byteT38 rfl rfl hkc ?_)
 (try simp only [PU])
 refine wpList_nil ⟨trivial, ?_⟩
 refine tree_e rfl rfl ?_
 go_must (refine ev_conv_bs rfl rfl Tryd.underlying38 Tryd.underlying5 Tryd.underlying9 (bs := s.take k) rfl (HB0.out.keep (X' := X) (Keeps.refl Nob W).drew (fun _ _ _ => id) (fun _ _ h => h)) ?_)
 (try simp only [PU])
 refine wpList_nil ⟨trivial, ?_⟩
 refine tq (some 18) ?_; (try simp only [PU])
 refine tree_nil ?_
 go_wp2
 refine bodyPost_ret (by rw [results_tmp4 rfl]) rfl ?_
 exact ⟨rfl, (Keeps.refl Nob W).drew⟩
end Go.Proofs.WV

namespace Go.Proofs.WV
open Go.RowKit Go.Proofs.KL Go.Proofs.WM
set_option maxRecDepth 100000
set_option linter.unusedSimpArgs false
set_option linter.unusedVariables false

theorem drop_cons {s : Bs} {i : Nat} {c : UInt8} {q : Bs} (h : s.drop i = c :: q) : i < s.length ∧ s.getD i 0 = c ∧ s.drop (i + 1) = q := by
 have hi : i < s.length := by
  rcases Nat.lt_or_ge i s.length with h' | h'
  · exact h'
  · rw [List.drop_of_length_le h'] at h; cases h
 rw [List.drop_eq_getElem_cons hi] at h
 injection h with h1 h2
 exact ⟨hi, by rw [List.getD_eq_getElem?_getD, List.getElem?_eq_getElem hi]; exact h1, h2⟩
theorem dig_zero (c : UInt8) (h : isDigit c = true) : digB c = 0 ↔ c = 48 := by
 have := dig_int c h
 constructor
 · intro h0
   refine UInt8.toNat_inj.1 ?_
   show c.toNat = 48
   omega
 · rintro rfl; rfl
theorem notdig (c : UInt8) (h : isDigit c = false) : (c.toNat : Int) < 48 ∨ 57 < (c.toNat : Int) := by
 simp only [isDigit, Bool.and_eq_false_iff, decide_eq_false_iff_not, UInt8.le_iff_toNat_le] at h
 have e1 : (48 : UInt8).toNat = 48 := rfl
 have e2 : (57 : UInt8).toNat = 57 := rfl
 omega
theorem tailH_nil (N : Nat) (any : Bool) (n : Nat) : tailH N (some (any, n, [])) = (0, 0, false, true) := by simp [tailH]
theorem tailH_none (N : Nat) (n : Nat) (r : Bs) (h : r ≠ []) : tailH N (some (false, n, r)) = (0, 0, false, false) := by simp [tailH, h]
theorem neck_prefix {w : World} {g L c : Nat} {A : Option Addr} {X : Nat → Prop} {s : Bs} {fz : Nat × Nat} (hg : w.heap[g]? = some (.cells #[.int .u8 13, .int .u8 10, .int .u8 13, .int .u8 10] 5 fz)) (hb : BytesX w X (.slice A L c) s) :
  Calls Tryd.prog 89 #[.slice (some ⟨g, 0, none⟩) 4 4, .slice A L c] w fun e w' => e = .returned (.bool (s.isPrefixOf neckB)) ∧ w' = w := by
 have hn : BytesX w (fun _ => True) (.slice (some ⟨g, 0, none⟩) 4 4) neckB := by
  refine ⟨_, 4, rfl, Nat.le_refl _, fun i hi => ⟨g, 0, rfl, trivial, ?_⟩⟩
  rw [Nat.zero_add, blk_cell hg i]
  have hi' : i < 4 := hi
  match i, hi' with
  | 0, _ => rfl
  | 1, _ => rfl
  | 2, _ => rfl
  | 3, _ => rfl
 have h := Tryd.bytes_HasPrefix_all (some ⟨g, 0, none⟩) A 4 4 L c (neckB.map fun c => (c.toNat : Int)) (s.map fun c => (c.toNat : Int)) w rfl (by rw [List.length_map]; exact hb.len.1.symm) (Nat.le_refl _) hn.nums hb.nums
 rw [bytesOf_nums, bytesOf_nums] at h
 exact h
set_option maxHeartbeats 8000000 in
theorem head_yes {W : World} {X : Nat → Prop} {A : Option Addr} {n c : Nat} {s : Bs} (hb : BytesX W X (.slice A n c) s) (hl : n ≤ 2000000000) (hne : s.take 8 = beginB.take s.length) : Calls Tryd.prog 52 #[.slice A n c] W (HeadEnd W (headH s)) := by
 obtain ⟨hn, hc⟩ := hb.len
 have hb0 := hb.sub (l := 0) (h := min n 8) (Nat.zero_le _) (Nat.min_le_left _ _)
 simp only [Nat.sub_zero, List.drop_zero] at hb0
 have hki0 : min (n : Int) 8 = ((min n 8 : Nat) : Int) := by omega
 have hkn0 : min n 8 ≤ n ∧ min n 8 ≤ 8 ∧ (n ≤ 8 → min n 8 = n) ∧ (8 ≤ n → min n 8 = 8) := by omega
 have htest := begin_test s (k := min n 8) (by rw [hn])
 obtain ⟨k, hk⟩ : ∃ k, min n 8 = k := ⟨_, rfl⟩
 rw [hk] at hb0 hki0 hkn0 htest
 have HB0 := Lib.hid hb0
 have hki := hki0
 have Hkn := Lib.hid hkn0
 have hkc : k ≤ c := by omega
 have hk8 : (k : Int) ≤ 8 := by omega
 rw [decide_eq_true hne] at htest
 have hR : headH s = tailH n (numH false 0 (s.drop k)) := by
  unfold headH
  rw [if_pos hne, hn]
  rcases Nat.le_or_ge s.length 8 with h | h
  · rw [List.drop_of_length_le h, List.drop_of_length_le (by omega)]
  · rw [show k = 8 by omega]
 rw [hR]
 obtain ⟨R0, hR0⟩ : ∃ x, numH false 0 (s.drop k) = x := ⟨_, rfl⟩
 rw [hR0]
 have HR0 := Lib.hid hR0
 have HB := Lib.hid hb
 have Hn := Lib.hid hn
 have hN : (n : Int) ≤ 2000000000 := by omega
 have hNn : n ≤ 2000000000 := hl
 have Hc := Lib.hid hc
 clear hb hb0 hn hki0 hkn0 hk hne hR hR0 hl hc
 go_enter Tryd.func52, Tryd.ntmps52
 go_wp2_with fail
 refine wp_region_tree (.q 0 (.q 1 (.q 4 (.q 5 (.br [2] (fun k => .br [3] (fun k => .q 6 (.done)))))))) (fun w' => True) rfl (by kernel_rfl) (by kernel_rfl) (fun c a d v w h => by cases d <;> exact h) trivial ?_
 refine tq (some 12) ?_; (try simp only [PU])
 refine tq (some 13) ?_; (try simp only [PU])
 refine tq (some 16) ?_; (try simp only [PU])
 refine tq (some 17) ?_; (try simp only [PU])
 refine tree_e rfl rfl ?_
 go_must (refine ev_sub_h (h := k) rfl rfl byteT38 rfl rfl hkc ?_)
 (try simp only [PU])
 refine wpList_nil ⟨trivial, ?_⟩
 refine tree_e rfl rfl ?_
 go_must (refine ev_conv_bs rfl rfl Tryd.underlying38 Tryd.underlying5 Tryd.underlying9 (bs := s.take k) rfl (HB0.out.keep (X' := X) (Keeps.refl Nob W).drew (fun _ _ _ => id) (fun _ _ h => h)) ?_)
 (try simp only [PU])
 refine wpList_nil ⟨trivial, ?_⟩
 refine tq (some 18) ?_; (try simp only [PU])
 refine tree_nil ?_
 go_upto_region 5 with fail
 go_loopg [7, 3] (n - k) (fun K atv mv wr => ∃ (i m : Nat) (any : Bool) (r : Bs), atv = .int .i64 i ∧ mv = .int .i64 m ∧ r.length ≤ K ∧ i + r.length = n ∧ k ≤ i ∧ m ≤ 1000000 ∧ Hid ((any = true ↔ k < i) ∧ s.drop i = r ∧ (any = true → (s.getD k 0 = 48 ↔ m = 0)) ∧ (any = false → m = 0)) ∧ Hid (numH any m r = R0) ∧ Hid (Keeps Nob W wr))
 case atStart => exact ⟨k, 0, false, s.drop k, rfl, rfl, by rw [List.length_drop, ← Hn.out]; omega, by rw [List.length_drop, ← Hn.out]; have := Hkn.out; omega, Nat.le_refl _, by omega, Lib.hid ⟨by simp, rfl, by simp, fun _ => rfl⟩, HR0, Lib.hid (Keeps.refl Nob W).drew⟩
 case round =>
  obtain ⟨i, m, any, r, rfl, rfl, hl, hi, hki, hm, Hr, HE, HK⟩ := hrel
  rcases r with _ | ⟨ch, q⟩
  · have e : i = n := by simpa using hi
    subst e
    have HR := Lib.hid (show R0 = some (any, m, []) by rw [← HE.out]; unfold numH; rfl)
    clear hi hl HE
    go_wp2
    (try simp only [Exit.inBlock, Exit.then])
    refine bodyPost_ret (results_tmp4 rfl _ _ _) rfl ?_
    rw [HR.out, tailH_nil]
    exact ⟨rfl, HK.out⟩
  · obtain ⟨hin, hget, hdrop⟩ := drop_cons Hr.out.2.1
    rw [← Hn.out] at hin
    simp only [List.length_cons] at hi hl
    obtain ⟨b, o, rfl, hX, hcell⟩ := (HB.out.keep (X' := X) HK.out (fun _ _ _ => id) (fun _ _ h => h)).at (by omega)
    have ci := hcell i hin
    rw [hget] at ci
    unfold byteV at ci
    have hini : (i : Int) < n := by omega
    have hkii : (k : Int) ≤ i := by omega
    obtain ⟨cv, hcv⟩ : ∃ x : Int, (ch.toNat : Int) = x := ⟨_, rfl⟩
    have hcb : 0 ≤ cv ∧ cv ≤ 255 := by have := ch.toNat_lt; omega
    rcases hdg : isDigit ch with _ | _
    · have hrange := notdig ch hdg
      rw [hcv] at ci hrange
      have HR := Lib.hid (show R0 = some (any, m, ch :: q) by rw [← HE.out]; unfold numH; rw [hdg]; rfl)
      have hie : ((i : Int) == n) = false := beq_eq_false_iff_ne.2 (by omega)
      obtain ⟨L, hL⟩ : ∃ L, min n (i + 4) - i = L := ⟨_, rfl⟩
      obtain ⟨H, hH⟩ : ∃ H, min n (i + 4) = H := ⟨_, rfl⟩
      have hmin : min (n : Int) ((i : Int) + 4) = (H : Int) := by omega
      have hsub : (HB.out.keep (X' := X) HK.out (fun _ _ _ => id) (fun _ _ h => h)).sub (l := i) (h := H) (by omega) (by omega) = (HB.out.keep (X' := X) HK.out (fun _ _ _ => id) (fun _ _ h => h)).sub (l := i) (h := H) (by omega) (by omega) := rfl
      have hsb := (HB.out.keep (X' := X) HK.out (fun _ _ _ => id) (fun _ _ h => h)).sub (l := i) (h := H) (by omega) (by omega)
      rw [hH] at hL
      have Hih := Lib.hid (show i ≤ H ∧ H ≤ c ∧ L ≤ c - i ∧ (H - i = L) by have := Hc.out; omega)
      have hLb : ((L : Int) == 4) = decide (4 ≤ (ch :: q).length) := by
       rw [Bool.beq_eq_decide_eq, decide_eq_decide]
       simp only [List.length_cons]
       omega
      have htk : (s.drop i).take (H - i) = (ch :: q).take 4 := by
       rw [Hr.out.2.1, hL]
       rcases Nat.le_or_ge 4 (ch :: q).length with h4 | h4
       · rw [show L = 4 by simp only [List.length_cons] at h4; omega]
       · rw [List.take_of_length_le (by simp only [List.length_cons] at h4 ⊢; omega), List.take_of_length_le h4]
      rw [htk, hL] at hsb
      have Hsb := Lib.hid hsb
      have HL := Lib.hid hLb
      have Hcnt := Lib.hid (show n - (ch :: q).length + 4 = i + 4 by simp only [List.length_cons]; omega)
      cases any
      · have hik : i = k := by
         have := Hr.out.1
         have h' : ¬ k < i := fun h => by have := this.2 h; cases this
         omega
        subst hik
        clear hi hl HE hget hdrop hcell hdg hcv hsub hsb hL hLb htk hH hX
        rcases hrange with hr | hr
        · skip
          go_wp2_with (first
           | ((with_reducible refine at_dst (N := 74) rfl ?_); go_must (refine ev_sub (l := i) (h := H) rfl rfl byteT38 rfl rfl rfl Hih.out.1 Hih.out.2.1 ?_; rw [Hih.out.2.2.2]); (try simp only [PU]))
          )
          (try simp only [Exit.inBlock, Exit.then])
          refine bodyPost_ret (results_tmp4 rfl _ _ _) rfl ?_
          rw [HR.out, tailH_none _ _ _ (by simp)]
          exact ⟨rfl, HK.out⟩
        · skip
          go_wp2_with (first
           | ((with_reducible refine at_dst (N := 74) rfl ?_); go_must (refine ev_sub (l := i) (h := H) rfl rfl byteT38 rfl rfl rfl Hih.out.1 Hih.out.2.1 ?_; rw [Hih.out.2.2.2]); (try simp only [PU]))
          )
          (try simp only [Exit.inBlock, Exit.then])
          refine bodyPost_ret (results_tmp4 rfl _ _ _) rfl ?_
          rw [HR.out, tailH_none _ _ _ (by simp)]
          exact ⟨rfl, HK.out⟩
      · have hik : ((i : Int) == k) = false := beq_eq_false_iff_ne.2 (by have := Hr.out.1.1 rfl; omega)
        rcases hpre : ((ch :: q).take 4).isPrefixOf neckB with _ | _
        · have Hpre := Lib.hid hpre
          clear hi hl HE hget hdrop hcell hdg hcv hsub hsb hL hLb htk hH hX hpre
          rcases hrange with hr | hr
          · skip
            go_wp2_with (first
             | ((with_reducible refine at_dst (N := 74) rfl ?_); go_must (refine ev_sub (l := i) (h := H) rfl rfl byteT38 rfl rfl rfl Hih.out.1 Hih.out.2.1 ?_; rw [Hih.out.2.2.2]); (try simp only [PU]))
             | ((with_reducible refine at_dst (N := 79) rfl ?_); go_must (refine ev_ung rfl ?_; refine ev_slice (cs := #[.int .u8 13, .int .u8 10, .int .u8 13, .int .u8 10]) (t := 5) (n := 4) (c := 4) rfl (by first | (go_simp; done) | (go_simp; rfl)) ?_; intro gk w10 hgk hlk hbk hkk)
                have Hbk := Lib.hid hbk
                have Hkk := Lib.hid hkk
                have Hgk := Lib.hid hgk
                clear hbk hkk hgk
                (try simp only [PU]))
             | ((with_reducible refine at_dst (N := 80) rfl ?_); go_must (refine ev_ung rfl ?_; refine ev_conv_same rfl rfl byteT38 Tryd.underlying5 rfl Hbk.out ?_; intro w12 hbk2 hkk2)
                have Hkk := Lib.hid (Hkk.out.trans hkk2 (fun i hi e => by have := Hgk.out; omega))
                have Hbk := Lib.hid hbk2
                clear hbk2 hkk2
                (try simp only [PU]))
             | (go_at_call 89; go_must (refine (neck_prefix Hbk.out (Hsb.out.keep (X' := X) Hkk.out (fun _ _ _ => id) (fun _ _ h => h))).mono ?_; rintro e w11 ⟨rfl, rfl⟩; rw [Hpre.out]); (try simp only [PU]))
            )
            (try simp only [Exit.inBlock, Exit.then])
            refine bodyPost_ret (results_tmp4 rfl _ _ _) rfl ?_
            rw [HR.out]
            refine ⟨?_, HK.out.then Hkk.out⟩
            have hpp := Hpre.out
            simp only [tailH, hpp, HL.out, Hcnt.out]
            rfl
          · skip
            go_wp2_with (first
             | ((with_reducible refine at_dst (N := 74) rfl ?_); go_must (refine ev_sub (l := i) (h := H) rfl rfl byteT38 rfl rfl rfl Hih.out.1 Hih.out.2.1 ?_; rw [Hih.out.2.2.2]); (try simp only [PU]))
             | ((with_reducible refine at_dst (N := 79) rfl ?_); go_must (refine ev_ung rfl ?_; refine ev_slice (cs := #[.int .u8 13, .int .u8 10, .int .u8 13, .int .u8 10]) (t := 5) (n := 4) (c := 4) rfl (by first | (go_simp; done) | (go_simp; rfl)) ?_; intro gk w10 hgk hlk hbk hkk)
                have Hbk := Lib.hid hbk
                have Hkk := Lib.hid hkk
                have Hgk := Lib.hid hgk
                clear hbk hkk hgk
                (try simp only [PU]))
             | ((with_reducible refine at_dst (N := 80) rfl ?_); go_must (refine ev_ung rfl ?_; refine ev_conv_same rfl rfl byteT38 Tryd.underlying5 rfl Hbk.out ?_; intro w12 hbk2 hkk2)
                have Hkk := Lib.hid (Hkk.out.trans hkk2 (fun i hi e => by have := Hgk.out; omega))
                have Hbk := Lib.hid hbk2
                clear hbk2 hkk2
                (try simp only [PU]))
             | (go_at_call 89; go_must (refine (neck_prefix Hbk.out (Hsb.out.keep (X' := X) Hkk.out (fun _ _ _ => id) (fun _ _ h => h))).mono ?_; rintro e w11 ⟨rfl, rfl⟩; rw [Hpre.out]); (try simp only [PU]))
            )
            (try simp only [Exit.inBlock, Exit.then])
            refine bodyPost_ret (results_tmp4 rfl _ _ _) rfl ?_
            rw [HR.out]
            refine ⟨?_, HK.out.then Hkk.out⟩
            have hpp := Hpre.out
            simp only [tailH, hpp, HL.out, Hcnt.out]
            rfl
        · have Hpre := Lib.hid hpre
          clear hi hl HE hget hdrop hcell hdg hcv hsub hsb hL hLb htk hH hX hpre
          rcases hrange with hr | hr
          · skip
            go_wp2_with (first
             | ((with_reducible refine at_dst (N := 74) rfl ?_); go_must (refine ev_sub (l := i) (h := H) rfl rfl byteT38 rfl rfl rfl Hih.out.1 Hih.out.2.1 ?_; rw [Hih.out.2.2.2]); (try simp only [PU]))
             | ((with_reducible refine at_dst (N := 79) rfl ?_); go_must (refine ev_ung rfl ?_; refine ev_slice (cs := #[.int .u8 13, .int .u8 10, .int .u8 13, .int .u8 10]) (t := 5) (n := 4) (c := 4) rfl (by first | (go_simp; done) | (go_simp; rfl)) ?_; intro gk w10 hgk hlk hbk hkk)
                have Hbk := Lib.hid hbk
                have Hkk := Lib.hid hkk
                have Hgk := Lib.hid hgk
                clear hbk hkk hgk
                (try simp only [PU]))
             | ((with_reducible refine at_dst (N := 80) rfl ?_); go_must (refine ev_ung rfl ?_; refine ev_conv_same rfl rfl byteT38 Tryd.underlying5 rfl Hbk.out ?_; intro w12 hbk2 hkk2)
                have Hkk := Lib.hid (Hkk.out.trans hkk2 (fun i hi e => by have := Hgk.out; omega))
                have Hbk := Lib.hid hbk2
                clear hbk2 hkk2
                (try simp only [PU]))
             | (go_at_call 89; go_must (refine (neck_prefix Hbk.out (Hsb.out.keep (X' := X) Hkk.out (fun _ _ _ => id) (fun _ _ h => h))).mono ?_; rintro e w11 ⟨rfl, rfl⟩; rw [Hpre.out]); (try simp only [PU]))
            )
            (try simp only [Exit.inBlock, Exit.then])
            refine bodyPost_ret (results_tmp4 rfl _ _ _) rfl ?_
            rw [HR.out]
            refine ⟨?_, HK.out.then Hkk.out⟩
            have hpp := Hpre.out
            simp only [tailH, hpp, HL.out, Hcnt.out]
            rfl
          · skip
            go_wp2_with (first
             | ((with_reducible refine at_dst (N := 74) rfl ?_); go_must (refine ev_sub (l := i) (h := H) rfl rfl byteT38 rfl rfl rfl Hih.out.1 Hih.out.2.1 ?_; rw [Hih.out.2.2.2]); (try simp only [PU]))
             | ((with_reducible refine at_dst (N := 79) rfl ?_); go_must (refine ev_ung rfl ?_; refine ev_slice (cs := #[.int .u8 13, .int .u8 10, .int .u8 13, .int .u8 10]) (t := 5) (n := 4) (c := 4) rfl (by first | (go_simp; done) | (go_simp; rfl)) ?_; intro gk w10 hgk hlk hbk hkk)
                have Hbk := Lib.hid hbk
                have Hkk := Lib.hid hkk
                have Hgk := Lib.hid hgk
                clear hbk hkk hgk
                (try simp only [PU]))
             | ((with_reducible refine at_dst (N := 80) rfl ?_); go_must (refine ev_ung rfl ?_; refine ev_conv_same rfl rfl byteT38 Tryd.underlying5 rfl Hbk.out ?_; intro w12 hbk2 hkk2)
                have Hkk := Lib.hid (Hkk.out.trans hkk2 (fun i hi e => by have := Hgk.out; omega))
                have Hbk := Lib.hid hbk2
                clear hbk2 hkk2
                (try simp only [PU]))
             | (go_at_call 89; go_must (refine (neck_prefix Hbk.out (Hsb.out.keep (X' := X) Hkk.out (fun _ _ _ => id) (fun _ _ h => h))).mono ?_; rintro e w11 ⟨rfl, rfl⟩; rw [Hpre.out]); (try simp only [PU]))
            )
            (try simp only [Exit.inBlock, Exit.then])
            refine bodyPost_ret (results_tmp4 rfl _ _ _) rfl ?_
            rw [HR.out]
            refine ⟨?_, HK.out.then Hkk.out⟩
            have hpp := Hpre.out
            simp only [tailH, hpp, HL.out, Hcnt.out]
            rfl
    · obtain ⟨hd0, hd1, hd2⟩ := dig_int ch hdg
      rw [hcv] at ci hd0 hd1 hd2
      have HS := Lib.hid (show (if (any = true ∧ m = 0) ∨ 1000000 < m * 10 + digB ch then none else numH true (m * 10 + digB ch) q) = R0 by rw [← HE.out]; conv => rhs; unfold numH; rw [if_pos hdg])
      have Hd := Lib.hid (show ((m * 10 + digB ch : Nat) : Int) = (m : Int) * 10 + (cv - 48) by rw [hd2]; rfl)
      have Hq := Lib.hid (And.intro hget hdrop)
      have Hdz := Lib.hid (dig_zero ch hdg)
      have hmi : (m : Int) ≤ 1000000 := by omega
      by_cases hmx : 1000000 < (m : Int) * 10 + (cv - 48)
      · have HR := Lib.hid (show R0 = none by rw [← HS.out, if_pos (.inr (by have := Hd.out; omega))])
        clear hi hl HE hget hdrop hcell hdg hcv hX hd2
        go_wp2
        (try simp only [Exit.inBlock, Exit.then])
        refine bodyPost_ret (results_tmp4 rfl _ _ _) rfl ?_
        rw [HR.out]
        exact ⟨rfl, HK.out⟩
      · cases any
        · have hik : i = k := by
           have := Hr.out.1
           have h' : ¬ k < i := fun h => by have := this.2 h; cases this
           omega
          have hm0 : m = 0 := Hr.out.2.2.2 rfl
          subst hik
          subst hm0
          have HR := Lib.hid (show numH true (0 * 10 + digB ch) q = R0 by rw [← HS.out, if_neg (by have := Hd.out; simp; omega)])
          clear HE hget hdrop hcell hdg hcv hX hd2
          go_wp2
          go_roundg (n - i - 1)
          case measure => omega
          case rel => exact ⟨i + 1, 0 * 10 + digB ch, true, q, by rfl, by rw [Hd.out]; congr 1; omega, by omega, by omega, by omega, by have := Hd.out; omega, Lib.hid ⟨by simp, Hq.out.2, fun _ => by rw [Hq.out.1, Nat.zero_mul, Nat.zero_add]; exact Hdz.out.symm, by simp⟩, HR, HK⟩
        · have hkli : (k : Int) < i := by have := Hr.out.1.1 rfl; omega
          have ck := hcell k (by omega)
          unfold byteV at ck
          have Hz := Lib.hid (Hr.out.2.2.1 rfl)
          obtain ⟨d0, hd0'⟩ : ∃ d, s.getD k 0 = d := ⟨_, rfl⟩
          rw [hd0'] at ck
          have Hd0 := Lib.hid hd0'
          obtain ⟨dv, hdv⟩ : ∃ x : Int, (d0.toNat : Int) = x := ⟨_, rfl⟩
          rw [hdv] at ck
          by_cases h48 : dv = 48
          · have hm0 : m = 0 := Hz.out.1 (by rw [hd0']; exact UInt8.toNat_inj.1 (by show d0.toNat = 48; omega))
            have HR := Lib.hid (show R0 = none by rw [← HS.out, if_pos (.inl ⟨rfl, hm0⟩)])
            clear hi hl HE hget hdrop hcell hdg hcv hX hd2 hd0' hdv
            subst h48
            go_wp2
            (try simp only [Exit.inBlock, Exit.then])
            refine bodyPost_ret (results_tmp4 rfl _ _ _) rfl ?_
            rw [HR.out]
            exact ⟨rfl, HK.out⟩
          · have h48b : (dv == 48) = false := beq_eq_false_iff_ne.2 h48
            have hm0 : m ≠ 0 := fun e => h48 (by have := Hz.out.2 e; rw [hd0'] at this; subst this; exact hdv.symm)
            have HR := Lib.hid (show numH true (m * 10 + digB ch) q = R0 by rw [← HS.out, if_neg (by have := Hd.out; simp; omega)])
            have Hm0 := Lib.hid hm0
            have Hz2 := Lib.hid (show ¬ s.getD k 0 = 48 from fun e => hm0 (Hz.out.1 e))
            clear HE hget hdrop hcell hdg hcv hX hd2 hd0' hdv hm0
            go_wp2
            go_roundg (n - i - 1)
            case measure => omega
            case rel => exact ⟨i + 1, m * 10 + digB ch, true, q, by rfl, by rw [Hd.out], by omega, by omega, by omega, by have := Hd.out; omega, Lib.hid ⟨by simp; omega, Hq.out.2, fun _ => ⟨fun h => absurd h Hz2.out, fun h => absurd h (by have := Hm0.out; omega)⟩, by simp⟩, HR, HK⟩
end Go.Proofs.WV

namespace Go.Proofs.WM

def bareB : Bool → Bs → Bs
 | _, [] => []
 | false, c :: r => if isBlank c then bareB false r else if c = 34 then c :: bareB true r else c :: bareB false r
 | true, [c] => [c]
 | true, c :: d :: r => if c = 92 then c :: d :: bareB true r else if c = 34 then c :: bareB false (d :: r) else c :: bareB true (d :: r)
def Clear (w : Bs) : Prop := ∀ c ∈ w, isBlank c = false ∧ c ≠ 34
instance (w : Bs) : Decidable (Clear w) := inferInstanceAs (Decidable (∀ c ∈ w, isBlank c = false ∧ c ≠ 34))
def Stays (p : Bs) : Prop := ∀ x, bareB false (p ++ x) = p ++ bareB false x
theorem Stays.append {a b : Bs} (ha : Stays a) (hb : Stays b) : Stays (a ++ b) := fun x => by rw [List.append_assoc, ha, hb, List.append_assoc]
end Go.Proofs.WM

namespace Go.Proofs.WV
open Go.RowKit Go.Proofs.KL Go.Proofs.WM
set_option maxRecDepth 100000
set_option linter.unusedSimpArgs false
set_option linter.unusedVariables false

end Go.Proofs.WV

namespace Go.Proofs.WV
open Go.RowKit Go.Proofs.KL Go.Proofs.WM
set_option maxRecDepth 100000
set_option linter.unusedSimpArgs false
set_option linter.unusedVariables false

theorem news_made {w : World} {g : Nat} {cs : Array Value} {s : Bs} (hg : w.heap[g]? = some (.cells cs 5 (0, 0))) (hc : cs = (s.map byteV).toArray) : ∀ j u, (s.map byteV)[j]? = some u → w.cell? ((⟨g, 0, none⟩ : Addr).add j) = some u := by
 subst hc
 intro j u hj
 rw [addr_add0, blk_cell hg j, List.getElem?_toArray]
 exact hj
theorem byteV1 {ch : UInt8} {cv : Int} (h : (ch.toNat : Int) = cv) : (#[.int .u8 cv] : Array Value) = ([ch].map byteV).toArray := by subst h; rfl
end Go.Proofs.WV

namespace Go.Proofs.WV
open Go.RowKit Go.Proofs.KL Go.Proofs.WM
set_option maxRecDepth 100000
set_option linter.unusedSimpArgs false
set_option linter.unusedVariables false

def strX : Except Nat Bs → R Bs
 | .ok s => strB s
 | .error n => .error n
def TextX (w : World) (r : Nat) (T : ByteArray) (R : R Bs) (e : Ending) (w' : World) : Prop := (∃ t : ByteArray, e = .returned (.string t) ∧ ∀ x, R = .ok x → t = mkB x.1) ∧ Rf w' r T (stX R) ∧ Keeps (· = r) w w'
def lenX : Except Nat Bs → Nat
 | .ok s => s.length + 1
 | .error _ => 0
def GoI (R : R Bs) (acc : Bs) : Except Nat Bs → Prop
 | .ok s => ∃ f, s.length < f ∧ strGo f acc s = R
 | .error n => R = .error n
theorem goI_begin (x : Except Nat Bs) : GoI (strX x) [] (takeX [34] x) := by
 cases x with
 | error n => rfl
 | ok s =>
   show GoI (strB s) [] (wordB [34] s)
   unfold strB
   cases h : wordB [34] s with
   | error e => rfl
   | ok r1 => exact ⟨r1.length + 1, Nat.lt_succ_self _, rfl⟩
def escK (f : Nat) (acc : Bs) : R UInt8 → R Bs
 | .ok x => strGo f (acc ++ [x.1]) x.2
 | .error e => .error e
theorem goI_cons {R : R Bs} {acc : Bs} {c : UInt8} {q : Bs} (h : GoI R acc (.ok (c :: q))) : ∃ f, q.length < f ∧ R = if c = 34 then .ok (acc, q) else if c < 32 then .error (q.length + 1) else if c = 92 then escK f acc (escB q) else strGo f (acc ++ [c]) q := by
 obtain ⟨f, hf, h⟩ := h
 obtain ⟨f, rfl⟩ : ∃ g, f = g + 1 := ⟨f - 1, by omega⟩
 refine ⟨f, by simpa using hf, ?_⟩
 rw [← h, strGo]
 cases escB q <;> rfl
theorem goI_esc {R : R Bs} {acc : Bs} {f : Nat} {b : UInt8} {q : Bs} (h : R = escK f acc (escB q)) (hf : q.length < f) (hb : ∀ x, escB q = .ok x → x.1 = b) : GoI R (acc ++ [b]) (stX (escB q)) := by
 cases he : escB q with
 | error e => rw [h, he]; rfl
 | ok x =>
   obtain ⟨b', r1⟩ := x
   have := escB_len he
   have hb' : b' = b := hb _ he
   subst hb'
   exact ⟨f, by show r1.length < f; omega, by rw [h, he]; rfl⟩
theorem lenX_esc (q : Bs) : lenX (stX (escB q)) ≤ q.length := by
 cases he : escB q with
 | error e => exact Nat.zero_le _
 | ok x =>
   obtain ⟨b, r1⟩ := x
   have := escB_len he
   show r1.length + 1 ≤ _
   omega
theorem goI_nil {R : R Bs} {acc : Bs} (h : GoI R acc (.ok [])) : R = .error 0 := by
 obtain ⟨f, hf, h⟩ := h
 obtain ⟨f, rfl⟩ : ∃ g, f = g + 1 := ⟨f - 1, by omega⟩
 rw [← h]
 rfl
set_option maxHeartbeats 8000000 in
theorem text84 {w : World} {r : Nat} {T : ByteArray} {x : Except Nat Bs} (h : Rf w r T x) : Calls Tryd.prog 84 #[.pointer (some ⟨r, 0, none⟩)] w (TextX w r T (strX x)) := by
 obtain ⟨i3, hi3, hs3⟩ := infoS3
 have HI := Lib.hid (And.intro hi3 hs3)
 have Hrw := Lib.hid h.lt
 have H83 := Lib.hid (take83 h ⟨#[34]⟩ (by decide))
 have HG0 := Lib.hid (goI_begin x)
 have hT := h.len
 rw [show bl ⟨#[34]⟩ = [34] from rfl] at H83
 obtain ⟨R, hR⟩ : ∃ y, strX x = y := ⟨_, rfl⟩
 rw [hR] at HG0 ⊢
 clear hi3 hs3 h hR
 obtain ⟨x0, hx0⟩ : ∃ y, takeX [34] x = y := ⟨_, rfl⟩
 rw [hx0] at HG0 H83
 clear hx0
 go_enter Tryd.func84, Tryd.ntmps84
 go_wp2_with (go_at_call 83; go_must (refine H83.out.mono ?_; rintro e w0 ⟨⟨y, rfl⟩, hr0, hk0⟩); have Hr0 := Lib.hid hr0; have HK0 := Lib.hid hk0; clear hr0 hk0; (try simp only [PU]))
 clear H83
 go_loopg [3] (lenX x0) (fun K ov wr => ∃ (x' : Except Nat Bs) (oA : Option Addr) (oc n : Nat) (out : Bs), ov = .slice oA n oc ∧ out.length = n ∧ lenX x' ≤ K ∧ n + lenX x' ≤ T.size + 2 ∧ Hid (Rf wr r T x') ∧ Hid (OwnB wr w.heap.size (.slice oA n oc) out) ∧ Hid (GoI R out x') ∧ Hid (Keeps (· = r) w wr))
 case atStart => exact ⟨x0, none, 0, 0, [], rfl, rfl, Nat.le_refl _, by
  cases x0 with
  | error n => simp [lenX]
  | ok s => have := Hr0.out.le; simp only [lenX]; omega, Hr0, Lib.hid (OwnB.nil _ _), HG0, HK0⟩
 case round =>
  obtain ⟨x', oA, oc, n, out, rfl, hn, hl, hb, Hr, HO, HG, HK⟩ := hrel
  have Hn := Lib.hid hn
  clear hn
  cases x' with
  | error m =>
    have HR2 := Lib.hid (show R = .error m from HG.out)
    obtain ⟨a, hbk, -, -, -⟩ := id Hr.out
    obtain ⟨z, hz⟩ : ∃ z, T.size - m = z := ⟨_, rfl⟩
    rw [hz] at hbk
    have c2 := (blk_cell hbk 2).trans rfl
    have hz0 : ¬ (z : Int) < 0 := by omega
    clear hbk hz hl hb
    go_wp2
    go_ret
    refine ⟨⟨_, rfl, fun y hy => ?_⟩, ?_, HK.out⟩
    · rw [HR2.out] at hy; cases hy
    · rw [HR2.out]; exact Hr.out
  | ok s =>
    cases s with
    | nil =>
      have HR2 := Lib.hid (show R = .error 0 from goI_nil HG.out)
      have Hfail := Lib.hid (fun W (hk : Keeps Nob wr W) => failG (Hr.out.keep hk id) 0 (Nat.zero_le _) (T.size : Nat) rfl)
      have Hbc := Lib.hid Hr.out.nil
      have c0 := (blk_cell Hbc.out 0).trans rfl
      have c1 := (blk_cell Hbc.out 1).trans rfl
      have c2 := (blk_cell Hbc.out 2).trans rfl
      clear hl hb
      go_upto_region 4 with fail
      refine wp_region_perm [(0, true), (1, true), (2, true), (3, true), (4, true), (5, true), (6, true), (7, true), (8, true), (9, true), (10, true), (11, true), (12, true), (13, true), (14, true), (15, true), (16, true), (17, true), (18, true), (19, true), (20, true), (21, true)] (fun w' => w'.cell? ⟨r, 0, none⟩ = some (.string T) ∧ w'.cell? ⟨r, 1, none⟩ = some (.int .i64 T.size)) rfl (by kernel_rfl) (by kernel_rfl) (by decide) (fun c a d v w h => by cases d <;> exact h) ⟨c0, c1⟩ ?_
      refine pq (some 12) ?_; (try simp only [PU])
      refine pq (some 13) ?_; (try simp only [PU])
      refine pq (some 14) ?_; (try simp only [PU])
      refine pq (some 15) ?_; (try simp only [PU])
      refine pq (some 16) ?_; (try simp only [PU])
      refine pq (some 17) ?_; (try simp only [PU])
      refine pq (some 18) ?_; (try simp only [PU])
      refine pq (some 19) ?_; (try simp only [PU])
      refine pq (some 20) ?_; (try simp only [PU])
      refine pq (some 21) ?_; (try simp only [PU])
      refine pq (some 22) ?_; (try simp only [PU])
      refine perm_skip (some 23) rfl rfl rfl ?_; (try simp only [PU])
      refine perm_skip (some 24) rfl rfl rfl ?_; (try simp only [PU])
      refine perm_skip (some 25) rfl rfl rfl ?_; (try simp only [PU])
      refine perm_skip (some 26) rfl rfl rfl ?_; (try simp only [PU])
      refine perm_skip (some 27) rfl rfl rfl ?_; (try simp only [PU])
      refine perm_skip (some 28) rfl rfl rfl ?_; (try simp only [PU])
      refine perm_skip (some 29) rfl rfl rfl ?_; (try simp only [PU])
      refine perm_skip (some 30) rfl rfl rfl ?_; (try simp only [PU])
      refine perm_skip (some 31) rfl rfl rfl ?_; (try simp only [PU])
      refine perm_skip (some 32) rfl rfl rfl ?_; (try simp only [PU])
      refine pq (some 33) ?_; (try simp only [PU])
      refine perm_nil ?_
      go_wp2_with (go_at_call 50; go_must (refine (Hfail.out _ (Keeps.refl Nob wr).drew).mono ?_; rintro e w2 ⟨⟨y, rfl⟩, hr2, hk2⟩); have Hr2 := Lib.hid hr2; have HK2 := Lib.hid hk2; clear hr2 hk2; (try simp only [PU]))
      go_ret
      refine ⟨⟨_, rfl, fun y hy => ?_⟩, ?_, (HK.out.then (Keeps.refl Nob wr).drew).trans HK2.out (fun _ _ h => h)⟩
      · rw [HR2.out] at hy; cases hy
      · rw [HR2.out]; exact Hr2.out
    | cons c q =>
      obtain ⟨f, hf, hR⟩ := goI_cons HG.out
      have HRc := Lib.hid hR
      have Hf := Lib.hid hf
      obtain ⟨a, ha, ⟨hbk, hd⟩, -, hsum, hnx⟩ := Hr.out.cons
      have Hbc := Lib.hid hbk
      have c0 := (blk_cell Hbc.out 0).trans rfl
      have c1 := (blk_cell Hbc.out 1).trans rfl
      have c2 := (blk_cell Hbc.out 2).trans rfl
      have hai : (a : Int) < (T.size : Int) := by omega
      have hag : ¬ (T.size : Int) ≤ (a : Int) := by omega
      have Hnx := Lib.hid hnx
      simp only [lenX, List.length_cons] at hl hb
      have Hl := Lib.hid (And.intro hl hb)
      have hnb : n ≤ 1000002 := by omega
      obtain ⟨cv, hcv⟩ : ∃ y : Int, (c.toNat : Int) = y := ⟨_, rfl⟩
      rw [hcv] at hd
      have Hcv := Lib.hid hcv
      have hlt32 : c < 32 ↔ cv < 32 := by rw [UInt8.lt_iff_toNat_lt, ← hcv]; show c.toNat < 32 ↔ _; omega
      have h34 : c = 34 ↔ cv = 34 := by rw [← hcv]; exact ⟨fun e => by rw [e]; rfl, fun e => UInt8.toNat_inj.1 (by show c.toNat = 34; omega)⟩
      have h92 : c = 92 ↔ cv = 92 := by rw [← hcv]; exact ⟨fun e => by rw [e]; rfl, fun e => UInt8.toNat_inj.1 (by show c.toNat = 92; omega)⟩
      have Hcs := Lib.hid (And.intro hlt32 (And.intro h34 h92))
      have Hfl := Lib.hid (fun W (hk : Keeps Nob wr W) => failG (Hr.out.keep hk id) (q.length + 1) (by omega) (a : Nat) (by omega))
      have HS := Lib.hid hsum
      clear hbk hnx hl hb hf hR hcv hlt32 h34 h92 hsum
      by_cases l32 : cv < 32
      · have HR2 := Lib.hid (show R = .error (q.length + 1) by
         rw [HRc.out, if_neg (fun e => by have := Hcs.out.2.1.1 e; omega), if_pos (Hcs.out.1.2 l32)])
        go_upto_region 4 with fail
        refine wp_region_perm [(0, true), (1, true), (2, true), (3, true), (4, true), (5, true), (6, true), (7, true), (8, true), (9, true), (10, true), (11, true), (12, true), (13, true), (14, true), (15, true), (16, true), (17, true), (18, true), (19, true), (20, true), (21, true)] (fun w' => w'.cell? ⟨r, 0, none⟩ = some (.string T) ∧ w'.cell? ⟨r, 1, none⟩ = some (.int .i64 a)) rfl (by kernel_rfl) (by kernel_rfl) (by decide) (fun c a d v w h => by cases d <;> exact h) ⟨c0, c1⟩ ?_
        refine pq (some 12) ?_; (try simp only [PU])
        refine pq (some 13) ?_; (try simp only [PU])
        refine pq (some 14) ?_; (try simp only [PU])
        refine pq (some 15) ?_; (try simp only [PU])
        refine pq (some 16) ?_; (try simp only [PU])
        refine pq (some 17) ?_; (try simp only [PU])
        refine pq (some 18) ?_; (try simp only [PU])
        refine pq (some 19) ?_; (try simp only [PU])
        refine pq (some 20) ?_; (try simp only [PU])
        refine pq (some 21) ?_; (try simp only [PU])
        refine pq (some 22) ?_; (try simp only [PU])
        refine pq (some 23) ?_; (try simp only [PU])
        refine pq (some 24) ?_; (try simp only [PU])
        refine pq (some 25) ?_; (try simp only [PU])
        refine pq (some 26) ?_; (try simp only [PU])
        refine pq (some 27) ?_; (try simp only [PU])
        refine pq (some 28) ?_; (try simp only [PU])
        refine pq (some 29) ?_; (try simp only [PU])
        refine pq (some 30) ?_; (try simp only [PU])
        refine pq (some 31) ?_; (try simp only [PU])
        refine pq (some 32) ?_; (try simp only [PU])
        refine pq (some 33) ?_; (try simp only [PU])
        refine perm_nil ?_
        go_wp2_with (go_at_call 50; go_must (refine (Hfl.out _ (Keeps.refl Nob wr).drew).mono ?_; rintro e w2 ⟨⟨y, rfl⟩, hr2, hk2⟩); have Hr2 := Lib.hid hr2; have HK2 := Lib.hid hk2; clear hr2 hk2; (try simp only [PU]))
        go_ret
        refine ⟨⟨_, rfl, fun y hy => ?_⟩, ?_, (HK.out.then (Keeps.refl Nob wr).drew).trans HK2.out (fun _ _ h => h)⟩
        · rw [HR2.out] at hy; cases hy
        · rw [HR2.out]; exact Hr2.out
      · go_upto_region 4 with fail
        refine wp_region_perm [(0, true), (1, true), (2, true), (3, true), (4, true), (5, true), (6, true), (7, true), (8, true), (9, true), (10, true), (11, true), (12, true), (13, true), (14, true), (15, true), (16, true), (17, true), (18, true), (19, true), (20, true), (21, true)] (fun w' => w'.cell? ⟨r, 0, none⟩ = some (.string T) ∧ w'.cell? ⟨r, 1, none⟩ = some (.int .i64 a)) rfl (by kernel_rfl) (by kernel_rfl) (by decide) (fun c a d v w h => by cases d <;> exact h) ⟨c0, c1⟩ ?_
        refine pq (some 12) ?_; (try simp only [PU])
        refine pq (some 13) ?_; (try simp only [PU])
        refine pq (some 14) ?_; (try simp only [PU])
        refine pq (some 15) ?_; (try simp only [PU])
        refine pq (some 16) ?_; (try simp only [PU])
        refine pq (some 17) ?_; (try simp only [PU])
        refine pq (some 18) ?_; (try simp only [PU])
        refine pq (some 19) ?_; (try simp only [PU])
        refine pq (some 20) ?_; (try simp only [PU])
        refine pq (some 21) ?_; (try simp only [PU])
        refine pq (some 22) ?_; (try simp only [PU])
        refine pq (some 23) ?_; (try simp only [PU])
        refine pq (some 24) ?_; (try simp only [PU])
        refine pq (some 25) ?_; (try simp only [PU])
        refine pq (some 26) ?_; (try simp only [PU])
        refine pq (some 27) ?_; (try simp only [PU])
        refine pq (some 28) ?_; (try simp only [PU])
        refine pq (some 29) ?_; (try simp only [PU])
        refine pq (some 30) ?_; (try simp only [PU])
        refine pq (some 31) ?_; (try simp only [PU])
        refine pq (some 32) ?_; (try simp only [PU])
        refine pq (some 33) ?_; (try simp only [PU])
        refine perm_nil ?_
        go_upto_region 7 with fail
        refine wp_region_perm [(0, true), (1, true), (2, true), (3, true), (4, true), (5, true), (6, true), (7, true), (8, true), (9, true)] (fun w' => w'.cell? ⟨r, 0, none⟩ = some (.string T) ∧ w'.cell? ⟨r, 1, none⟩ = some (.int .i64 a)) rfl (by kernel_rfl) (by kernel_rfl) (by decide) (fun c a d v w h => by cases d <;> exact h) ⟨c0, c1⟩ ?_
        refine pq (some 40) ?_; (try simp only [PU])
        refine pq (some 41) ?_; (try simp only [PU])
        refine pq (some 42) ?_; (try simp only [PU])
        refine pq (some 43) ?_; (try simp only [PU])
        refine pq (some 44) ?_; (try simp only [PU])
        refine pq (some 45) ?_; (try simp only [PU])
        refine pq (some 46) ?_; (try simp only [PU])
        refine pq (some 47) ?_; (try simp only [PU])
        refine pq (some 48) ?_; (try simp only [PU])
        refine pq (some 4) ?_; (try simp only [PU])
        refine perm_nil ?_
        have HKd := Lib.hid ((Keeps.refl Nob wr).drew.trans (Keeps.refl Nob wr.drew).drew (fun _ _ h => h))
        have Hbd := Lib.hid (HKd.out.blk Hbc.out id)
        have HO := Lib.hid (HO.out.keep HKd.out (fun _ _ => id))
        go_upto_region 9 with (first
         | ((with_reducible refine at_store (t := 3) rfl ?_); go_must (refine ev_store (cs' := #[.string T, .int .i64 ((a : Int) + 1), .int .i64 (-1)]) rfl rfl rfl rfl rfl rfl HI.out.1 HI.out.2 rfl Hbd.out (Nat.le_of_ble_eq_true rfl) rfl ?_; intro w1 hb1 hk1)
            have Hr1 := Lib.hid (Hnx.out _ hb1)
            have HO := Lib.hid (HO.out.keep hk1 (fun q' e h => by have h1 := (HO.out.lt q' e).1; have h2 := Hrw.out; omega))
            have HK1 := Lib.hid (show Keeps (· = r) wr w1 from (HKd.out.mono (fun _ _ e => e.elim)).trans hk1 (fun _ _ h => h))
            clear hb1 hk1 c0 c1 c2
            (try simp only [PU]))
        )
        by_cases e34 : cv = 34
        · have HR2 := Lib.hid (show R = .ok (out, q) by rw [HRc.out, if_pos (Hcs.out.2.1.2 e34)])
          subst e34
          go_wp2_with (first
           | ((with_reducible refine at_dst (N := 64) rfl ?_); go_must (refine ev_conv_bs rfl rfl Tryd.underlying38 Tryd.underlying5 Tryd.underlying9 (bs := out) rfl HO.out.bytes ?_); (try simp only [PU]))
          )
          go_ret
          refine ⟨⟨mkB out, rfl, fun y hy => ?_⟩, ?_, HK.out.trans HK1.out (fun _ _ h => h)⟩
          · rw [HR2.out] at hy; injection hy with hy; rw [← hy]
          · rw [HR2.out]; exact Hr1.out
        · have b34 : (cv == 34) = false := beq_eq_false_iff_ne.2 e34
          have n34 := Lib.hid (show ¬ c = 34 from fun e => e34 (Hcs.out.2.1.1 e))
          have n32 := Lib.hid (show ¬ c < 32 from fun e => l32 (Hcs.out.1.1 e))
          clear e34
          by_cases e92 : cv = 92
          · have HR2 := Lib.hid (show R = escK f out (escB q) by rw [HRc.out, if_neg n34.out, if_neg n32.out, if_pos (Hcs.out.2.2.2 e92)])
            subst e92
            go_wp2_with (first
             | (go_at_call 104; go_must (refine (esc104 Hr1.out).mono ?_; rintro e w5 ⟨⟨b, rfl, hb⟩, hr5, hk5⟩)
                have Hge := Lib.hid (goI_esc HR2.out Hf.out hb)
                have HO := Lib.hid (HO.out.keep hk5 (fun q' e h => by have h1 := (HO.out.lt q' e).1; have h2 := Hrw.out; omega))
                have Hr1 := Lib.hid hr5
                have HK1 := Lib.hid (HK1.out.trans hk5 (fun _ _ h => h))
                clear hb hr5 hk5
                (try simp only [PU]))
             | ((with_reducible refine at_dst (N := 70) rfl ?_); go_must (refine ev_slice (cs := #[.int .u8 (b.toNat : Int)]) (t := 5) (n := 1) (c := 1) rfl (by first | (go_simp; done) | (go_simp; rfl)) ?_; intro gb wb hgb hlb hbb hkb)
                have Hbb := Lib.hid hbb
                have HOb := Lib.hid (HO.out.keep hkb (fun _ _ => id))
                have Hr1 := Lib.hid (Hr1.out.keep hkb id)
                have HK1 := Lib.hid (HK1.out.then hkb)
                clear hbb hkb hgb hlb
                (try simp only [PU]))
             | ((with_reducible refine at_dst (N := 71) rfl ?_); go_must (refine ev_app_sl rfl rfl byteT38 (base := w.heap.size) rfl HOb.out rfl (news := [b]) rfl (fun _ => ⟨_, rfl, news_made Hbb.out (byteV1 rfl)⟩) (by have := Hn.out; omega) (by have h1 := HK.out.size; have h2 := HK1.out.size; omega) ?_; intro v' wc ho2 ha2; obtain ⟨nA, nc, hv'⟩ := ho2.slice; rw [List.length_append, Hn.out] at hv'; obtain rfl : v' = .slice nA (n + 1) nc := hv')
                have HO2 := Lib.hid ho2
                have Hr2 := Lib.hid (Hr1.out.keep ha2.keep (fun e => by have h1 := (HOb.out.lt r e.symm).1; have h2 := Hrw.out; omega))
                have HK2 := Lib.hid ((HK.out.trans HK1.out (fun _ _ h => h)).trans ha2.keep (fun i hi e => by have := (HOb.out.lt i e.symm).1; omega))
                clear ho2 ha2
                (try simp only [PU]))
            )
            go_roundg (lenX (stX (escB q)))
            case measure => have := lenX_esc q; have := Hl.out.1; omega
            case rel => exact ⟨_, nA, nc, n + 1, out ++ [b], rfl, by rw [List.length_append, Hn.out]; rfl, Nat.le_refl _, by have := lenX_esc q; have := Hl.out.2; omega, Hr2, HO2, Hge, HK2⟩
          · have b92 : (cv == 92) = false := beq_eq_false_iff_ne.2 e92
            have HR2 := Lib.hid (show GoI R (out ++ [c]) (.ok q) from ⟨f, Hf.out, by rw [HRc.out, if_neg n34.out, if_neg n32.out, if_neg (fun e => e92 (Hcs.out.2.2.1 e))]⟩)
            clear e92
            go_wp2_with (first
             | ((with_reducible refine at_dst (N := 59) rfl ?_); go_must (refine ev_slice (cs := #[.int .u8 cv]) (t := 5) (n := 1) (c := 1) rfl (by first | (go_simp; done) | (go_simp; rfl)) ?_; intro gb wb hgb hlb hbb hkb)
                have Hbb := Lib.hid hbb
                have HOb := Lib.hid (HO.out.keep hkb (fun _ _ => id))
                have Hr1 := Lib.hid (Hr1.out.keep hkb id)
                have HK1 := Lib.hid (HK1.out.then hkb)
                clear hbb hkb hgb hlb
                (try simp only [PU]))
             | ((with_reducible refine at_dst (N := 60) rfl ?_); go_must (refine ev_app_sl rfl rfl byteT38 (base := w.heap.size) rfl HOb.out rfl (news := [c]) rfl (fun _ => ⟨_, rfl, news_made Hbb.out (byteV1 Hcv.out)⟩) (by have := Hn.out; omega) (by have h1 := HK.out.size; have h2 := HK1.out.size; omega) ?_; intro v' wc ho2 ha2; obtain ⟨nA, nc, hv'⟩ := ho2.slice; rw [List.length_append, Hn.out] at hv'; obtain rfl : v' = .slice nA (n + 1) nc := hv')
                have HO2 := Lib.hid ho2
                have Hr2 := Lib.hid (Hr1.out.keep ha2.keep (fun e => by have h1 := (HOb.out.lt r e.symm).1; have h2 := Hrw.out; omega))
                have HK2 := Lib.hid ((HK.out.trans HK1.out (fun _ _ h => h)).trans ha2.keep (fun i hi e => by have := (HOb.out.lt i e.symm).1; omega))
                clear ho2 ha2
                (try simp only [PU]))
            )
            go_roundg (q.length + 1)
            case measure => have := Hl.out.1; omega
            case rel => exact ⟨.ok q, nA, nc, n + 1, out ++ [c], rfl, by rw [List.length_append, Hn.out]; rfl, Nat.le_refl _, by have := Hl.out.2; simp only [lenX]; omega, Hr2, HO2, HR2, HK2⟩
end Go.Proofs.WV

namespace Go.Proofs.WV
open Go.RowKit Go.Proofs.KL Go.Proofs.WM
set_option maxRecDepth 100000
set_option linter.unusedSimpArgs false
set_option linter.unusedVariables false

def intX : Except Nat Bs → R Int
 | .ok s => intB s
 | .error n => .error n
def NumX (w : World) (r : Nat) (T : ByteArray) (R : R Int) (e : Ending) (w' : World) : Prop := (∃ z : Int, e = .returned (.int .i64 z) ∧ ∀ x, R = .ok x → z = x.1) ∧ Rf w' r T (stX R) ∧ Keeps (· = r) w w'
def numE (neg : Bool) : R Nat → R Int
 | .ok x => .ok (if neg then -(x.1 : Int) else (x.1 : Int), x.2)
 | .error e => .error e
theorem intB_neg (q : Bs) : intB (45 :: q) = numE true (digitsB true q) := by
 show (match digitsB true q with | .ok (n, r1) => Except.ok (-(n : Int), r1) | .error e => .error e) = _
 cases digitsB true q <;> rfl
theorem intB_pos {s : Bs} (h : ¬ headB s = 45) : intB s = numE false (digitsB false s) := by
 cases s with
 | nil => rfl
 | cons c q =>
   unfold intB
   split
   · rename_i r he
     injection he with he _
     exact absurd he h
   · cases hd : digitsB false (c :: q) <;> simp_all [numE]
theorem numB_halt {minus first : Bool} {n : Nat} {s : Bs} (h : startsDigit s = false) : numB minus first n s = .ok (n, s) := by
 cases s with
 | nil => rfl
 | cons c q => unfold numB; rw [if_neg (by rw [show isDigit c = false from h]; simp)]
theorem numB_go {minus first : Bool} {n : Nat} {c : UInt8} {q : Bs} (h : isDigit c = true) : numB minus first n (c :: q) = if (first = false ∧ n = 0) ∨ (minus = true ∧ first = true ∧ c = 48) ∨ 9007199254740991 < n * 10 + digB c then .error (q.length + 1) else numB minus false (n * 10 + digB c) q := by
 exact if_pos h
set_option maxHeartbeats 8000000 in
theorem num85 {w : World} {r : Nat} {T : ByteArray} {x : Except Nat Bs} (h : Rf w r T x) : Calls Tryd.prog 85 #[.pointer (some ⟨r, 0, none⟩)] w (NumX w r T (intX x)) := by
 obtain ⟨i3, hi3, hs3⟩ := infoS3
 have HI := Lib.hid (And.intro hi3 hs3)
 have Hr1 := Lib.hid h
 have HK1 := Lib.hid (Keeps.refl (· = r) w)
 clear hi3 hs3 h
 cases x with
 | error m =>
   have HR2 := Lib.hid (show intX (.error m) = .error m from rfl)
   go_enter Tryd.func85, Tryd.ntmps85
   go_wp2_with (first
    | (go_at_call 82; go_must (refine (peek82 Hr1.out).mono ?_; rintro e w5 ⟨rfl, hk5⟩; rw [show headX (.error m) = 0 from rfl])
       have Hr1 := Lib.hid (Hr1.out.keep hk5 id)
       have HK1 := Lib.hid (HK1.out.then hk5)
       clear hk5
       (try simp only [PU]))
   )
   go_loopg [4, 5, 6] 0 (fun k nv dv cv wr => nv = .int .i64 0 ∧ dv = .int .i64 0 ∧ cv = .int .u8 0 ∧ w5 = wr)
   case atStart => exact ⟨rfl, rfl, rfl, rfl⟩
   case round =>
    obtain ⟨rfl, rfl, rfl, hw⟩ := hrel
    subst hw
    obtain ⟨a, hbk, -, -, -⟩ := id Hr1.out
    have c1 := (blk_cell hbk 1).trans rfl
    clear hbk
    go_wp2_with (first
     | (go_at_call 50; go_must (refine (failB Hr1.out _).mono ?_; rintro e w2 ⟨⟨y, rfl⟩, hr2, hk2⟩); have Hr2 := Lib.hid hr2; have HK2 := Lib.hid (HK1.out.trans hk2 (fun _ _ h => h)); clear hr2 hk2; (try simp only [PU]))
    )
    go_ret
    exact ⟨⟨_, rfl, fun y hy => by cases hy⟩, Hr2.out, HK2.out⟩
 | ok s =>
   obtain ⟨RR, hRR⟩ : ∃ y, intX (.ok s) = y := ⟨_, rfl⟩
   rw [hRR]
   by_cases h45 : headB s = 45
   · obtain ⟨s1, rfl⟩ : ∃ q, s = 45 :: q := by
      cases s with
      | nil => exact absurd h45 (by decide)
      | cons c q => exact ⟨q, by rw [show c = 45 from h45]⟩
     have HRR := Lib.hid (show numE true (digitsB true s1) = RR by rw [← hRR]; exact (intB_neg s1).symm)
     obtain ⟨a, ha, ⟨hbk, -⟩, hT, hsum, hnx⟩ := Hr1.out.cons
     have c1 := (blk_cell hbk 1).trans rfl
     have c2 := (blk_cell hbk 2).trans rfl
     have Hb := Lib.hid hbk
     have Hnx := Lib.hid hnx
     have hai : (a : Int) ≤ 1000000 := by omega
     clear hRR h45 hbk hnx ha hsum
     go_enter Tryd.func85, Tryd.ntmps85
     go_upto_region 2 with (first
      | (go_at_call 82; go_must (refine (peek82 Hr1.out).mono ?_; rintro e w5 ⟨rfl, hk5⟩; rw [show headX (.ok (45 :: s1)) = 45 from rfl])
         have Hb := Lib.hid (hk5.blk Hb.out id)
         have HK1 := Lib.hid (HK1.out.then hk5)
         clear hk5 c1 c2
         have c1 := (blk_cell Hb.out 1).trans rfl
         have c2 := (blk_cell Hb.out 2).trans rfl
         (try simp only [PU]))
     )
     go_upto_region 4 with (first
      | ((with_reducible refine at_store (t := 3) rfl ?_); go_must (refine ev_store (cs' := #[.string T, .int .i64 ((a : Int) + 1), .int .i64 (-1)]) rfl rfl rfl rfl rfl rfl HI.out.1 HI.out.2 rfl Hb.out (Nat.le_of_ble_eq_true rfl) rfl ?_; intro w1 hb1 hk1)
         have Hr1 := Lib.hid (Hnx.out _ hb1)
         have HK1 := Lib.hid (HK1.out.trans hk1 (fun _ _ h => h))
         clear hb1 hk1 c1 c2
         (try simp only [PU]))
     )
     obtain ⟨Rn, hRn⟩ : ∃ y, numB true true 0 s1 = y := ⟨_, rfl⟩
     have HRn := Lib.hid hRn
     obtain ⟨h0, hh0⟩ : ∃ y, headN s1 = y := ⟨_, rfl⟩
     have Hh0 := Lib.hid hh0
     clear hRn hh0
     go_wp2_with (first
      | (go_at_call 82; go_must (refine (peek82 Hr1.out).mono ?_; rintro e w5 ⟨rfl, hk5⟩; rw [show headX (.ok s1) = headN s1 from rfl, Hh0.out])
         have Hr1 := Lib.hid (Hr1.out.keep hk5 id)
         have HK1 := Lib.hid (HK1.out.then hk5)
         clear hk5
         (try simp only [PU]))
     )
     go_loopg [4, 5, 6] s1.length (fun K nv dv cv wr => ∃ (n d : Nat) (s' : Bs), nv = .int .i64 n ∧ dv = .int .i64 d ∧ cv = .int .u8 (headN s') ∧ s'.length ≤ K ∧ Hid (n ≤ 9007199254740991 ∧ d + s'.length ≤ 1000000 ∧ (d = 0 → n = 0 ∧ s' = s1) ∧ (¬ d = 0 → startsDigit s1 = true)) ∧ Hid (Rf wr r T (.ok s')) ∧ Hid (Keeps (· = r) w wr) ∧ Hid (numB true (decide (d = 0)) n s' = Rn))
     case atStart => exact ⟨0, 0, s1, rfl, rfl, by rw [Hh0.out], Nat.le_refl _, Lib.hid ⟨Nat.zero_le _, by have := Hr1.out.le; have := Hr1.out.len; omega, fun _ => ⟨rfl, rfl⟩, fun e => absurd rfl e⟩, Hr1, HK1, HRn⟩
     case round =>
      obtain ⟨n, d, s', rfl, rfl, rfl, hl, Hd, Hr, HK, HN⟩ := hrel
      have hni : (n : Int) ≤ 9007199254740991 := by have := Hd.out.1; omega
      have hdi : (d : Int) ≤ 1000000 := by have := Hd.out.2.1; omega
      have Hl := Lib.hid hl
      clear hl
      rcases hsd : startsDigit s' with _ | _
      · have Hst := Lib.hid (show Rn = .ok (n, s') by rw [← HN.out, numB_halt hsd])
        obtain ⟨a, hbk, hsum, ha, -⟩ := Hr.out.good
        have c1 := (blk_cell hbk 1).trans rfl
        have c2 := (blk_cell hbk 2).trans rfl
        have hai : (a : Int) ≤ 1000000 := by have := Hr.out.len; omega
        have Hfail := Lib.hid (failG Hr.out s'.length Hr.out.le (a : Nat) (by rw [ha]))
        have hdh := digit_head s'
        rw [hsd] at hdh
        have hno : ¬ (48 ≤ headN s' ∧ headN s' ≤ 57) := by
         intro h
         simp [h.1, h.2] at hdh
        have Hsd := Lib.hid hsd
        obtain ⟨hv, hhv⟩ : ∃ y, headN s' = y := ⟨_, rfl⟩
        rw [hhv] at hno ⊢
        clear hdh hsd hhv hbk hsum ha
        by_cases hd0 : d = 0
        · have HR2 := Lib.hid (show RR = .error s'.length by
           rw [← HRR.out]
           unfold digitsB
           rw [← (Hd.out.2.2.1 hd0).2, Hsd.out]
           rfl)
          obtain rfl : n = 0 := (Hd.out.2.2.1 hd0).1
          subst hd0
          by_cases h48 : 48 ≤ hv
          · have h57 : ¬ hv ≤ 57 := fun e => hno ⟨h48, e⟩
            clear hno
            go_wp2_with (first
             | (go_at_call 50; go_must (refine Hfail.out.mono ?_; rintro e w2 ⟨⟨y, rfl⟩, hr2, hk2⟩); have Hr2 := Lib.hid hr2; have HK2 := Lib.hid hk2; clear hr2 hk2; (try simp only [PU]))
            )
            go_ret
            refine ⟨⟨_, rfl, fun y hy => ?_⟩, ?_, HK.out.trans HK2.out (fun _ _ h => h)⟩
            · rw [HR2.out] at hy; cases hy
            · rw [HR2.out]; exact Hr2.out
          · clear hno
            go_wp2_with (first
             | (go_at_call 50; go_must (refine Hfail.out.mono ?_; rintro e w2 ⟨⟨y, rfl⟩, hr2, hk2⟩); have Hr2 := Lib.hid hr2; have HK2 := Lib.hid hk2; clear hr2 hk2; (try simp only [PU]))
            )
            go_ret
            refine ⟨⟨_, rfl, fun y hy => ?_⟩, ?_, HK.out.trans HK2.out (fun _ _ h => h)⟩
            · rw [HR2.out] at hy; cases hy
            · rw [HR2.out]; exact Hr2.out
        · have hdp : ((d : Int) == 0) = false := by simpa using hd0
          have HR2 := Lib.hid (show RR = numE true (.ok (n, s')) by
           rw [← HRR.out]
           unfold digitsB
           rw [if_pos (Hd.out.2.2.2 hd0), HRn.out, Hst.out])
          unfold numE at HR2
          clear hd0
          by_cases h48 : 48 ≤ hv
          · have h57 : ¬ hv ≤ 57 := fun e => hno ⟨h48, e⟩
            clear hno
            go_wp2
            go_ret
            refine ⟨⟨_, rfl, fun y hy => ?_⟩, ?_, HK.out⟩
            · rw [HR2.out] at hy; injection hy with hy; rw [← hy]; simp
            · rw [HR2.out]; exact Hr.out
          · clear hno
            go_wp2
            go_ret
            refine ⟨⟨_, rfl, fun y hy => ?_⟩, ?_, HK.out⟩
            · rw [HR2.out] at hy; injection hy with hy; rw [← hy]; simp
            · rw [HR2.out]; exact Hr.out
      · cases s' with
        | nil => cases hsd
        | cons c q =>
          have hdig : isDigit c = true := hsd
          have hdh := digit_head (c :: q)
          rw [hsd] at hdh
          simp only [headN] at hdh ⊢
          have hcb : 48 ≤ (c.toNat : Int) ∧ (c.toNat : Int) ≤ 57 := by
           have h := hdh.symm
           rw [Bool.and_eq_true] at h
           exact ⟨of_decide_eq_true h.1, of_decide_eq_true h.2⟩
          have Hdg := Lib.hid (show (digB c : Int) = (c.toNat : Int) - 48 ∧ digB c ≤ 9 by unfold digB; omega)
          have Hs1 := Lib.hid (show startsDigit s1 = true by
           by_cases hd0 : d = 0
           · rw [← (Hd.out.2.2.1 hd0).2]; exact hsd
           · exact Hd.out.2.2.2 hd0)
          have HE1 := Lib.hid (show numE true (digitsB true s1) = numE true Rn by unfold digitsB; rw [if_pos Hs1.out, HRn.out])
          have Hdig := Lib.hid hdig
          have Hdl := Lib.hid (show d + 1 + q.length ≤ 1000000 by have := Hd.out.2.1; simp only [List.length_cons] at this; omega)
          have hc48 : c = 48 ↔ (c.toNat : Int) = 48 := ⟨fun e => by rw [e]; rfl, fun e => UInt8.toNat_inj.1 (by show c.toNat = 48; omega)⟩
          have Hc48 := Lib.hid hc48
          have Hl := Lib.hid (show q.length + 1 ≤ _ from Hl.out)
          obtain ⟨a, ha, ⟨hbk, -⟩, -, hsum, hnx⟩ := Hr.out.cons
          have c1 := (blk_cell hbk 1).trans rfl
          have c2 := (blk_cell hbk 2).trans rfl
          have Hb := Lib.hid hbk
          have Hnx := Lib.hid hnx
          have hai : (a : Int) ≤ 1000000 := by have := Hr.out.len; omega
          have Hfail := Lib.hid (failG Hr.out (q.length + 1) (by omega) (a : Nat) (by omega))
          obtain ⟨cv, hcv⟩ : ∃ y : Int, (c.toNat : Int) = y := ⟨_, rfl⟩
          rw [hcv] at hcb Hdg Hc48 ⊢
          obtain ⟨hv48, hv57⟩ := hcb
          clear hdig hdh hsd hc48 hbk hnx hsum ha hcv
          by_cases hd0 : d = 0
          · obtain rfl : n = 0 := (Hd.out.2.2.1 hd0).1
            subst hd0
            by_cases h48 : cv = 48
            · have H48 := Lib.hid (Hc48.out.2 h48)
              subst h48
              have HR2 := Lib.hid (show RR = .error (q.length + 1) by rw [← HRR.out, HE1.out, ← HN.out, numB_go Hdig.out, if_pos (.inr (.inl ⟨rfl, by simp, H48.out⟩))]; rfl)
              clear Hdig
              go_wp2_with (first
               | (go_at_call 50; go_must (refine Hfail.out.mono ?_; rintro e w2 ⟨⟨y, rfl⟩, hr2, hk2⟩); have Hr2 := Lib.hid hr2; have HK2 := Lib.hid hk2; clear hr2 hk2; (try simp only [PU]))
              )
              go_ret
              refine ⟨⟨_, rfl, fun y hy => ?_⟩, ?_, HK.out.trans HK2.out (fun _ _ h => h)⟩
              · rw [HR2.out] at hy; cases hy
              · rw [HR2.out]; exact Hr2.out
            · have hb48 : (cv == 48) = false := beq_eq_false_iff_ne.2 h48
              have H48 := Lib.hid (show ¬ c = 48 from fun e => h48 (Hc48.out.1 e))
              clear h48
              have HN2 := Lib.hid (show numB true false (0 * 10 + digB c) q = Rn by rw [← HN.out, numB_go Hdig.out, if_neg (fun h => by rcases h with h | h | h; exact absurd h.1 (by simp); exact H48.out h.2.2; (have := Hdg.out.2; omega))])
              have Hmax := Lib.hid (show 0 * 10 + digB c ≤ 9007199254740991 from (by have := Hdg.out.2; omega))
              have HK1 := Lib.hid (Keeps.refl (· = r) wr)
              go_wp2_with (first
               | ((with_reducible refine at_store (t := 3) rfl ?_); go_must (refine ev_store (cs' := #[.string T, .int .i64 ((a : Int) + 1), .int .i64 (-1)]) rfl rfl rfl rfl rfl rfl HI.out.1 HI.out.2 rfl Hb.out (Nat.le_of_ble_eq_true rfl) rfl ?_; intro w1 hb1 hk1)
                  have Hr1 := Lib.hid (Hnx.out _ hb1)
                  have HK1 := Lib.hid (HK1.out.trans hk1 (fun _ _ h => h))
                  clear hb1 hk1 c1 c2
                  (try simp only [PU]))
               | (go_at_call 82; go_must (refine (peek82 Hr1.out).mono ?_; rintro e w5 ⟨rfl, hk5⟩)
                  have Hr1 := Lib.hid (Hr1.out.keep hk5 id)
                  have HK1 := Lib.hid (HK1.out.then hk5)
                  clear hk5
                  (try simp only [PU]))
              )
              go_roundg q.length
              case measure => have := Hl.out; omega
              case rel => exact ⟨0 * 10 + digB c, 0 + 1, q, congrArg (Value.int .i64) (by have := Hdg.out; omega), congrArg (Value.int .i64) (by omega), rfl, Nat.le_refl _, Lib.hid ⟨Hmax.out, by have := Hdl.out; omega, fun e => absurd e (by omega), fun _ => Hs1.out⟩, Hr1, Lib.hid (HK.out.trans HK1.out (fun _ _ h => h)), by rw [show decide (0 + 1 = 0) = false by simp]; exact HN2⟩
          · have hdp : (0 : Int) < (d : Int) := by omega
            have hdq : ((d : Int) == 0) = false := by simpa using hd0
            have Hd0 := Lib.hid hd0
            clear hd0
            by_cases hn0 : n = 0
            · have Hn0 := Lib.hid hn0
              subst hn0
              have HR2 := Lib.hid (show RR = .error (q.length + 1) by rw [← HRR.out, HE1.out, ← HN.out, numB_go Hdig.out, if_pos (.inl ⟨by simpa using Hd0.out, rfl⟩)]; rfl)
              clear Hdig
              go_wp2_with (first
               | (go_at_call 50; go_must (refine Hfail.out.mono ?_; rintro e w2 ⟨⟨y, rfl⟩, hr2, hk2⟩); have Hr2 := Lib.hid hr2; have HK2 := Lib.hid hk2; clear hr2 hk2; (try simp only [PU]))
              )
              go_ret
              refine ⟨⟨_, rfl, fun y hy => ?_⟩, ?_, HK.out.trans HK2.out (fun _ _ h => h)⟩
              · rw [HR2.out] at hy; cases hy
              · rw [HR2.out]; exact Hr2.out
            · have hnq : ((n : Int) == 0) = false := by simpa using hn0
              have Hn0 := Lib.hid hn0
              clear hn0
              by_cases hbig : 9007199254740991 < n * 10 + digB c
              · have hbi : (9007199254740991 : Int) < (n : Int) * 10 + (cv - 48) := by have := Hdg.out; omega
                have Hbig := Lib.hid hbig
                clear hbig
                have HR2 := Lib.hid (show RR = .error (q.length + 1) by rw [← HRR.out, HE1.out, ← HN.out, numB_go Hdig.out, if_pos (.inr (.inr Hbig.out))]; rfl)
                clear Hdig
                go_wp2_with (first
                 | (go_at_call 50; go_must (refine Hfail.out.mono ?_; rintro e w2 ⟨⟨y, rfl⟩, hr2, hk2⟩); have Hr2 := Lib.hid hr2; have HK2 := Lib.hid hk2; clear hr2 hk2; (try simp only [PU]))
                )
                go_ret
                refine ⟨⟨_, rfl, fun y hy => ?_⟩, ?_, HK.out.trans HK2.out (fun _ _ h => h)⟩
                · rw [HR2.out] at hy; cases hy
                · rw [HR2.out]; exact Hr2.out
              · have hbi : ¬ (9007199254740991 : Int) < (n : Int) * 10 + (cv - 48) := by have := Hdg.out; omega
                have Hbig := Lib.hid hbig
                clear hbig
                have HN2 := Lib.hid (show numB true false (n * 10 + digB c) q = Rn by rw [← HN.out, numB_go Hdig.out, if_neg (fun h => by rcases h with h | h | h; exact Hn0.out h.2; exact Hd0.out (by simpa using h.2.1); (exact Hbig.out h))])
                have Hmax := Lib.hid (show n * 10 + digB c ≤ 9007199254740991 from (by have := Hbig.out; omega))
                have HK1 := Lib.hid (Keeps.refl (· = r) wr)
                go_wp2_with (first
                 | ((with_reducible refine at_store (t := 3) rfl ?_); go_must (refine ev_store (cs' := #[.string T, .int .i64 ((a : Int) + 1), .int .i64 (-1)]) rfl rfl rfl rfl rfl rfl HI.out.1 HI.out.2 rfl Hb.out (Nat.le_of_ble_eq_true rfl) rfl ?_; intro w1 hb1 hk1)
                    have Hr1 := Lib.hid (Hnx.out _ hb1)
                    have HK1 := Lib.hid (HK1.out.trans hk1 (fun _ _ h => h))
                    clear hb1 hk1 c1 c2
                    (try simp only [PU]))
                 | (go_at_call 82; go_must (refine (peek82 Hr1.out).mono ?_; rintro e w5 ⟨rfl, hk5⟩)
                    have Hr1 := Lib.hid (Hr1.out.keep hk5 id)
                    have HK1 := Lib.hid (HK1.out.then hk5)
                    clear hk5
                    (try simp only [PU]))
                )
                go_roundg q.length
                case measure => have := Hl.out; omega
                case rel => exact ⟨n * 10 + digB c, d + 1, q, congrArg (Value.int .i64) (by have := Hdg.out; omega), congrArg (Value.int .i64) (by omega), rfl, Nat.le_refl _, Lib.hid ⟨Hmax.out, by have := Hdl.out; omega, fun e => absurd e (by omega), fun _ => Hs1.out⟩, Hr1, Lib.hid (HK.out.trans HK1.out (fun _ _ h => h)), by rw [show decide (d + 1 = 0) = false by simp]; exact HN2⟩
   · have HRR := Lib.hid (show numE false (digitsB false s) = RR by rw [← hRR]; exact (intB_pos h45).symm)
     have h45n : (headN s == 45) = false := by
      rw [headN_B]
      refine beq_eq_false_iff_ne.2 (fun e => h45 (UInt8.toNat_inj.1 ?_))
      have e2 : (45 : UInt8).toNat = 45 := rfl
      omega
     obtain ⟨hs0, hhs0⟩ : ∃ y, headN s = y := ⟨_, rfl⟩
     rw [hhs0] at h45n
     have Hs0 := Lib.hid hhs0
     clear hRR h45 hhs0
     go_enter Tryd.func85, Tryd.ntmps85
     go_upto_region 2 with (first
      | (go_at_call 82; go_must (refine (peek82 Hr1.out).mono ?_; rintro e w5 ⟨rfl, hk5⟩; rw [show headX (.ok s) = headN s from rfl, Hs0.out])
         have Hr1 := Lib.hid (Hr1.out.keep hk5 id)
         have HK1 := Lib.hid (HK1.out.then hk5)
         clear hk5
         (try simp only [PU]))
     )
     go_upto_region 4 with fail
     clear h45n
     obtain ⟨s1, hs1⟩ : ∃ y, y = s := ⟨_, rfl⟩
     subst hs1
     obtain ⟨Rn, hRn⟩ : ∃ y, numB false true 0 s1 = y := ⟨_, rfl⟩
     have HRn := Lib.hid hRn
     obtain ⟨h0, hh0⟩ : ∃ y, headN s1 = y := ⟨_, rfl⟩
     have Hh0 := Lib.hid hh0
     clear hRn hh0
     go_wp2_with (first
      | (go_at_call 82; go_must (refine (peek82 Hr1.out).mono ?_; rintro e w5 ⟨rfl, hk5⟩; rw [show headX (.ok s1) = headN s1 from rfl, Hh0.out])
         have Hr1 := Lib.hid (Hr1.out.keep hk5 id)
         have HK1 := Lib.hid (HK1.out.then hk5)
         clear hk5
         (try simp only [PU]))
     )
     go_loopg [4, 5, 6] s1.length (fun K nv dv cv wr => ∃ (n d : Nat) (s' : Bs), nv = .int .i64 n ∧ dv = .int .i64 d ∧ cv = .int .u8 (headN s') ∧ s'.length ≤ K ∧ Hid (n ≤ 9007199254740991 ∧ d + s'.length ≤ 1000000 ∧ (d = 0 → n = 0 ∧ s' = s1) ∧ (¬ d = 0 → startsDigit s1 = true)) ∧ Hid (Rf wr r T (.ok s')) ∧ Hid (Keeps (· = r) w wr) ∧ Hid (numB false (decide (d = 0)) n s' = Rn))
     case atStart => exact ⟨0, 0, s1, rfl, rfl, by rw [Hh0.out], Nat.le_refl _, Lib.hid ⟨Nat.zero_le _, by have := Hr1.out.le; have := Hr1.out.len; omega, fun _ => ⟨rfl, rfl⟩, fun e => absurd rfl e⟩, Hr1, HK1, HRn⟩
     case round =>
      obtain ⟨n, d, s', rfl, rfl, rfl, hl, Hd, Hr, HK, HN⟩ := hrel
      have hni : (n : Int) ≤ 9007199254740991 := by have := Hd.out.1; omega
      have hdi : (d : Int) ≤ 1000000 := by have := Hd.out.2.1; omega
      have Hl := Lib.hid hl
      clear hl
      rcases hsd : startsDigit s' with _ | _
      · have Hst := Lib.hid (show Rn = .ok (n, s') by rw [← HN.out, numB_halt hsd])
        obtain ⟨a, hbk, hsum, ha, -⟩ := Hr.out.good
        have c1 := (blk_cell hbk 1).trans rfl
        have c2 := (blk_cell hbk 2).trans rfl
        have hai : (a : Int) ≤ 1000000 := by have := Hr.out.len; omega
        have Hfail := Lib.hid (failG Hr.out s'.length Hr.out.le (a : Nat) (by rw [ha]))
        have hdh := digit_head s'
        rw [hsd] at hdh
        have hno : ¬ (48 ≤ headN s' ∧ headN s' ≤ 57) := by
         intro h
         simp [h.1, h.2] at hdh
        have Hsd := Lib.hid hsd
        obtain ⟨hv, hhv⟩ : ∃ y, headN s' = y := ⟨_, rfl⟩
        rw [hhv] at hno ⊢
        clear hdh hsd hhv hbk hsum ha
        by_cases hd0 : d = 0
        · have HR2 := Lib.hid (show RR = .error s'.length by
           rw [← HRR.out]
           unfold digitsB
           rw [← (Hd.out.2.2.1 hd0).2, Hsd.out]
           rfl)
          obtain rfl : n = 0 := (Hd.out.2.2.1 hd0).1
          subst hd0
          by_cases h48 : 48 ≤ hv
          · have h57 : ¬ hv ≤ 57 := fun e => hno ⟨h48, e⟩
            clear hno
            go_wp2_with (first
             | (go_at_call 50; go_must (refine Hfail.out.mono ?_; rintro e w2 ⟨⟨y, rfl⟩, hr2, hk2⟩); have Hr2 := Lib.hid hr2; have HK2 := Lib.hid hk2; clear hr2 hk2; (try simp only [PU]))
            )
            go_ret
            refine ⟨⟨_, rfl, fun y hy => ?_⟩, ?_, HK.out.trans HK2.out (fun _ _ h => h)⟩
            · rw [HR2.out] at hy; cases hy
            · rw [HR2.out]; exact Hr2.out
          · clear hno
            go_wp2_with (first
             | (go_at_call 50; go_must (refine Hfail.out.mono ?_; rintro e w2 ⟨⟨y, rfl⟩, hr2, hk2⟩); have Hr2 := Lib.hid hr2; have HK2 := Lib.hid hk2; clear hr2 hk2; (try simp only [PU]))
            )
            go_ret
            refine ⟨⟨_, rfl, fun y hy => ?_⟩, ?_, HK.out.trans HK2.out (fun _ _ h => h)⟩
            · rw [HR2.out] at hy; cases hy
            · rw [HR2.out]; exact Hr2.out
        · have hdp : ((d : Int) == 0) = false := by simpa using hd0
          have HR2 := Lib.hid (show RR = numE false (.ok (n, s')) by
           rw [← HRR.out]
           unfold digitsB
           rw [if_pos (Hd.out.2.2.2 hd0), HRn.out, Hst.out])
          unfold numE at HR2
          clear hd0
          by_cases h48 : 48 ≤ hv
          · have h57 : ¬ hv ≤ 57 := fun e => hno ⟨h48, e⟩
            clear hno
            go_wp2
            go_ret
            refine ⟨⟨_, rfl, fun y hy => ?_⟩, ?_, HK.out⟩
            · rw [HR2.out] at hy; injection hy with hy; rw [← hy]; simp
            · rw [HR2.out]; exact Hr.out
          · clear hno
            go_wp2
            go_ret
            refine ⟨⟨_, rfl, fun y hy => ?_⟩, ?_, HK.out⟩
            · rw [HR2.out] at hy; injection hy with hy; rw [← hy]; simp
            · rw [HR2.out]; exact Hr.out
      · cases s' with
        | nil => cases hsd
        | cons c q =>
          have hdig : isDigit c = true := hsd
          have hdh := digit_head (c :: q)
          rw [hsd] at hdh
          simp only [headN] at hdh ⊢
          have hcb : 48 ≤ (c.toNat : Int) ∧ (c.toNat : Int) ≤ 57 := by
           have h := hdh.symm
           rw [Bool.and_eq_true] at h
           exact ⟨of_decide_eq_true h.1, of_decide_eq_true h.2⟩
          have Hdg := Lib.hid (show (digB c : Int) = (c.toNat : Int) - 48 ∧ digB c ≤ 9 by unfold digB; omega)
          have Hs1 := Lib.hid (show startsDigit s1 = true by
           by_cases hd0 : d = 0
           · rw [← (Hd.out.2.2.1 hd0).2]; exact hsd
           · exact Hd.out.2.2.2 hd0)
          have HE1 := Lib.hid (show numE false (digitsB false s1) = numE false Rn by unfold digitsB; rw [if_pos Hs1.out, HRn.out])
          have Hdig := Lib.hid hdig
          have Hdl := Lib.hid (show d + 1 + q.length ≤ 1000000 by have := Hd.out.2.1; simp only [List.length_cons] at this; omega)
          have hc48 : c = 48 ↔ (c.toNat : Int) = 48 := ⟨fun e => by rw [e]; rfl, fun e => UInt8.toNat_inj.1 (by show c.toNat = 48; omega)⟩
          have Hc48 := Lib.hid hc48
          have Hl := Lib.hid (show q.length + 1 ≤ _ from Hl.out)
          obtain ⟨a, ha, ⟨hbk, -⟩, -, hsum, hnx⟩ := Hr.out.cons
          have c1 := (blk_cell hbk 1).trans rfl
          have c2 := (blk_cell hbk 2).trans rfl
          have Hb := Lib.hid hbk
          have Hnx := Lib.hid hnx
          have hai : (a : Int) ≤ 1000000 := by have := Hr.out.len; omega
          have Hfail := Lib.hid (failG Hr.out (q.length + 1) (by omega) (a : Nat) (by omega))
          obtain ⟨cv, hcv⟩ : ∃ y : Int, (c.toNat : Int) = y := ⟨_, rfl⟩
          rw [hcv] at hcb Hdg Hc48 ⊢
          obtain ⟨hv48, hv57⟩ := hcb
          clear hdig hdh hsd hc48 hbk hnx hsum ha hcv
          by_cases hd0 : d = 0
          · obtain rfl : n = 0 := (Hd.out.2.2.1 hd0).1
            subst hd0
            skip
            have HN2 := Lib.hid (show numB false false (0 * 10 + digB c) q = Rn by rw [← HN.out, numB_go Hdig.out, if_neg (fun h => by rcases h with h | h | h; exact absurd h.1 (by simp); exact absurd h.1 (by simp); (have := Hdg.out.2; omega))])
            have Hmax := Lib.hid (show 0 * 10 + digB c ≤ 9007199254740991 from (by have := Hdg.out.2; omega))
            have HK1 := Lib.hid (Keeps.refl (· = r) wr)
            go_wp2_with (first
             | ((with_reducible refine at_store (t := 3) rfl ?_); go_must (refine ev_store (cs' := #[.string T, .int .i64 ((a : Int) + 1), .int .i64 (-1)]) rfl rfl rfl rfl rfl rfl HI.out.1 HI.out.2 rfl Hb.out (Nat.le_of_ble_eq_true rfl) rfl ?_; intro w1 hb1 hk1)
                have Hr1 := Lib.hid (Hnx.out _ hb1)
                have HK1 := Lib.hid (HK1.out.trans hk1 (fun _ _ h => h))
                clear hb1 hk1 c1 c2
                (try simp only [PU]))
             | (go_at_call 82; go_must (refine (peek82 Hr1.out).mono ?_; rintro e w5 ⟨rfl, hk5⟩)
                have Hr1 := Lib.hid (Hr1.out.keep hk5 id)
                have HK1 := Lib.hid (HK1.out.then hk5)
                clear hk5
                (try simp only [PU]))
            )
            go_roundg q.length
            case measure => have := Hl.out; omega
            case rel => exact ⟨0 * 10 + digB c, 0 + 1, q, congrArg (Value.int .i64) (by have := Hdg.out; omega), congrArg (Value.int .i64) (by omega), rfl, Nat.le_refl _, Lib.hid ⟨Hmax.out, by have := Hdl.out; omega, fun e => absurd e (by omega), fun _ => Hs1.out⟩, Hr1, Lib.hid (HK.out.trans HK1.out (fun _ _ h => h)), by rw [show decide (0 + 1 = 0) = false by simp]; exact HN2⟩
          · have hdp : (0 : Int) < (d : Int) := by omega
            have hdq : ((d : Int) == 0) = false := by simpa using hd0
            have Hd0 := Lib.hid hd0
            clear hd0
            by_cases hn0 : n = 0
            · have Hn0 := Lib.hid hn0
              subst hn0
              have HR2 := Lib.hid (show RR = .error (q.length + 1) by rw [← HRR.out, HE1.out, ← HN.out, numB_go Hdig.out, if_pos (.inl ⟨by simpa using Hd0.out, rfl⟩)]; rfl)
              clear Hdig
              go_wp2_with (first
               | (go_at_call 50; go_must (refine Hfail.out.mono ?_; rintro e w2 ⟨⟨y, rfl⟩, hr2, hk2⟩); have Hr2 := Lib.hid hr2; have HK2 := Lib.hid hk2; clear hr2 hk2; (try simp only [PU]))
              )
              go_ret
              refine ⟨⟨_, rfl, fun y hy => ?_⟩, ?_, HK.out.trans HK2.out (fun _ _ h => h)⟩
              · rw [HR2.out] at hy; cases hy
              · rw [HR2.out]; exact Hr2.out
            · have hnq : ((n : Int) == 0) = false := by simpa using hn0
              have Hn0 := Lib.hid hn0
              clear hn0
              by_cases hbig : 9007199254740991 < n * 10 + digB c
              · have hbi : (9007199254740991 : Int) < (n : Int) * 10 + (cv - 48) := by have := Hdg.out; omega
                have Hbig := Lib.hid hbig
                clear hbig
                have HR2 := Lib.hid (show RR = .error (q.length + 1) by rw [← HRR.out, HE1.out, ← HN.out, numB_go Hdig.out, if_pos (.inr (.inr Hbig.out))]; rfl)
                clear Hdig
                go_wp2_with (first
                 | (go_at_call 50; go_must (refine Hfail.out.mono ?_; rintro e w2 ⟨⟨y, rfl⟩, hr2, hk2⟩); have Hr2 := Lib.hid hr2; have HK2 := Lib.hid hk2; clear hr2 hk2; (try simp only [PU]))
                )
                go_ret
                refine ⟨⟨_, rfl, fun y hy => ?_⟩, ?_, HK.out.trans HK2.out (fun _ _ h => h)⟩
                · rw [HR2.out] at hy; cases hy
                · rw [HR2.out]; exact Hr2.out
              · have hbi : ¬ (9007199254740991 : Int) < (n : Int) * 10 + (cv - 48) := by have := Hdg.out; omega
                have Hbig := Lib.hid hbig
                clear hbig
                have HN2 := Lib.hid (show numB false false (n * 10 + digB c) q = Rn by rw [← HN.out, numB_go Hdig.out, if_neg (fun h => by rcases h with h | h | h; exact Hn0.out h.2; exact Hd0.out (by simpa using h.2.1); (exact Hbig.out h))])
                have Hmax := Lib.hid (show n * 10 + digB c ≤ 9007199254740991 from (by have := Hbig.out; omega))
                have HK1 := Lib.hid (Keeps.refl (· = r) wr)
                go_wp2_with (first
                 | ((with_reducible refine at_store (t := 3) rfl ?_); go_must (refine ev_store (cs' := #[.string T, .int .i64 ((a : Int) + 1), .int .i64 (-1)]) rfl rfl rfl rfl rfl rfl HI.out.1 HI.out.2 rfl Hb.out (Nat.le_of_ble_eq_true rfl) rfl ?_; intro w1 hb1 hk1)
                    have Hr1 := Lib.hid (Hnx.out _ hb1)
                    have HK1 := Lib.hid (HK1.out.trans hk1 (fun _ _ h => h))
                    clear hb1 hk1 c1 c2
                    (try simp only [PU]))
                 | (go_at_call 82; go_must (refine (peek82 Hr1.out).mono ?_; rintro e w5 ⟨rfl, hk5⟩)
                    have Hr1 := Lib.hid (Hr1.out.keep hk5 id)
                    have HK1 := Lib.hid (HK1.out.then hk5)
                    clear hk5
                    (try simp only [PU]))
                )
                go_roundg q.length
                case measure => have := Hl.out; omega
                case rel => exact ⟨n * 10 + digB c, d + 1, q, congrArg (Value.int .i64) (by have := Hdg.out; omega), congrArg (Value.int .i64) (by omega), rfl, Nat.le_refl _, Lib.hid ⟨Hmax.out, by have := Hdl.out; omega, fun e => absurd e (by omega), fun _ => Hs1.out⟩, Hr1, Lib.hid (HK.out.trans HK1.out (fun _ _ h => h)), by rw [show decide (d + 1 = 0) = false by simp]; exact HN2⟩
end Go.Proofs.WV

namespace Go.Proofs.WV
open Go.RowKit Go.Proofs.KL Go.Proofs.WM
set_option maxRecDepth 100000
set_option linter.unusedSimpArgs false
set_option linter.unusedVariables false

theorem escape102 {w : World} {r : Nat} {T : ByteArray} {s : Bs} (h : Rd w r T s) : Calls Tryd.prog 102 #[.pointer (some ⟨r, 0, none⟩)] w (EndR w r T (fun b => .int .u8 b.toNat) (escB s)) := by
 rcases shortS (headB s) with ⟨h1, -⟩ | ⟨b, i, h1, hi, h2, h3⟩
 · exact escLong h h1
 · cases s with
   | nil =>
     have hz : shortB (headB []) = none := by decide
     rw [hz] at h1
     cases h1
   | cons c q =>
     have h1' : shortB c = some b := h1
     have he : escB (c :: q) = .ok (meantT.getD i 0, q) := by simp only [escB, h1', h3]
     rw [he]
     exact escShort h i hi h2
theorem u8_lt32 (c : UInt8) : c < 32 ↔ (c.toNat : Int) < 32 := by
 rw [UInt8.lt_iff_toNat_lt]
 have h1 : (32 : UInt8).toNat = 32 := rfl
 rw [h1]
 omega
theorem u8_is (c : UInt8) (n : Nat) (h : n < 256) : c = UInt8.ofNat n ↔ (c.toNat : Int) = n := by
 constructor
 · rintro rfl; rw [UInt8.toNat_ofNat']; omega
 · intro e
   refine UInt8.toNat_inj.1 ?_
   rw [UInt8.toNat_ofNat']
   omega
set_option maxHeartbeats 4000000 in
theorem str75 {w : World} {r : Nat} {T : ByteArray} {s : Bs} (h : Rd w r T s) : Calls Tryd.prog 75 #[.pointer (some ⟨r, 0, none⟩)] w (EndR w r T (fun s => .string (mkB s)) (strB s)) := by
 obtain ⟨i3, hi3, hs3⟩ := infoS3
 have HI := Lib.hid (And.intro hi3 hs3)
 have H74 := Lib.hid (word74 h ⟨#[34]⟩ (by decide) (nz1 34 (by decide)))
 have hbl : bl ⟨#[34]⟩ = [34] := rfl
 rw [hbl] at H74
 unfold strB
 have Hr0 := Lib.hid h.lt
 have hT := h.len
 clear hbl hi3 hs3 h
 rcases hw : wordB [34] s with n | s1
 · rw [hw] at H74
   clear hw
   show Calls _ _ _ _ (EndR w r T (fun s : Bs => Value.string (mkB s)) (.error n))
   go_enter Tryd.func75, Tryd.ntmps75
   go_wp2_with (first
    | (go_at_call 74; go_must (refine H74.out.mono ?_; rintro e w4 ⟨rfl, hk4⟩); have HK4 := Lib.hid hk4; clear hk4; unfold stopAt; (try simp only [PU]))
   )
   exact ⟨rfl, rfl, HK4.out⟩
 · rw [hw] at H74
   clear hw
   show Calls _ _ _ _ (EndR w r T (fun s : Bs => Value.string (mkB s)) (strGo (s1.length + 1) [] s1))
   obtain ⟨R0, hR0⟩ : ∃ x, strGo (s1.length + 1) [] s1 = x := ⟨_, rfl⟩
   rw [hR0]
   have HR0 := Lib.hid hR0
   clear hR0
   go_enter Tryd.func75, Tryd.ntmps75
   go_wp2_with (first
    | (go_at_call 74; go_must (refine H74.out.mono ?_; rintro e w4 ⟨⟨x4, rfl⟩, hr4, hk4⟩); have HR4 := Lib.hid hr4; have HK4 := Lib.hid hk4; clear hk4 hr4; (try simp only [PU]))
   )
   go_loopg [3, 4] (s1.length + 1) (fun k bv cv wr => ∃ (f : Nat) (acc s' : Bs) (A : Option Addr) (cp : Nat), k = f + 1 ∧ bv = .slice A acc.length cp ∧ s'.length ≤ f ∧ Hid (acc.length + s'.length ≤ T.size) ∧ Hid (OwnB wr w.heap.size (.slice A acc.length cp) acc) ∧ Hid (Rd wr r T s') ∧ Hid (Keeps (· = r) w wr) ∧ Hid (strGo (f + 1) acc s' = R0))
   case atStart => exact ⟨s1.length, [], s1, none, 0, rfl, rfl, Nat.le_refl _, Lib.hid (by simpa using HR4.out.le), Lib.hid (.inl ⟨rfl, rfl⟩), HR4, HK4, HR0⟩
   case round =>
    obtain ⟨f, acc, s', A, cp, rfl, rfl, hl, Hacc, HO, Hr, HK, HE⟩ := hrel
    have H101 := Lib.hid (is101 Hr.out 34 34 rfl)
    obtain ⟨n, hn⟩ : ∃ x, acc.length = x := ⟨_, rfl⟩
    have Hn := Lib.hid hn
    rw [hn] at HO Hacc ⊢
    clear hn
    cases s' with
    | nil =>
      have HR2 := Lib.hid (show R0 = .error 0 from HE.out.symm)
      have hi0 : isB 34 [] = (false, []) := rfl
      rw [hi0] at H101
      unfold IsOut at H101
      simp only at H101
      clear hi0
      go_wp2_with (first
       | (go_at_call 101; go_must (refine H101.out.mono ?_; rintro e w2 ⟨rfl, hr2, hk2⟩); have Hr2 := Lib.hid hr2; have HK2 := Lib.hid (HK.out.trans hk2 (fun _ _ h => h)); clear hr2 hk2; (try simp only [PU]))
       | (go_at_call 73; go_must (refine (next73 Hr2.out).mono ?_; rintro e w3 ⟨rfl, hk3⟩); have HK3 := Lib.hid (HK2.out.then hk3); have Hr3 := Lib.hid (Hr2.out.keep hk3 id); have q1 := (blk_cell Hr3.out.nil 1).trans rfl; clear hk3; unfold headN; (try simp only [PU]))
       | (go_at_call 47; go_must (refine (fail47 Hr3.out 0 (Nat.zero_le _)).mono ?_; rintro e w5 ⟨rfl, rfl⟩); unfold stopAt; (try simp only [PU]))
      )
      exact ⟨rfl, by rw [HR2.out]; exact ⟨rfl, HK3.out⟩⟩
    | cons c q =>
      have hstep : strGo (f + 1) acc (c :: q) = if c = 34 then .ok (acc, q) else if c < 32 then .error (q.length + 1) else if c = 92 then (match escB q with | .ok (b, r1) => strGo f (acc ++ [b]) r1 | .error e => .error e) else strGo f (acc ++ [c]) q := rfl
      have HE2 := Lib.hid (hstep.symm.trans HE.out)
      have Hrr := Lib.hid Hr0.out
      simp only [List.length_cons] at hl
      have Hacc1 := Lib.hid (show n + (q.length + 1) ≤ T.size from Hacc.out)
      clear hstep
      by_cases h34 : c = 34
      · subst h34
        have HR2 := Lib.hid (show R0 = .ok (acc, q) by rw [← HE2.out, if_pos rfl])
        rw [isB_at] at H101
        unfold IsOut at H101
        simp only at H101
        go_wp2_with (first
         | (go_at_call 101; go_must (refine H101.out.mono ?_; rintro e w2 ⟨rfl, hr2, hk2⟩); have Hr2 := Lib.hid hr2; have HO2 := Lib.hid (HO.out.keep hk2 (fun k hk e => by have := (HO.out.lt k hk).1; have := Hr0.out; omega)); have HK2 := Lib.hid (HK.out.trans hk2 (fun _ _ h => h)); clear hr2 hk2; (try simp only [PU]))
         | ((with_reducible refine at_dst (N := 48) rfl ?_); go_must (refine ev_conv_bs rfl rfl Tryd.underlying38 Tryd.underlying5 Tryd.underlying9 rfl HO2.out.bytes ?_); (try simp only [PU]))
        )
        go_ret
        rw [HR2.out]
        exact ⟨rfl, Hr2.out, HK2.out⟩
      · rw [isB_ne h34] at H101
        unfold IsOut at H101
        simp only at H101
        obtain ⟨cv, hcv⟩ : ∃ x : Int, (c.toNat : Int) = x := ⟨_, rfl⟩
        have Hcv := Lib.hid (show headN (c :: q) = cv from hcv)
        have Hbc := Lib.hid hcv
        have H34 := Lib.hid h34
        by_cases h32 : c < 32
        · have h32i : cv < 32 := by rw [← hcv]; exact (u8_lt32 c).1 h32
          have HR2 := Lib.hid (show R0 = .error (q.length + 1) by rw [← HE2.out, if_neg H34.out, if_pos h32])
          clear h32 hcv h34
          go_wp2_with (first
           | (go_at_call 101; go_must (refine H101.out.mono ?_; rintro e w2 ⟨rfl, hr2, hk2⟩); have Hr2 := Lib.hid hr2; have HK2 := Lib.hid (HK.out.trans hk2 (fun _ _ h => h)); clear hr2 hk2; (try simp only [PU]))
           | (go_at_call 73; go_must (refine (next73 Hr2.out).mono ?_; rintro e w3 ⟨rfl, hk3⟩); have HK3 := Lib.hid (HK2.out.then hk3); have Hr3 := Lib.hid (Hr2.out.keep hk3 id); have q1 := (blk_cell Hr3.out.blk 1).trans rfl; clear hk3; rw [Hcv.out]; (try simp only [PU]))
           | (go_at_call 47; go_must (refine (fail47 Hr3.out (q.length + 1) Hr3.out.le).mono ?_; rintro e w5 ⟨rfl, rfl⟩); unfold stopAt; (try simp only [PU]))
          )
          exact ⟨rfl, by rw [HR2.out]; exact ⟨rfl, HK3.out⟩⟩
        · have h32i : ¬ cv < 32 := by rw [← hcv]; exact fun h => h32 ((u8_lt32 c).2 h)
          have H32 := Lib.hid h32
          by_cases h92 : c = 92
          · have h92i : cv = 92 := by rw [← hcv, h92]; rfl
            have HE3 := Lib.hid (show (match escB q with | .ok (b, r1) => strGo f (acc ++ [b]) r1 | .error e => .error e) = R0 by rw [← HE2.out, if_neg H34.out, if_neg H32.out, if_pos h92])
            subst h92i
            clear hcv h34 h32 h92 h32i
            rcases he : escB q with m | ⟨bb, r1⟩
            · have HR2 := Lib.hid (show R0 = .error m by rw [← HE3.out, he])
              have He := Lib.hid he
              clear he
              go_wp2_with (first
               | (go_at_call 101; go_must (refine H101.out.mono ?_; rintro e w2 ⟨rfl, hr2, hk2⟩); have Hr2 := Lib.hid hr2; have HK2 := Lib.hid (HK.out.trans hk2 (fun _ _ h => h)); have HO2 := Lib.hid (HO.out.keep hk2 (fun k hk e => by have := (HO.out.lt k hk).1; have := Hr0.out; omega)); clear hr2 hk2; (try simp only [PU]))
               | (go_at_call 73; go_must (refine (next73 Hr2.out).mono ?_; rintro e w3 ⟨rfl, hk3⟩)
                  have HK3 := Lib.hid (HK2.out.then hk3)
                  have HO3 := Lib.hid (HO2.out.keep hk3 (fun _ _ => id))
                  have Hr3 := Lib.hid (Hr2.out.keep hk3 id)
                  obtain ⟨a, ha, ⟨hb, -⟩, -, -, hnx⟩ := Hr3.out.cons
                  have q1 := (blk_cell hb 1).trans rfl
                  have Hb3 := Lib.hid hb
                  have Hnx := Lib.hid hnx
                  clear hk3 hb hnx
                  rw [Hcv.out]
                  (try simp only [PU]))
               | ((with_reducible refine at_store (t := 3) rfl ?_); go_must (refine ev_store (cs' := #[.string T, .int .i64 ((a : Int) + 1)]) rfl rfl rfl rfl rfl rfl HI.out.1 HI.out.2 rfl Hb3.out (Nat.le_of_ble_eq_true rfl) rfl ?_; intro w5 hb5 hk5)
                  have HR5 := Lib.hid (Hnx.out w5 hb5)
                  have HK5 := Lib.hid (HK3.out.trans hk5 (fun _ _ h => h))
                  have HO4 := Lib.hid (HO3.out.keep hk5 (fun k hk e => by have := (HO3.out.lt k hk).1; have := Hr0.out; omega))
                  have HO5 := HO4
                  have HKA := HK5
                  clear hb5 hk5 q1
                  (try simp only [PU]))
               | (go_at_call 102; go_must (have h102 := escape102 HR5.out; rw [He.out] at h102; refine h102.mono ?_; rintro e w9 ⟨rfl, hk9⟩); have HK9 := Lib.hid (HK5.out.trans hk9 (fun _ _ h => h)); clear hk9; unfold stopAt; (try simp only [PU]))
              )
              exact ⟨rfl, by rw [HR2.out]; exact ⟨rfl, HK9.out⟩⟩
            · have HR2 := Lib.hid (show strGo f (acc ++ [bb]) r1 = R0 by rw [← HE3.out, he])
              have hel := escB_len he
              have He := Lib.hid he
              obtain ⟨bv, hbv⟩ : ∃ x : Int, (bb.toNat : Int) = x := ⟨_, rfl⟩
              have Hbv := Lib.hid hbv
              clear he hbv
              go_wp2_with (first
               | (go_at_call 101; go_must (refine H101.out.mono ?_; rintro e w2 ⟨rfl, hr2, hk2⟩); have Hr2 := Lib.hid hr2; have HK2 := Lib.hid (HK.out.trans hk2 (fun _ _ h => h)); have HO2 := Lib.hid (HO.out.keep hk2 (fun k hk e => by have := (HO.out.lt k hk).1; have := Hr0.out; omega)); clear hr2 hk2; (try simp only [PU]))
               | (go_at_call 73; go_must (refine (next73 Hr2.out).mono ?_; rintro e w3 ⟨rfl, hk3⟩)
                  have HK3 := Lib.hid (HK2.out.then hk3)
                  have HO3 := Lib.hid (HO2.out.keep hk3 (fun _ _ => id))
                  have Hr3 := Lib.hid (Hr2.out.keep hk3 id)
                  obtain ⟨a, ha, ⟨hb, -⟩, -, -, hnx⟩ := Hr3.out.cons
                  have q1 := (blk_cell hb 1).trans rfl
                  have Hb3 := Lib.hid hb
                  have Hnx := Lib.hid hnx
                  clear hk3 hb hnx
                  rw [Hcv.out]
                  (try simp only [PU]))
               | ((with_reducible refine at_store (t := 3) rfl ?_); go_must (refine ev_store (cs' := #[.string T, .int .i64 ((a : Int) + 1)]) rfl rfl rfl rfl rfl rfl HI.out.1 HI.out.2 rfl Hb3.out (Nat.le_of_ble_eq_true rfl) rfl ?_; intro w5 hb5 hk5)
                  have HR5 := Lib.hid (Hnx.out w5 hb5)
                  have HK5 := Lib.hid (HK3.out.trans hk5 (fun _ _ h => h))
                  have HO4 := Lib.hid (HO3.out.keep hk5 (fun k hk e => by have := (HO3.out.lt k hk).1; have := Hr0.out; omega))
                  have HO5 := HO4
                  have HKA := HK5
                  clear hb5 hk5 q1
                  (try simp only [PU]))
               | (go_at_call 102; go_must (have h102 := escape102 HR5.out; rw [He.out] at h102; refine h102.mono ?_; rintro e w9 ⟨rfl, hr9, hk9⟩)
                  have HKA := Lib.hid (HK5.out.trans hk9 (fun _ _ h => h))
                  have HR9 := Lib.hid hr9
                  have HO5 := Lib.hid (HO4.out.keep hk9 (fun k hk e => by have := (HO4.out.lt k hk).1; have := Hr0.out; omega))
                  clear hr9 hk9
                  simp only [Hbv.out]
                  (try simp only [PU]))
               | ((with_reducible refine at_dst (N := 45) rfl ?_); go_must (refine ev_slice (cs := #[.int .u8 bv]) (t := 5) (n := 1) (c := 1) rfl (by first | (go_simp; done) | (go_simp; rfl)) ?_; intro g4 w6 hg4 hl4 hb4 hk6); have Hb4 := Lib.hid hb4; have HK6 := Lib.hid hk6; clear hb4 hk6; (try simp only [PU]))
               | ((with_reducible refine at_dst (N := 46) rfl ?_); go_must (refine ev_app_sl (W := w6) rfl rfl byteT38 (base := w.heap.size) rfl (HO5.out.keep HK6.out (fun _ _ => id)) rfl (news := [bb]) rfl (fun _ => ⟨_, rfl, by rw [List.map_cons, List.map_nil]; unfold byteV; rw [Hbv.out]; exact World.news_of_block Hb4.out⟩) (by have h1 := Hacc1.out; have h2 : acc.length = n := Hn.out; omega) (by have := HKA.out.size; have := HK6.out.size; omega) ?_; intro v7 w7 ho7 ha7; obtain ⟨nA, nc, hv7⟩ := ho7.slice; subst hv7)
                  have HO7 := Lib.hid ho7
                  have HA7 := Lib.hid ha7
                  clear ho7 ha7
                  (try simp only [PU]))
              )
              go_roundg f
              case measure => omega
              case rel => exact ⟨f - 1, acc ++ [bb], r1, nA, nc, by omega, by rw [List.length_append, Hn.out]; rfl, by omega, Lib.hid (by rw [List.length_append, Hn.out]; simp only [List.length_cons, List.length_nil]; have := Hacc1.out; omega), Lib.hid (by have h := HO7.out; rw [List.length_append, Hn.out] at h ⊢; exact h), Lib.hid ((HR9.out.keep HK6.out id).keep HA7.out.keep (fun e => by have := (HO5.out.lt r e.symm).1; have := Hr0.out; omega)), Lib.hid ((HKA.out.then HK6.out).trans HA7.out.keep (fun k hk e => by have := (HO5.out.lt k e.symm).1; omega)), Lib.hid (by rw [show f - 1 + 1 = f by omega]; exact HR2.out)⟩
          · have h92i : (cv == 92) = false := by rw [← hcv]; exact beq_eq_false_iff_ne.2 (fun e => h92 ((u8_is c 92 (by decide)).2 e))
            have HR2 := Lib.hid (show strGo f (acc ++ [c]) q = R0 by rw [← HE2.out, if_neg H34.out, if_neg H32.out, if_neg h92])
            have Hbv := Hbc
            clear hcv h34 h32 h92
            go_wp2_with (first
             | (go_at_call 101; go_must (refine H101.out.mono ?_; rintro e w2 ⟨rfl, hr2, hk2⟩); have Hr2 := Lib.hid hr2; have HK2 := Lib.hid (HK.out.trans hk2 (fun _ _ h => h)); have HO2 := Lib.hid (HO.out.keep hk2 (fun k hk e => by have := (HO.out.lt k hk).1; have := Hr0.out; omega)); clear hr2 hk2; (try simp only [PU]))
             | (go_at_call 73; go_must (refine (next73 Hr2.out).mono ?_; rintro e w3 ⟨rfl, hk3⟩)
                have HK3 := Lib.hid (HK2.out.then hk3)
                have HO3 := Lib.hid (HO2.out.keep hk3 (fun _ _ => id))
                have Hr3 := Lib.hid (Hr2.out.keep hk3 id)
                obtain ⟨a, ha, ⟨hb, -⟩, -, -, hnx⟩ := Hr3.out.cons
                have q1 := (blk_cell hb 1).trans rfl
                have Hb3 := Lib.hid hb
                have Hnx := Lib.hid hnx
                clear hk3 hb hnx
                rw [Hcv.out]
                (try simp only [PU]))
             | ((with_reducible refine at_store (t := 3) rfl ?_); go_must (refine ev_store (cs' := #[.string T, .int .i64 ((a : Int) + 1)]) rfl rfl rfl rfl rfl rfl HI.out.1 HI.out.2 rfl Hb3.out (Nat.le_of_ble_eq_true rfl) rfl ?_; intro w5 hb5 hk5)
                have HR5 := Lib.hid (Hnx.out w5 hb5)
                have HK5 := Lib.hid (HK3.out.trans hk5 (fun _ _ h => h))
                have HO4 := Lib.hid (HO3.out.keep hk5 (fun k hk e => by have := (HO3.out.lt k hk).1; have := Hr0.out; omega))
                have HO5 := HO4
                have HKA := HK5
                clear hb5 hk5 q1
                (try simp only [PU]))
             | ((with_reducible refine at_dst (N := 21) rfl ?_); go_must (refine ev_slice (cs := #[.int .u8 cv]) (t := 5) (n := 1) (c := 1) rfl (by first | (go_simp; done) | (go_simp; rfl)) ?_; intro g4 w6 hg4 hl4 hb4 hk6); have Hb4 := Lib.hid hb4; have HK6 := Lib.hid hk6; clear hb4 hk6; (try simp only [PU]))
             | ((with_reducible refine at_dst (N := 22) rfl ?_); go_must (refine ev_app_sl (W := w6) rfl rfl byteT38 (base := w.heap.size) rfl (HO5.out.keep HK6.out (fun _ _ => id)) rfl (news := [c]) rfl (fun _ => ⟨_, rfl, by rw [List.map_cons, List.map_nil]; unfold byteV; rw [Hbv.out]; exact World.news_of_block Hb4.out⟩) (by have h1 := Hacc1.out; have h2 : acc.length = n := Hn.out; omega) (by have := HKA.out.size; have := HK6.out.size; omega) ?_; intro v7 w7 ho7 ha7; obtain ⟨nA, nc, hv7⟩ := ho7.slice; subst hv7)
                have HO7 := Lib.hid ho7
                have HA7 := Lib.hid ha7
                clear ho7 ha7
                (try simp only [PU]))
            )
            go_roundg f
            case measure => omega
            case rel => exact ⟨f - 1, acc ++ [c], q, nA, nc, by omega, by rw [List.length_append, Hn.out]; rfl, by omega, Lib.hid (by rw [List.length_append, Hn.out]; simp only [List.length_cons, List.length_nil]; have := Hacc1.out; omega), Lib.hid (by have h := HO7.out; rw [List.length_append, Hn.out] at h ⊢; exact h), Lib.hid ((HR5.out.keep HK6.out id).keep HA7.out.keep (fun e => by have := (HO5.out.lt r e.symm).1; have := Hr0.out; omega)), Lib.hid ((HKA.out.then HK6.out).trans HA7.out.keep (fun k hk e => by have := (HO5.out.lt k e.symm).1; omega)), Lib.hid (by rw [show f - 1 + 1 = f by omega]; exact HR2.out)⟩
end Go.Proofs.WV

namespace Go.Proofs.WV
open Go.RowKit Go.Proofs.KL Go.Proofs.WM
set_option maxRecDepth 100000
set_option linter.unusedSimpArgs false
set_option linter.unusedVariables false

def listF {σ : Type} (close : UInt8) (step : Nat → σ → Bs → R σ) : Nat → σ → Bs → R σ
 | 0, _, r => .error r.length
 | f + 1, x, r => match step f x r with
   | .error e => .error e
   | .ok y => match moreB close y.2 with
     | .done r2 => .ok (y.1, r2)
     | .bad e => .error e
     | .more r2 => listF close step f y.1 r2
def openL {σ : Type} (close : UInt8) (step : Nat → σ → Bs → R σ) (f : Nat) (x0 : σ) (q : Bs) : R σ := match openB close q with
 | some s => .ok (x0, s)
 | none => listF close step f x0 (blanksB q)
theorem openL_nil {σ : Type} {close : UInt8} {step : Nat → σ → Bs → R σ} {f : Nat} {x0 : σ} {q : Bs} (h : blanksB q = []) : openL close step f x0 q = listF close step f x0 [] := by
 unfold openL openB
 rw [h]
theorem openL_at {σ : Type} {close : UInt8} {step : Nat → σ → Bs → R σ} {f : Nat} {x0 : σ} {q q' : Bs} (h : blanksB q = close :: q') : openL close step f x0 q = .ok (x0, q') := by
 unfold openL openB
 rw [h]
 simp
theorem openL_ne {σ : Type} {close : UInt8} {step : Nat → σ → Bs → R σ} {f : Nat} {x0 : σ} {q q' : Bs} {d : UInt8} (h : blanksB q = d :: q') (hd : ¬ d = close) : openL close step f x0 q = listF close step f x0 (d :: q') := by
 unfold openL openB
 rw [h]
 simp [hd]
def MR (r base : Nat) : Nat → Prop := fun k => k = r ∨ base ≤ k
def PartOut (w : World) (r : Nat) (T : ByteArray) (base : Nat) {σ : Type} (Inv : σ → World → Prop) : R σ → Ending → World → Prop
 | .ok x, e, w' => (∃ y, e = .returned y) ∧ Rd w' r T x.2 ∧ Inv x.1 w' ∧ Keeps (MR r base) w w'
 | .error n, e, w' => e = stopAt T n ∧ Keeps (MR r base) w w'
theorem keepsMR {r base : Nat} {w w' : World} (h : Keeps (· = r) w w') : Keeps (MR r base) w w' := h.mono (fun _ _ e => .inl e)
theorem moreB_nil {close : UInt8} {r : Bs} (h : blanksB r = []) : moreB close r = .bad 0 := by unfold moreB; rw [h]
theorem moreB_cons {close : UInt8} {r : Bs} {c : UInt8} {q : Bs} (h : blanksB r = c :: q) : moreB close r = if c = close then .done q else if c = 44 then .more (blanksB q) else .bad (q.length + 1) := by unfold moreB; rw [h]
set_option maxHeartbeats 4000000 in
theorem list78v {σ : Type} {w : World} {r : Nat} {T : ByteArray} {c0 : UInt8} {q : Bs} (h : Rd w r T (c0 :: q)) (base : Nat) (hrb : r < base ∧ base ≤ w.heap.size) (close : UInt8) (p1 p2 p3 : Nat) (step : Nat → σ → Bs → R σ) (Inv : σ → World → Prop)
  (hinv : ∀ x W W', Inv x W → Keeps (· = r) W W' → Inv x W') (hlen : ∀ f x s x' s', step f x s = .ok (x', s') → s'.length ≤ s.length) (size : σ → Nat) (B : Nat) (hsz : ∀ f x s x' s', step f x s = .ok (x', s') → size x' + s'.length ≤ size x + s.length)
  (hp : ∀ f x s W, 3 * s.length + 2 ≤ f → size x + s.length ≤ B → Rd W r T s → Inv x W → Keeps (MR r base) w W → Calls Tryd.prog 79 #[.pointer (some ⟨p1, 0, none⟩), .pointer (some ⟨p2, 0, none⟩), .pointer (some ⟨p3, 0, none⟩)] W (PartOut W r T base Inv (step f x s)))
  (f : Nat) (hf : 3 * (blanksB q).length + 3 ≤ f) (x0 : σ) (hx0 : Inv x0 w) (hB0 : size x0 + q.length ≤ B) :
  Calls Tryd.prog 78 #[.pointer (some ⟨r, 0, none⟩), .int .u8 (close.toNat : Int), .func (.func 79) #[] #[.pointer (some ⟨p1, 0, none⟩), .pointer (some ⟨p2, 0, none⟩), .pointer (some ⟨p3, 0, none⟩)]] w
   (PartOut w r T base Inv (openL close step f x0 q)) := by
 skip
 obtain ⟨i3, hi3, hs3⟩ := infoS3
 have HI := Lib.hid (And.intro hi3 hs3)
 have HP := Lib.hid hp
 have Hinv := Lib.hid hinv
 have Hlen := Lib.hid hlen
 have Hsz := Lib.hid hsz
 have hqb := blanksB_le q
 have Hx0 := Lib.hid hx0
 have Hrb := Lib.hid hrb
 obtain ⟨a, ha, ⟨hb, -⟩, hT, hal, hnx⟩ := h.cons
 have Hb := Lib.hid hb
 have Hnx := Lib.hid hnx
 have q1 := (blk_cell hb 1).trans rfl
 obtain ⟨cl, hcl⟩ : ∃ x : Int, (close.toNat : Int) = x := ⟨_, rfl⟩
 rw [hcl]
 have Hcl := Lib.hid hcl.symm
 obtain ⟨RR, hRR⟩ : ∃ x, openL close step f x0 q = x := ⟨_, rfl⟩
 rw [hRR]
 have HRR := Lib.hid hRR
 have Hf := Lib.hid hf
 clear hp hinv hlen hsz hx0 hrb hb hnx hcl hRR hi3 hs3 hf
 rcases hbq : blanksB q with _ | ⟨d, q'⟩
 · rw [hbq] at Hf
   have HR0 := Lib.hid (show listF close step f x0 [] = RR by rw [← openL_nil hbq]; exact HRR.out)
   have hi0 : isB close [] = (false, []) := rfl
   have Hi0 := Lib.hid hi0
   have Hbq := Lib.hid hbq
   clear hi0 hbq HRR
   obtain ⟨s0, hs0⟩ : ∃ x : Bs, [] = x := ⟨_, rfl⟩
   have Hi1 := Lib.hid (show isB close s0 = (false, s0) by rw [← hs0]; exact Hi0.out)
   have Hbq1 := Lib.hid (show blanksB q = s0 by rw [← hs0]; exact Hbq.out)
   have HR1 := Lib.hid (show listF close step f x0 s0 = RR by rw [← hs0]; exact HR0.out)
   have Hf1 := Lib.hid (show 3 * s0.length + 3 ≤ f by rw [← hs0]; exact Hf.out)
   clear hs0
   go_enter Tryd.func78, Tryd.ntmps78
   go_wp2_with (first
    | ((with_reducible refine at_store (t := 3) rfl ?_); go_must (refine ev_store (cs' := #[.string T, .int .i64 ((a : Int) + 1)]) rfl rfl rfl rfl rfl rfl HI.out.1 HI.out.2 rfl Hb.out (Nat.le_of_ble_eq_true rfl) rfl ?_; intro w1 hb1 hk1); have HR1' := Lib.hid (Hnx.out w1 hb1); have HK1 := Lib.hid hk1; clear hb1 hk1 q1; (try simp only [PU]))
    | (go_at_call 45; go_must (refine (blanks45 HR1'.out).mono ?_; rintro e w2 ⟨⟨y, rfl⟩, hr2, hk2⟩; rw [Hbq1.out] at hr2); have HRb := Lib.hid hr2; have HKb := Lib.hid (HK1.out.trans hk2 (fun _ _ h => h)); clear hr2 hk2; (try simp only [PU]))
    | (go_at_call 101; go_must (refine (is101 HRb.out close _ Hcl.out).mono ?_; rw [Hi1.out]; rintro e w3 ⟨rfl, hr3, hk3⟩); have HRi := Lib.hid hr3; have HKi := Lib.hid (HKb.out.trans hk3 (fun _ _ h => h)); clear hr3 hk3; (try simp only [PU]))
   )
   go_loopg [] f (fun k wr => ∃ (x : σ) (s : Bs), 3 * s.length + 3 ≤ k ∧ size x + s.length ≤ B ∧ Hid (Rd wr r T s) ∧ Hid (Inv x wr) ∧ Hid (Keeps (MR r base) w wr) ∧ Hid (listF close step k x s = RR))
   case atStart => exact ⟨x0, s0, Hf1.out, by have := congrArg List.length Hbq1.out; omega, HRi, Lib.hid (Hinv.out _ _ _ Hx0.out HKi.out), Lib.hid (keepsMR HKi.out), HR1⟩
   case round =>
    obtain ⟨x, s, hk, hsB, Hr, Hin, HK, HE⟩ := hrel
    obtain ⟨f1, hf1⟩ : ∃ f1, gk = f1 + 1 := ⟨gk - 1, by omega⟩
    subst hf1
    have Hrun := Lib.hid (HP.out f1 x s wr (by omega) hsB Hr.out Hin.out HK.out)
    rcases hst : step f1 x s with n | ⟨x', r1⟩
    · have HR2 := Lib.hid (show RR = .error n by rw [← HE.out]; simp only [listF, hst])
      rw [hst] at Hrun
      clear hst
      go_wp2_with (first
       | (go_at_call 79; go_must (refine Hrun.out.mono ?_; rintro e w2 ⟨rfl, hk2⟩); have HKe := Lib.hid (HK.out.trans hk2 (fun _ _ h => h)); clear hk2; unfold stopAt; (try simp only [PU]))
      )
      exact ⟨rfl, by rw [HR2.out]; exact ⟨rfl, HKe.out⟩⟩
    · have HE2 := Lib.hid (show (match moreB close r1 with | .done r2 => .ok (x', r2) | .bad e => .error e | .more r2 => listF close step f1 x' r2) = RR by rw [← HE.out]; simp only [listF, hst])
      have hle := Hlen.out _ _ _ _ _ hst
      have hsx := Hsz.out _ _ _ _ _ hst
      rw [hst] at Hrun
      clear hst
      rcases hbq : blanksB r1 with _ | ⟨d, q'⟩
      · rw [moreB_nil hbq] at HE2
        have HR2 := Lib.hid (show RR = .error 0 from HE2.out.symm)
        have Hbq1 := Lib.hid hbq
        have Hi1 := Lib.hid (show isB close [] = (false, []) from rfl)
        have Hw1 := Lib.hid (show wordB [44] [] = .error 0 from rfl)
        clear hbq
        go_wp2_with (first
         | (go_at_call 79; go_must (refine Hrun.out.mono ?_; rintro e w2 ⟨⟨y2, rfl⟩, hr2, hi2, hk2⟩); have HRp := Lib.hid hr2; have HIp := Lib.hid hi2; have HKp := Lib.hid (HK.out.trans hk2 (fun _ _ h => h)); clear hr2 hi2 hk2; (try simp only [PU]))
         | (go_at_call 45; first | (have hz := HRw.out; go_must (refine (blanks45 hz).mono ?_; rintro e w7 ⟨⟨y7, rfl⟩, hr7, hk7⟩); have HRz := Lib.hid hr7; have HIz := Lib.hid (Hinv.out _ _ _ HIw.out hk7); have HKz := Lib.hid (HKw.out.trans (keepsMR hk7) (fun _ _ h => h)); clear hr7 hk7 hz; (try simp only [PU])) | (go_must (refine (blanks45 HRp.out).mono ?_; rintro e w3 ⟨⟨y3, rfl⟩, hr3, hk3⟩; rw [Hbq1.out] at hr3); have HRb := Lib.hid hr3; have HIb := Lib.hid (Hinv.out _ _ _ HIp.out hk3); have HKb := Lib.hid (HKp.out.trans (keepsMR hk3) (fun _ _ h => h)); clear hr3 hk3; (try simp only [PU])))
         | (go_at_call 101; go_must (refine (is101 HRb.out close _ Hcl.out).mono ?_; rw [Hi1.out]; rintro e w4 ⟨rfl, hr4, hk4⟩); have HRi := Lib.hid hr4; have HIi := Lib.hid (Hinv.out _ _ _ HIb.out hk4); have HKi := Lib.hid (HKb.out.trans (keepsMR hk4) (fun _ _ h => h)); clear hr4 hk4; (try simp only [PU]))
         | (go_at_call 74; go_must (have h74 := word74 HRi.out ⟨#[44]⟩ (by decide) (nz1 44 (by decide)); rw [show bl ⟨#[44]⟩ = [44] from rfl, Hw1.out] at h74; refine h74.mono ?_; rintro e w6 ⟨rfl, hk6⟩); have HKe := Lib.hid (HKi.out.trans (keepsMR hk6) (fun _ _ h => h)); clear hk6; unfold stopAt; (try simp only [PU]))
        )
        exact ⟨rfl, by rw [HR2.out]; exact ⟨rfl, HKe.out⟩⟩
      · rw [moreB_cons hbq] at HE2
        have hl2 := blanksB_le r1
        rw [hbq, List.length_cons] at hl2
        have Hbq1 := Lib.hid hbq
        clear hbq
        by_cases hdc : d = close
        · have HR2 := Lib.hid (show RR = .ok (x', q') by rw [← HE2.out]; simp only [if_pos hdc])
          have Hi1 := Lib.hid (show isB close (d :: q') = (true, q') by rw [hdc]; exact isB_at _ _)
          clear hdc
          go_wp2_with (first
           | (go_at_call 79; go_must (refine Hrun.out.mono ?_; rintro e w2 ⟨⟨y2, rfl⟩, hr2, hi2, hk2⟩); have HRp := Lib.hid hr2; have HIp := Lib.hid hi2; have HKp := Lib.hid (HK.out.trans hk2 (fun _ _ h => h)); clear hr2 hi2 hk2; (try simp only [PU]))
           | (go_at_call 45; first | (have hz := HRw.out; go_must (refine (blanks45 hz).mono ?_; rintro e w7 ⟨⟨y7, rfl⟩, hr7, hk7⟩); have HRz := Lib.hid hr7; have HIz := Lib.hid (Hinv.out _ _ _ HIw.out hk7); have HKz := Lib.hid (HKw.out.trans (keepsMR hk7) (fun _ _ h => h)); clear hr7 hk7 hz; (try simp only [PU])) | (go_must (refine (blanks45 HRp.out).mono ?_; rintro e w3 ⟨⟨y3, rfl⟩, hr3, hk3⟩; rw [Hbq1.out] at hr3); have HRb := Lib.hid hr3; have HIb := Lib.hid (Hinv.out _ _ _ HIp.out hk3); have HKb := Lib.hid (HKp.out.trans (keepsMR hk3) (fun _ _ h => h)); clear hr3 hk3; (try simp only [PU])))
           | (go_at_call 101; go_must (refine (is101 HRb.out close _ Hcl.out).mono ?_; rw [Hi1.out]; rintro e w4 ⟨rfl, hr4, hk4⟩); have HRi := Lib.hid hr4; have HIi := Lib.hid (Hinv.out _ _ _ HIb.out hk4); have HKi := Lib.hid (HKb.out.trans (keepsMR hk4) (fun _ _ h => h)); clear hr4 hk4; (try simp only [PU]))
          )
          go_end0
          rw [HR2.out]
          exact ⟨⟨_, rfl⟩, HRi.out, HIi.out, HKi.out⟩
        · have Hi1 := Lib.hid (isB_ne hdc q')
          by_cases h44 : d = 44
          · have HR2 := Lib.hid (show listF close step f1 x' (blanksB q') = RR by rw [← HE2.out]; simp only [if_neg hdc, if_pos h44])
            have Hw1 := Lib.hid (show wordB [44] (d :: q') = .ok q' by simp [wordB, h44])
            have hl3 := blanksB_le q'
            clear hdc h44
            go_wp2_with (first
             | (go_at_call 79; go_must (refine Hrun.out.mono ?_; rintro e w2 ⟨⟨y2, rfl⟩, hr2, hi2, hk2⟩); have HRp := Lib.hid hr2; have HIp := Lib.hid hi2; have HKp := Lib.hid (HK.out.trans hk2 (fun _ _ h => h)); clear hr2 hi2 hk2; (try simp only [PU]))
             | (go_at_call 45; first | (have hz := HRw.out; go_must (refine (blanks45 hz).mono ?_; rintro e w7 ⟨⟨y7, rfl⟩, hr7, hk7⟩); have HRz := Lib.hid hr7; have HIz := Lib.hid (Hinv.out _ _ _ HIw.out hk7); have HKz := Lib.hid (HKw.out.trans (keepsMR hk7) (fun _ _ h => h)); clear hr7 hk7 hz; (try simp only [PU])) | (go_must (refine (blanks45 HRp.out).mono ?_; rintro e w3 ⟨⟨y3, rfl⟩, hr3, hk3⟩; rw [Hbq1.out] at hr3); have HRb := Lib.hid hr3; have HIb := Lib.hid (Hinv.out _ _ _ HIp.out hk3); have HKb := Lib.hid (HKp.out.trans (keepsMR hk3) (fun _ _ h => h)); clear hr3 hk3; (try simp only [PU])))
             | (go_at_call 101; go_must (refine (is101 HRb.out close _ Hcl.out).mono ?_; rw [Hi1.out]; rintro e w4 ⟨rfl, hr4, hk4⟩); have HRi := Lib.hid hr4; have HIi := Lib.hid (Hinv.out _ _ _ HIb.out hk4); have HKi := Lib.hid (HKb.out.trans (keepsMR hk4) (fun _ _ h => h)); clear hr4 hk4; (try simp only [PU]))
             | (go_at_call 74; go_must (have h74 := word74 HRi.out ⟨#[44]⟩ (by decide) (nz1 44 (by decide)); rw [show bl ⟨#[44]⟩ = [44] from rfl, Hw1.out] at h74; refine h74.mono ?_; rintro e w6 ⟨⟨y6, rfl⟩, hr6, hk6⟩); have HRw := Lib.hid hr6; have HIw := Lib.hid (Hinv.out _ _ _ HIi.out hk6); have HKw := Lib.hid (HKi.out.trans (keepsMR hk6) (fun _ _ h => h)); clear hr6 hk6; (try simp only [PU]))
            )
            go_roundg f1
            case measure => omega
            case rel => exact ⟨x', blanksB q', by omega, by omega, HRz, HIz, HKz, HR2⟩
          · have HR2 := Lib.hid (show RR = .error (q'.length + 1) by rw [← HE2.out]; simp only [if_neg hdc, if_neg h44])
            have Hw1 := Lib.hid (show wordB [44] (d :: q') = .error (q'.length + 1) by simp [wordB, h44])
            clear hdc h44
            go_wp2_with (first
             | (go_at_call 79; go_must (refine Hrun.out.mono ?_; rintro e w2 ⟨⟨y2, rfl⟩, hr2, hi2, hk2⟩); have HRp := Lib.hid hr2; have HIp := Lib.hid hi2; have HKp := Lib.hid (HK.out.trans hk2 (fun _ _ h => h)); clear hr2 hi2 hk2; (try simp only [PU]))
             | (go_at_call 45; first | (have hz := HRw.out; go_must (refine (blanks45 hz).mono ?_; rintro e w7 ⟨⟨y7, rfl⟩, hr7, hk7⟩); have HRz := Lib.hid hr7; have HIz := Lib.hid (Hinv.out _ _ _ HIw.out hk7); have HKz := Lib.hid (HKw.out.trans (keepsMR hk7) (fun _ _ h => h)); clear hr7 hk7 hz; (try simp only [PU])) | (go_must (refine (blanks45 HRp.out).mono ?_; rintro e w3 ⟨⟨y3, rfl⟩, hr3, hk3⟩; rw [Hbq1.out] at hr3); have HRb := Lib.hid hr3; have HIb := Lib.hid (Hinv.out _ _ _ HIp.out hk3); have HKb := Lib.hid (HKp.out.trans (keepsMR hk3) (fun _ _ h => h)); clear hr3 hk3; (try simp only [PU])))
             | (go_at_call 101; go_must (refine (is101 HRb.out close _ Hcl.out).mono ?_; rw [Hi1.out]; rintro e w4 ⟨rfl, hr4, hk4⟩); have HRi := Lib.hid hr4; have HIi := Lib.hid (Hinv.out _ _ _ HIb.out hk4); have HKi := Lib.hid (HKb.out.trans (keepsMR hk4) (fun _ _ h => h)); clear hr4 hk4; (try simp only [PU]))
             | (go_at_call 74; go_must (have h74 := word74 HRi.out ⟨#[44]⟩ (by decide) (nz1 44 (by decide)); rw [show bl ⟨#[44]⟩ = [44] from rfl, Hw1.out] at h74; refine h74.mono ?_; rintro e w6 ⟨rfl, hk6⟩); have HKe := Lib.hid (HKi.out.trans (keepsMR hk6) (fun _ _ h => h)); clear hk6; unfold stopAt; (try simp only [PU]))
            )
            exact ⟨rfl, by rw [HR2.out]; exact ⟨rfl, HKe.out⟩⟩
 · rw [hbq] at Hf
   have Hbq := Lib.hid hbq
   clear hbq
   by_cases hdc : d = close
   · have HR2 := Lib.hid (show RR = .ok (x0, q') by rw [← HRR.out]; exact openL_at (by rw [← hdc]; exact Hbq.out))
     have Hi1 := Lib.hid (show isB close (d :: q') = (true, q') by rw [hdc]; exact isB_at _ _)
     have Hbq1 := Hbq
     clear hdc HRR
     go_enter Tryd.func78, Tryd.ntmps78
     go_wp2_with (first
      | ((with_reducible refine at_store (t := 3) rfl ?_); go_must (refine ev_store (cs' := #[.string T, .int .i64 ((a : Int) + 1)]) rfl rfl rfl rfl rfl rfl HI.out.1 HI.out.2 rfl Hb.out (Nat.le_of_ble_eq_true rfl) rfl ?_; intro w1 hb1 hk1); have HR1' := Lib.hid (Hnx.out w1 hb1); have HK1 := Lib.hid hk1; clear hb1 hk1 q1; (try simp only [PU]))
      | (go_at_call 45; go_must (refine (blanks45 HR1'.out).mono ?_; rintro e w2 ⟨⟨y, rfl⟩, hr2, hk2⟩; rw [Hbq1.out] at hr2); have HRb := Lib.hid hr2; have HKb := Lib.hid (HK1.out.trans hk2 (fun _ _ h => h)); clear hr2 hk2; (try simp only [PU]))
      | (go_at_call 101; go_must (refine (is101 HRb.out close _ Hcl.out).mono ?_; rw [Hi1.out]; rintro e w3 ⟨rfl, hr3, hk3⟩); have HRi := Lib.hid hr3; have HKi := Lib.hid (HKb.out.trans hk3 (fun _ _ h => h)); clear hr3 hk3; (try simp only [PU]))
     )
     go_end0
     rw [HR2.out]
     exact ⟨⟨_, rfl⟩, HRi.out, Hinv.out _ _ _ Hx0.out HKi.out, keepsMR HKi.out⟩
   · have HR1 := Lib.hid (show listF close step f x0 (d :: q') = RR by rw [← HRR.out]; exact (openL_ne Hbq.out hdc).symm)
     have Hi1 := Lib.hid (isB_ne hdc q')
     obtain ⟨s0, hs0⟩ : ∃ x : Bs, d :: q' = x := ⟨_, rfl⟩
     have Hbq1 := Lib.hid (Hbq.out.trans hs0)
     rw [hs0] at HR1 Hi1 Hf
     have Hf1 := Hf
     clear hdc HRR hs0 Hbq
     go_enter Tryd.func78, Tryd.ntmps78
     go_wp2_with (first
      | ((with_reducible refine at_store (t := 3) rfl ?_); go_must (refine ev_store (cs' := #[.string T, .int .i64 ((a : Int) + 1)]) rfl rfl rfl rfl rfl rfl HI.out.1 HI.out.2 rfl Hb.out (Nat.le_of_ble_eq_true rfl) rfl ?_; intro w1 hb1 hk1); have HR1' := Lib.hid (Hnx.out w1 hb1); have HK1 := Lib.hid hk1; clear hb1 hk1 q1; (try simp only [PU]))
      | (go_at_call 45; go_must (refine (blanks45 HR1'.out).mono ?_; rintro e w2 ⟨⟨y, rfl⟩, hr2, hk2⟩; rw [Hbq1.out] at hr2); have HRb := Lib.hid hr2; have HKb := Lib.hid (HK1.out.trans hk2 (fun _ _ h => h)); clear hr2 hk2; (try simp only [PU]))
      | (go_at_call 101; go_must (refine (is101 HRb.out close _ Hcl.out).mono ?_; rw [Hi1.out]; rintro e w3 ⟨rfl, hr3, hk3⟩); have HRi := Lib.hid hr3; have HKi := Lib.hid (HKb.out.trans hk3 (fun _ _ h => h)); clear hr3 hk3; (try simp only [PU]))
     )
     go_loopg [] f (fun k wr => ∃ (x : σ) (s : Bs), 3 * s.length + 3 ≤ k ∧ size x + s.length ≤ B ∧ Hid (Rd wr r T s) ∧ Hid (Inv x wr) ∧ Hid (Keeps (MR r base) w wr) ∧ Hid (listF close step k x s = RR))
     case atStart => exact ⟨x0, s0, Hf1.out, by have := congrArg List.length Hbq1.out; omega, HRi, Lib.hid (Hinv.out _ _ _ Hx0.out HKi.out), Lib.hid (keepsMR HKi.out), HR1⟩
     case round =>
      obtain ⟨x, s, hk, hsB, Hr, Hin, HK, HE⟩ := hrel
      obtain ⟨f1, hf1⟩ : ∃ f1, gk = f1 + 1 := ⟨gk - 1, by omega⟩
      subst hf1
      have Hrun := Lib.hid (HP.out f1 x s wr (by omega) hsB Hr.out Hin.out HK.out)
      rcases hst : step f1 x s with n | ⟨x', r1⟩
      · have HR2 := Lib.hid (show RR = .error n by rw [← HE.out]; simp only [listF, hst])
        rw [hst] at Hrun
        clear hst
        go_wp2_with (first
         | (go_at_call 79; go_must (refine Hrun.out.mono ?_; rintro e w2 ⟨rfl, hk2⟩); have HKe := Lib.hid (HK.out.trans hk2 (fun _ _ h => h)); clear hk2; unfold stopAt; (try simp only [PU]))
        )
        exact ⟨rfl, by rw [HR2.out]; exact ⟨rfl, HKe.out⟩⟩
      · have HE2 := Lib.hid (show (match moreB close r1 with | .done r2 => .ok (x', r2) | .bad e => .error e | .more r2 => listF close step f1 x' r2) = RR by rw [← HE.out]; simp only [listF, hst])
        have hle := Hlen.out _ _ _ _ _ hst
        have hsx := Hsz.out _ _ _ _ _ hst
        rw [hst] at Hrun
        clear hst
        rcases hbq : blanksB r1 with _ | ⟨d, q'⟩
        · rw [moreB_nil hbq] at HE2
          have HR2 := Lib.hid (show RR = .error 0 from HE2.out.symm)
          have Hbq1 := Lib.hid hbq
          have Hi1 := Lib.hid (show isB close [] = (false, []) from rfl)
          have Hw1 := Lib.hid (show wordB [44] [] = .error 0 from rfl)
          clear hbq
          go_wp2_with (first
           | (go_at_call 79; go_must (refine Hrun.out.mono ?_; rintro e w2 ⟨⟨y2, rfl⟩, hr2, hi2, hk2⟩); have HRp := Lib.hid hr2; have HIp := Lib.hid hi2; have HKp := Lib.hid (HK.out.trans hk2 (fun _ _ h => h)); clear hr2 hi2 hk2; (try simp only [PU]))
           | (go_at_call 45; first | (have hz := HRw.out; go_must (refine (blanks45 hz).mono ?_; rintro e w7 ⟨⟨y7, rfl⟩, hr7, hk7⟩); have HRz := Lib.hid hr7; have HIz := Lib.hid (Hinv.out _ _ _ HIw.out hk7); have HKz := Lib.hid (HKw.out.trans (keepsMR hk7) (fun _ _ h => h)); clear hr7 hk7 hz; (try simp only [PU])) | (go_must (refine (blanks45 HRp.out).mono ?_; rintro e w3 ⟨⟨y3, rfl⟩, hr3, hk3⟩; rw [Hbq1.out] at hr3); have HRb := Lib.hid hr3; have HIb := Lib.hid (Hinv.out _ _ _ HIp.out hk3); have HKb := Lib.hid (HKp.out.trans (keepsMR hk3) (fun _ _ h => h)); clear hr3 hk3; (try simp only [PU])))
           | (go_at_call 101; go_must (refine (is101 HRb.out close _ Hcl.out).mono ?_; rw [Hi1.out]; rintro e w4 ⟨rfl, hr4, hk4⟩); have HRi := Lib.hid hr4; have HIi := Lib.hid (Hinv.out _ _ _ HIb.out hk4); have HKi := Lib.hid (HKb.out.trans (keepsMR hk4) (fun _ _ h => h)); clear hr4 hk4; (try simp only [PU]))
           | (go_at_call 74; go_must (have h74 := word74 HRi.out ⟨#[44]⟩ (by decide) (nz1 44 (by decide)); rw [show bl ⟨#[44]⟩ = [44] from rfl, Hw1.out] at h74; refine h74.mono ?_; rintro e w6 ⟨rfl, hk6⟩); have HKe := Lib.hid (HKi.out.trans (keepsMR hk6) (fun _ _ h => h)); clear hk6; unfold stopAt; (try simp only [PU]))
          )
          exact ⟨rfl, by rw [HR2.out]; exact ⟨rfl, HKe.out⟩⟩
        · rw [moreB_cons hbq] at HE2
          have hl2 := blanksB_le r1
          rw [hbq, List.length_cons] at hl2
          have Hbq1 := Lib.hid hbq
          clear hbq
          by_cases hdc : d = close
          · have HR2 := Lib.hid (show RR = .ok (x', q') by rw [← HE2.out]; simp only [if_pos hdc])
            have Hi1 := Lib.hid (show isB close (d :: q') = (true, q') by rw [hdc]; exact isB_at _ _)
            clear hdc
            go_wp2_with (first
             | (go_at_call 79; go_must (refine Hrun.out.mono ?_; rintro e w2 ⟨⟨y2, rfl⟩, hr2, hi2, hk2⟩); have HRp := Lib.hid hr2; have HIp := Lib.hid hi2; have HKp := Lib.hid (HK.out.trans hk2 (fun _ _ h => h)); clear hr2 hi2 hk2; (try simp only [PU]))
             | (go_at_call 45; first | (have hz := HRw.out; go_must (refine (blanks45 hz).mono ?_; rintro e w7 ⟨⟨y7, rfl⟩, hr7, hk7⟩); have HRz := Lib.hid hr7; have HIz := Lib.hid (Hinv.out _ _ _ HIw.out hk7); have HKz := Lib.hid (HKw.out.trans (keepsMR hk7) (fun _ _ h => h)); clear hr7 hk7 hz; (try simp only [PU])) | (go_must (refine (blanks45 HRp.out).mono ?_; rintro e w3 ⟨⟨y3, rfl⟩, hr3, hk3⟩; rw [Hbq1.out] at hr3); have HRb := Lib.hid hr3; have HIb := Lib.hid (Hinv.out _ _ _ HIp.out hk3); have HKb := Lib.hid (HKp.out.trans (keepsMR hk3) (fun _ _ h => h)); clear hr3 hk3; (try simp only [PU])))
             | (go_at_call 101; go_must (refine (is101 HRb.out close _ Hcl.out).mono ?_; rw [Hi1.out]; rintro e w4 ⟨rfl, hr4, hk4⟩); have HRi := Lib.hid hr4; have HIi := Lib.hid (Hinv.out _ _ _ HIb.out hk4); have HKi := Lib.hid (HKb.out.trans (keepsMR hk4) (fun _ _ h => h)); clear hr4 hk4; (try simp only [PU]))
            )
            go_end0
            rw [HR2.out]
            exact ⟨⟨_, rfl⟩, HRi.out, HIi.out, HKi.out⟩
          · have Hi1 := Lib.hid (isB_ne hdc q')
            by_cases h44 : d = 44
            · have HR2 := Lib.hid (show listF close step f1 x' (blanksB q') = RR by rw [← HE2.out]; simp only [if_neg hdc, if_pos h44])
              have Hw1 := Lib.hid (show wordB [44] (d :: q') = .ok q' by simp [wordB, h44])
              have hl3 := blanksB_le q'
              clear hdc h44
              go_wp2_with (first
               | (go_at_call 79; go_must (refine Hrun.out.mono ?_; rintro e w2 ⟨⟨y2, rfl⟩, hr2, hi2, hk2⟩); have HRp := Lib.hid hr2; have HIp := Lib.hid hi2; have HKp := Lib.hid (HK.out.trans hk2 (fun _ _ h => h)); clear hr2 hi2 hk2; (try simp only [PU]))
               | (go_at_call 45; first | (have hz := HRw.out; go_must (refine (blanks45 hz).mono ?_; rintro e w7 ⟨⟨y7, rfl⟩, hr7, hk7⟩); have HRz := Lib.hid hr7; have HIz := Lib.hid (Hinv.out _ _ _ HIw.out hk7); have HKz := Lib.hid (HKw.out.trans (keepsMR hk7) (fun _ _ h => h)); clear hr7 hk7 hz; (try simp only [PU])) | (go_must (refine (blanks45 HRp.out).mono ?_; rintro e w3 ⟨⟨y3, rfl⟩, hr3, hk3⟩; rw [Hbq1.out] at hr3); have HRb := Lib.hid hr3; have HIb := Lib.hid (Hinv.out _ _ _ HIp.out hk3); have HKb := Lib.hid (HKp.out.trans (keepsMR hk3) (fun _ _ h => h)); clear hr3 hk3; (try simp only [PU])))
               | (go_at_call 101; go_must (refine (is101 HRb.out close _ Hcl.out).mono ?_; rw [Hi1.out]; rintro e w4 ⟨rfl, hr4, hk4⟩); have HRi := Lib.hid hr4; have HIi := Lib.hid (Hinv.out _ _ _ HIb.out hk4); have HKi := Lib.hid (HKb.out.trans (keepsMR hk4) (fun _ _ h => h)); clear hr4 hk4; (try simp only [PU]))
               | (go_at_call 74; go_must (have h74 := word74 HRi.out ⟨#[44]⟩ (by decide) (nz1 44 (by decide)); rw [show bl ⟨#[44]⟩ = [44] from rfl, Hw1.out] at h74; refine h74.mono ?_; rintro e w6 ⟨⟨y6, rfl⟩, hr6, hk6⟩); have HRw := Lib.hid hr6; have HIw := Lib.hid (Hinv.out _ _ _ HIi.out hk6); have HKw := Lib.hid (HKi.out.trans (keepsMR hk6) (fun _ _ h => h)); clear hr6 hk6; (try simp only [PU]))
              )
              go_roundg f1
              case measure => omega
              case rel => exact ⟨x', blanksB q', by omega, by omega, HRz, HIz, HKz, HR2⟩
            · have HR2 := Lib.hid (show RR = .error (q'.length + 1) by rw [← HE2.out]; simp only [if_neg hdc, if_neg h44])
              have Hw1 := Lib.hid (show wordB [44] (d :: q') = .error (q'.length + 1) by simp [wordB, h44])
              clear hdc h44
              go_wp2_with (first
               | (go_at_call 79; go_must (refine Hrun.out.mono ?_; rintro e w2 ⟨⟨y2, rfl⟩, hr2, hi2, hk2⟩); have HRp := Lib.hid hr2; have HIp := Lib.hid hi2; have HKp := Lib.hid (HK.out.trans hk2 (fun _ _ h => h)); clear hr2 hi2 hk2; (try simp only [PU]))
               | (go_at_call 45; first | (have hz := HRw.out; go_must (refine (blanks45 hz).mono ?_; rintro e w7 ⟨⟨y7, rfl⟩, hr7, hk7⟩); have HRz := Lib.hid hr7; have HIz := Lib.hid (Hinv.out _ _ _ HIw.out hk7); have HKz := Lib.hid (HKw.out.trans (keepsMR hk7) (fun _ _ h => h)); clear hr7 hk7 hz; (try simp only [PU])) | (go_must (refine (blanks45 HRp.out).mono ?_; rintro e w3 ⟨⟨y3, rfl⟩, hr3, hk3⟩; rw [Hbq1.out] at hr3); have HRb := Lib.hid hr3; have HIb := Lib.hid (Hinv.out _ _ _ HIp.out hk3); have HKb := Lib.hid (HKp.out.trans (keepsMR hk3) (fun _ _ h => h)); clear hr3 hk3; (try simp only [PU])))
               | (go_at_call 101; go_must (refine (is101 HRb.out close _ Hcl.out).mono ?_; rw [Hi1.out]; rintro e w4 ⟨rfl, hr4, hk4⟩); have HRi := Lib.hid hr4; have HIi := Lib.hid (Hinv.out _ _ _ HIb.out hk4); have HKi := Lib.hid (HKb.out.trans (keepsMR hk4) (fun _ _ h => h)); clear hr4 hk4; (try simp only [PU]))
               | (go_at_call 74; go_must (have h74 := word74 HRi.out ⟨#[44]⟩ (by decide) (nz1 44 (by decide)); rw [show bl ⟨#[44]⟩ = [44] from rfl, Hw1.out] at h74; refine h74.mono ?_; rintro e w6 ⟨rfl, hk6⟩); have HKe := Lib.hid (HKi.out.trans (keepsMR hk6) (fun _ _ h => h)); clear hk6; unfold stopAt; (try simp only [PU]))
              )
              exact ⟨rfl, by rw [HR2.out]; exact ⟨rfl, HKe.out⟩⟩
set_option maxHeartbeats 4000000 in
theorem list78k {σ : Type} {w : World} {r : Nat} {T : ByteArray} {c0 : UInt8} {q : Bs} (h : Rd w r T (c0 :: q)) (base : Nat) (hrb : r < base ∧ base ≤ w.heap.size) (close : UInt8) (p1 p2 p3 p4 : Nat) (step : Nat → σ → Bs → R σ) (Inv : σ → World → Prop)
  (hinv : ∀ x W W', Inv x W → Keeps (· = r) W W' → Inv x W') (hlen : ∀ f x s x' s', step f x s = .ok (x', s') → s'.length ≤ s.length) (size : σ → Nat) (B : Nat) (hsz : ∀ f x s x' s', step f x s = .ok (x', s') → size x' + s'.length ≤ size x + s.length)
  (hp : ∀ f x s W, 3 * s.length + 2 ≤ f → size x + s.length ≤ B → Rd W r T s → Inv x W → Keeps (MR r base) w W → Calls Tryd.prog 103 #[.pointer (some ⟨p1, 0, none⟩), .pointer (some ⟨p2, 0, none⟩), .pointer (some ⟨p3, 0, none⟩), .pointer (some ⟨p4, 0, none⟩)] W (PartOut W r T base Inv (step f x s)))
  (f : Nat) (hf : 3 * (blanksB q).length + 3 ≤ f) (x0 : σ) (hx0 : Inv x0 w) (hB0 : size x0 + q.length ≤ B) :
  Calls Tryd.prog 78 #[.pointer (some ⟨r, 0, none⟩), .int .u8 (close.toNat : Int), .func (.func 103) #[] #[.pointer (some ⟨p1, 0, none⟩), .pointer (some ⟨p2, 0, none⟩), .pointer (some ⟨p3, 0, none⟩), .pointer (some ⟨p4, 0, none⟩)]] w
   (PartOut w r T base Inv (openL close step f x0 q)) := by
 skip
 obtain ⟨i3, hi3, hs3⟩ := infoS3
 have HI := Lib.hid (And.intro hi3 hs3)
 have HP := Lib.hid hp
 have Hinv := Lib.hid hinv
 have Hlen := Lib.hid hlen
 have Hsz := Lib.hid hsz
 have hqb := blanksB_le q
 have Hx0 := Lib.hid hx0
 have Hrb := Lib.hid hrb
 obtain ⟨a, ha, ⟨hb, -⟩, hT, hal, hnx⟩ := h.cons
 have Hb := Lib.hid hb
 have Hnx := Lib.hid hnx
 have q1 := (blk_cell hb 1).trans rfl
 obtain ⟨cl, hcl⟩ : ∃ x : Int, (close.toNat : Int) = x := ⟨_, rfl⟩
 rw [hcl]
 have Hcl := Lib.hid hcl.symm
 obtain ⟨RR, hRR⟩ : ∃ x, openL close step f x0 q = x := ⟨_, rfl⟩
 rw [hRR]
 have HRR := Lib.hid hRR
 have Hf := Lib.hid hf
 clear hp hinv hlen hsz hx0 hrb hb hnx hcl hRR hi3 hs3 hf
 rcases hbq : blanksB q with _ | ⟨d, q'⟩
 · rw [hbq] at Hf
   have HR0 := Lib.hid (show listF close step f x0 [] = RR by rw [← openL_nil hbq]; exact HRR.out)
   have hi0 : isB close [] = (false, []) := rfl
   have Hi0 := Lib.hid hi0
   have Hbq := Lib.hid hbq
   clear hi0 hbq HRR
   obtain ⟨s0, hs0⟩ : ∃ x : Bs, [] = x := ⟨_, rfl⟩
   have Hi1 := Lib.hid (show isB close s0 = (false, s0) by rw [← hs0]; exact Hi0.out)
   have Hbq1 := Lib.hid (show blanksB q = s0 by rw [← hs0]; exact Hbq.out)
   have HR1 := Lib.hid (show listF close step f x0 s0 = RR by rw [← hs0]; exact HR0.out)
   have Hf1 := Lib.hid (show 3 * s0.length + 3 ≤ f by rw [← hs0]; exact Hf.out)
   clear hs0
   go_enter Tryd.func78, Tryd.ntmps78
   go_wp2_with (first
    | ((with_reducible refine at_store (t := 3) rfl ?_); go_must (refine ev_store (cs' := #[.string T, .int .i64 ((a : Int) + 1)]) rfl rfl rfl rfl rfl rfl HI.out.1 HI.out.2 rfl Hb.out (Nat.le_of_ble_eq_true rfl) rfl ?_; intro w1 hb1 hk1); have HR1' := Lib.hid (Hnx.out w1 hb1); have HK1 := Lib.hid hk1; clear hb1 hk1 q1; (try simp only [PU]))
    | (go_at_call 45; go_must (refine (blanks45 HR1'.out).mono ?_; rintro e w2 ⟨⟨y, rfl⟩, hr2, hk2⟩; rw [Hbq1.out] at hr2); have HRb := Lib.hid hr2; have HKb := Lib.hid (HK1.out.trans hk2 (fun _ _ h => h)); clear hr2 hk2; (try simp only [PU]))
    | (go_at_call 101; go_must (refine (is101 HRb.out close _ Hcl.out).mono ?_; rw [Hi1.out]; rintro e w3 ⟨rfl, hr3, hk3⟩); have HRi := Lib.hid hr3; have HKi := Lib.hid (HKb.out.trans hk3 (fun _ _ h => h)); clear hr3 hk3; (try simp only [PU]))
   )
   go_loopg [] f (fun k wr => ∃ (x : σ) (s : Bs), 3 * s.length + 3 ≤ k ∧ size x + s.length ≤ B ∧ Hid (Rd wr r T s) ∧ Hid (Inv x wr) ∧ Hid (Keeps (MR r base) w wr) ∧ Hid (listF close step k x s = RR))
   case atStart => exact ⟨x0, s0, Hf1.out, by have := congrArg List.length Hbq1.out; omega, HRi, Lib.hid (Hinv.out _ _ _ Hx0.out HKi.out), Lib.hid (keepsMR HKi.out), HR1⟩
   case round =>
    obtain ⟨x, s, hk, hsB, Hr, Hin, HK, HE⟩ := hrel
    obtain ⟨f1, hf1⟩ : ∃ f1, gk = f1 + 1 := ⟨gk - 1, by omega⟩
    subst hf1
    have Hrun := Lib.hid (HP.out f1 x s wr (by omega) hsB Hr.out Hin.out HK.out)
    rcases hst : step f1 x s with n | ⟨x', r1⟩
    · have HR2 := Lib.hid (show RR = .error n by rw [← HE.out]; simp only [listF, hst])
      rw [hst] at Hrun
      clear hst
      go_wp2_with (first
       | (go_at_call 103; go_must (refine Hrun.out.mono ?_; rintro e w2 ⟨rfl, hk2⟩); have HKe := Lib.hid (HK.out.trans hk2 (fun _ _ h => h)); clear hk2; unfold stopAt; (try simp only [PU]))
      )
      exact ⟨rfl, by rw [HR2.out]; exact ⟨rfl, HKe.out⟩⟩
    · have HE2 := Lib.hid (show (match moreB close r1 with | .done r2 => .ok (x', r2) | .bad e => .error e | .more r2 => listF close step f1 x' r2) = RR by rw [← HE.out]; simp only [listF, hst])
      have hle := Hlen.out _ _ _ _ _ hst
      have hsx := Hsz.out _ _ _ _ _ hst
      rw [hst] at Hrun
      clear hst
      rcases hbq : blanksB r1 with _ | ⟨d, q'⟩
      · rw [moreB_nil hbq] at HE2
        have HR2 := Lib.hid (show RR = .error 0 from HE2.out.symm)
        have Hbq1 := Lib.hid hbq
        have Hi1 := Lib.hid (show isB close [] = (false, []) from rfl)
        have Hw1 := Lib.hid (show wordB [44] [] = .error 0 from rfl)
        clear hbq
        go_wp2_with (first
         | (go_at_call 103; go_must (refine Hrun.out.mono ?_; rintro e w2 ⟨⟨y2, rfl⟩, hr2, hi2, hk2⟩); have HRp := Lib.hid hr2; have HIp := Lib.hid hi2; have HKp := Lib.hid (HK.out.trans hk2 (fun _ _ h => h)); clear hr2 hi2 hk2; (try simp only [PU]))
         | (go_at_call 45; first | (have hz := HRw.out; go_must (refine (blanks45 hz).mono ?_; rintro e w7 ⟨⟨y7, rfl⟩, hr7, hk7⟩); have HRz := Lib.hid hr7; have HIz := Lib.hid (Hinv.out _ _ _ HIw.out hk7); have HKz := Lib.hid (HKw.out.trans (keepsMR hk7) (fun _ _ h => h)); clear hr7 hk7 hz; (try simp only [PU])) | (go_must (refine (blanks45 HRp.out).mono ?_; rintro e w3 ⟨⟨y3, rfl⟩, hr3, hk3⟩; rw [Hbq1.out] at hr3); have HRb := Lib.hid hr3; have HIb := Lib.hid (Hinv.out _ _ _ HIp.out hk3); have HKb := Lib.hid (HKp.out.trans (keepsMR hk3) (fun _ _ h => h)); clear hr3 hk3; (try simp only [PU])))
         | (go_at_call 101; go_must (refine (is101 HRb.out close _ Hcl.out).mono ?_; rw [Hi1.out]; rintro e w4 ⟨rfl, hr4, hk4⟩); have HRi := Lib.hid hr4; have HIi := Lib.hid (Hinv.out _ _ _ HIb.out hk4); have HKi := Lib.hid (HKb.out.trans (keepsMR hk4) (fun _ _ h => h)); clear hr4 hk4; (try simp only [PU]))
         | (go_at_call 74; go_must (have h74 := word74 HRi.out ⟨#[44]⟩ (by decide) (nz1 44 (by decide)); rw [show bl ⟨#[44]⟩ = [44] from rfl, Hw1.out] at h74; refine h74.mono ?_; rintro e w6 ⟨rfl, hk6⟩); have HKe := Lib.hid (HKi.out.trans (keepsMR hk6) (fun _ _ h => h)); clear hk6; unfold stopAt; (try simp only [PU]))
        )
        exact ⟨rfl, by rw [HR2.out]; exact ⟨rfl, HKe.out⟩⟩
      · rw [moreB_cons hbq] at HE2
        have hl2 := blanksB_le r1
        rw [hbq, List.length_cons] at hl2
        have Hbq1 := Lib.hid hbq
        clear hbq
        by_cases hdc : d = close
        · have HR2 := Lib.hid (show RR = .ok (x', q') by rw [← HE2.out]; simp only [if_pos hdc])
          have Hi1 := Lib.hid (show isB close (d :: q') = (true, q') by rw [hdc]; exact isB_at _ _)
          clear hdc
          go_wp2_with (first
           | (go_at_call 103; go_must (refine Hrun.out.mono ?_; rintro e w2 ⟨⟨y2, rfl⟩, hr2, hi2, hk2⟩); have HRp := Lib.hid hr2; have HIp := Lib.hid hi2; have HKp := Lib.hid (HK.out.trans hk2 (fun _ _ h => h)); clear hr2 hi2 hk2; (try simp only [PU]))
           | (go_at_call 45; first | (have hz := HRw.out; go_must (refine (blanks45 hz).mono ?_; rintro e w7 ⟨⟨y7, rfl⟩, hr7, hk7⟩); have HRz := Lib.hid hr7; have HIz := Lib.hid (Hinv.out _ _ _ HIw.out hk7); have HKz := Lib.hid (HKw.out.trans (keepsMR hk7) (fun _ _ h => h)); clear hr7 hk7 hz; (try simp only [PU])) | (go_must (refine (blanks45 HRp.out).mono ?_; rintro e w3 ⟨⟨y3, rfl⟩, hr3, hk3⟩; rw [Hbq1.out] at hr3); have HRb := Lib.hid hr3; have HIb := Lib.hid (Hinv.out _ _ _ HIp.out hk3); have HKb := Lib.hid (HKp.out.trans (keepsMR hk3) (fun _ _ h => h)); clear hr3 hk3; (try simp only [PU])))
           | (go_at_call 101; go_must (refine (is101 HRb.out close _ Hcl.out).mono ?_; rw [Hi1.out]; rintro e w4 ⟨rfl, hr4, hk4⟩); have HRi := Lib.hid hr4; have HIi := Lib.hid (Hinv.out _ _ _ HIb.out hk4); have HKi := Lib.hid (HKb.out.trans (keepsMR hk4) (fun _ _ h => h)); clear hr4 hk4; (try simp only [PU]))
          )
          go_end0
          rw [HR2.out]
          exact ⟨⟨_, rfl⟩, HRi.out, HIi.out, HKi.out⟩
        · have Hi1 := Lib.hid (isB_ne hdc q')
          by_cases h44 : d = 44
          · have HR2 := Lib.hid (show listF close step f1 x' (blanksB q') = RR by rw [← HE2.out]; simp only [if_neg hdc, if_pos h44])
            have Hw1 := Lib.hid (show wordB [44] (d :: q') = .ok q' by simp [wordB, h44])
            have hl3 := blanksB_le q'
            clear hdc h44
            go_wp2_with (first
             | (go_at_call 103; go_must (refine Hrun.out.mono ?_; rintro e w2 ⟨⟨y2, rfl⟩, hr2, hi2, hk2⟩); have HRp := Lib.hid hr2; have HIp := Lib.hid hi2; have HKp := Lib.hid (HK.out.trans hk2 (fun _ _ h => h)); clear hr2 hi2 hk2; (try simp only [PU]))
             | (go_at_call 45; first | (have hz := HRw.out; go_must (refine (blanks45 hz).mono ?_; rintro e w7 ⟨⟨y7, rfl⟩, hr7, hk7⟩); have HRz := Lib.hid hr7; have HIz := Lib.hid (Hinv.out _ _ _ HIw.out hk7); have HKz := Lib.hid (HKw.out.trans (keepsMR hk7) (fun _ _ h => h)); clear hr7 hk7 hz; (try simp only [PU])) | (go_must (refine (blanks45 HRp.out).mono ?_; rintro e w3 ⟨⟨y3, rfl⟩, hr3, hk3⟩; rw [Hbq1.out] at hr3); have HRb := Lib.hid hr3; have HIb := Lib.hid (Hinv.out _ _ _ HIp.out hk3); have HKb := Lib.hid (HKp.out.trans (keepsMR hk3) (fun _ _ h => h)); clear hr3 hk3; (try simp only [PU])))
             | (go_at_call 101; go_must (refine (is101 HRb.out close _ Hcl.out).mono ?_; rw [Hi1.out]; rintro e w4 ⟨rfl, hr4, hk4⟩); have HRi := Lib.hid hr4; have HIi := Lib.hid (Hinv.out _ _ _ HIb.out hk4); have HKi := Lib.hid (HKb.out.trans (keepsMR hk4) (fun _ _ h => h)); clear hr4 hk4; (try simp only [PU]))
             | (go_at_call 74; go_must (have h74 := word74 HRi.out ⟨#[44]⟩ (by decide) (nz1 44 (by decide)); rw [show bl ⟨#[44]⟩ = [44] from rfl, Hw1.out] at h74; refine h74.mono ?_; rintro e w6 ⟨⟨y6, rfl⟩, hr6, hk6⟩); have HRw := Lib.hid hr6; have HIw := Lib.hid (Hinv.out _ _ _ HIi.out hk6); have HKw := Lib.hid (HKi.out.trans (keepsMR hk6) (fun _ _ h => h)); clear hr6 hk6; (try simp only [PU]))
            )
            go_roundg f1
            case measure => omega
            case rel => exact ⟨x', blanksB q', by omega, by omega, HRz, HIz, HKz, HR2⟩
          · have HR2 := Lib.hid (show RR = .error (q'.length + 1) by rw [← HE2.out]; simp only [if_neg hdc, if_neg h44])
            have Hw1 := Lib.hid (show wordB [44] (d :: q') = .error (q'.length + 1) by simp [wordB, h44])
            clear hdc h44
            go_wp2_with (first
             | (go_at_call 103; go_must (refine Hrun.out.mono ?_; rintro e w2 ⟨⟨y2, rfl⟩, hr2, hi2, hk2⟩); have HRp := Lib.hid hr2; have HIp := Lib.hid hi2; have HKp := Lib.hid (HK.out.trans hk2 (fun _ _ h => h)); clear hr2 hi2 hk2; (try simp only [PU]))
             | (go_at_call 45; first | (have hz := HRw.out; go_must (refine (blanks45 hz).mono ?_; rintro e w7 ⟨⟨y7, rfl⟩, hr7, hk7⟩); have HRz := Lib.hid hr7; have HIz := Lib.hid (Hinv.out _ _ _ HIw.out hk7); have HKz := Lib.hid (HKw.out.trans (keepsMR hk7) (fun _ _ h => h)); clear hr7 hk7 hz; (try simp only [PU])) | (go_must (refine (blanks45 HRp.out).mono ?_; rintro e w3 ⟨⟨y3, rfl⟩, hr3, hk3⟩; rw [Hbq1.out] at hr3); have HRb := Lib.hid hr3; have HIb := Lib.hid (Hinv.out _ _ _ HIp.out hk3); have HKb := Lib.hid (HKp.out.trans (keepsMR hk3) (fun _ _ h => h)); clear hr3 hk3; (try simp only [PU])))
             | (go_at_call 101; go_must (refine (is101 HRb.out close _ Hcl.out).mono ?_; rw [Hi1.out]; rintro e w4 ⟨rfl, hr4, hk4⟩); have HRi := Lib.hid hr4; have HIi := Lib.hid (Hinv.out _ _ _ HIb.out hk4); have HKi := Lib.hid (HKb.out.trans (keepsMR hk4) (fun _ _ h => h)); clear hr4 hk4; (try simp only [PU]))
             | (go_at_call 74; go_must (have h74 := word74 HRi.out ⟨#[44]⟩ (by decide) (nz1 44 (by decide)); rw [show bl ⟨#[44]⟩ = [44] from rfl, Hw1.out] at h74; refine h74.mono ?_; rintro e w6 ⟨rfl, hk6⟩); have HKe := Lib.hid (HKi.out.trans (keepsMR hk6) (fun _ _ h => h)); clear hk6; unfold stopAt; (try simp only [PU]))
            )
            exact ⟨rfl, by rw [HR2.out]; exact ⟨rfl, HKe.out⟩⟩
 · rw [hbq] at Hf
   have Hbq := Lib.hid hbq
   clear hbq
   by_cases hdc : d = close
   · have HR2 := Lib.hid (show RR = .ok (x0, q') by rw [← HRR.out]; exact openL_at (by rw [← hdc]; exact Hbq.out))
     have Hi1 := Lib.hid (show isB close (d :: q') = (true, q') by rw [hdc]; exact isB_at _ _)
     have Hbq1 := Hbq
     clear hdc HRR
     go_enter Tryd.func78, Tryd.ntmps78
     go_wp2_with (first
      | ((with_reducible refine at_store (t := 3) rfl ?_); go_must (refine ev_store (cs' := #[.string T, .int .i64 ((a : Int) + 1)]) rfl rfl rfl rfl rfl rfl HI.out.1 HI.out.2 rfl Hb.out (Nat.le_of_ble_eq_true rfl) rfl ?_; intro w1 hb1 hk1); have HR1' := Lib.hid (Hnx.out w1 hb1); have HK1 := Lib.hid hk1; clear hb1 hk1 q1; (try simp only [PU]))
      | (go_at_call 45; go_must (refine (blanks45 HR1'.out).mono ?_; rintro e w2 ⟨⟨y, rfl⟩, hr2, hk2⟩; rw [Hbq1.out] at hr2); have HRb := Lib.hid hr2; have HKb := Lib.hid (HK1.out.trans hk2 (fun _ _ h => h)); clear hr2 hk2; (try simp only [PU]))
      | (go_at_call 101; go_must (refine (is101 HRb.out close _ Hcl.out).mono ?_; rw [Hi1.out]; rintro e w3 ⟨rfl, hr3, hk3⟩); have HRi := Lib.hid hr3; have HKi := Lib.hid (HKb.out.trans hk3 (fun _ _ h => h)); clear hr3 hk3; (try simp only [PU]))
     )
     go_end0
     rw [HR2.out]
     exact ⟨⟨_, rfl⟩, HRi.out, Hinv.out _ _ _ Hx0.out HKi.out, keepsMR HKi.out⟩
   · have HR1 := Lib.hid (show listF close step f x0 (d :: q') = RR by rw [← HRR.out]; exact (openL_ne Hbq.out hdc).symm)
     have Hi1 := Lib.hid (isB_ne hdc q')
     obtain ⟨s0, hs0⟩ : ∃ x : Bs, d :: q' = x := ⟨_, rfl⟩
     have Hbq1 := Lib.hid (Hbq.out.trans hs0)
     rw [hs0] at HR1 Hi1 Hf
     have Hf1 := Hf
     clear hdc HRR hs0 Hbq
     go_enter Tryd.func78, Tryd.ntmps78
     go_wp2_with (first
      | ((with_reducible refine at_store (t := 3) rfl ?_); go_must (refine ev_store (cs' := #[.string T, .int .i64 ((a : Int) + 1)]) rfl rfl rfl rfl rfl rfl HI.out.1 HI.out.2 rfl Hb.out (Nat.le_of_ble_eq_true rfl) rfl ?_; intro w1 hb1 hk1); have HR1' := Lib.hid (Hnx.out w1 hb1); have HK1 := Lib.hid hk1; clear hb1 hk1 q1; (try simp only [PU]))
      | (go_at_call 45; go_must (refine (blanks45 HR1'.out).mono ?_; rintro e w2 ⟨⟨y, rfl⟩, hr2, hk2⟩; rw [Hbq1.out] at hr2); have HRb := Lib.hid hr2; have HKb := Lib.hid (HK1.out.trans hk2 (fun _ _ h => h)); clear hr2 hk2; (try simp only [PU]))
      | (go_at_call 101; go_must (refine (is101 HRb.out close _ Hcl.out).mono ?_; rw [Hi1.out]; rintro e w3 ⟨rfl, hr3, hk3⟩); have HRi := Lib.hid hr3; have HKi := Lib.hid (HKb.out.trans hk3 (fun _ _ h => h)); clear hr3 hk3; (try simp only [PU]))
     )
     go_loopg [] f (fun k wr => ∃ (x : σ) (s : Bs), 3 * s.length + 3 ≤ k ∧ size x + s.length ≤ B ∧ Hid (Rd wr r T s) ∧ Hid (Inv x wr) ∧ Hid (Keeps (MR r base) w wr) ∧ Hid (listF close step k x s = RR))
     case atStart => exact ⟨x0, s0, Hf1.out, by have := congrArg List.length Hbq1.out; omega, HRi, Lib.hid (Hinv.out _ _ _ Hx0.out HKi.out), Lib.hid (keepsMR HKi.out), HR1⟩
     case round =>
      obtain ⟨x, s, hk, hsB, Hr, Hin, HK, HE⟩ := hrel
      obtain ⟨f1, hf1⟩ : ∃ f1, gk = f1 + 1 := ⟨gk - 1, by omega⟩
      subst hf1
      have Hrun := Lib.hid (HP.out f1 x s wr (by omega) hsB Hr.out Hin.out HK.out)
      rcases hst : step f1 x s with n | ⟨x', r1⟩
      · have HR2 := Lib.hid (show RR = .error n by rw [← HE.out]; simp only [listF, hst])
        rw [hst] at Hrun
        clear hst
        go_wp2_with (first
         | (go_at_call 103; go_must (refine Hrun.out.mono ?_; rintro e w2 ⟨rfl, hk2⟩); have HKe := Lib.hid (HK.out.trans hk2 (fun _ _ h => h)); clear hk2; unfold stopAt; (try simp only [PU]))
        )
        exact ⟨rfl, by rw [HR2.out]; exact ⟨rfl, HKe.out⟩⟩
      · have HE2 := Lib.hid (show (match moreB close r1 with | .done r2 => .ok (x', r2) | .bad e => .error e | .more r2 => listF close step f1 x' r2) = RR by rw [← HE.out]; simp only [listF, hst])
        have hle := Hlen.out _ _ _ _ _ hst
        have hsx := Hsz.out _ _ _ _ _ hst
        rw [hst] at Hrun
        clear hst
        rcases hbq : blanksB r1 with _ | ⟨d, q'⟩
        · rw [moreB_nil hbq] at HE2
          have HR2 := Lib.hid (show RR = .error 0 from HE2.out.symm)
          have Hbq1 := Lib.hid hbq
          have Hi1 := Lib.hid (show isB close [] = (false, []) from rfl)
          have Hw1 := Lib.hid (show wordB [44] [] = .error 0 from rfl)
          clear hbq
          go_wp2_with (first
           | (go_at_call 103; go_must (refine Hrun.out.mono ?_; rintro e w2 ⟨⟨y2, rfl⟩, hr2, hi2, hk2⟩); have HRp := Lib.hid hr2; have HIp := Lib.hid hi2; have HKp := Lib.hid (HK.out.trans hk2 (fun _ _ h => h)); clear hr2 hi2 hk2; (try simp only [PU]))
           | (go_at_call 45; first | (have hz := HRw.out; go_must (refine (blanks45 hz).mono ?_; rintro e w7 ⟨⟨y7, rfl⟩, hr7, hk7⟩); have HRz := Lib.hid hr7; have HIz := Lib.hid (Hinv.out _ _ _ HIw.out hk7); have HKz := Lib.hid (HKw.out.trans (keepsMR hk7) (fun _ _ h => h)); clear hr7 hk7 hz; (try simp only [PU])) | (go_must (refine (blanks45 HRp.out).mono ?_; rintro e w3 ⟨⟨y3, rfl⟩, hr3, hk3⟩; rw [Hbq1.out] at hr3); have HRb := Lib.hid hr3; have HIb := Lib.hid (Hinv.out _ _ _ HIp.out hk3); have HKb := Lib.hid (HKp.out.trans (keepsMR hk3) (fun _ _ h => h)); clear hr3 hk3; (try simp only [PU])))
           | (go_at_call 101; go_must (refine (is101 HRb.out close _ Hcl.out).mono ?_; rw [Hi1.out]; rintro e w4 ⟨rfl, hr4, hk4⟩); have HRi := Lib.hid hr4; have HIi := Lib.hid (Hinv.out _ _ _ HIb.out hk4); have HKi := Lib.hid (HKb.out.trans (keepsMR hk4) (fun _ _ h => h)); clear hr4 hk4; (try simp only [PU]))
           | (go_at_call 74; go_must (have h74 := word74 HRi.out ⟨#[44]⟩ (by decide) (nz1 44 (by decide)); rw [show bl ⟨#[44]⟩ = [44] from rfl, Hw1.out] at h74; refine h74.mono ?_; rintro e w6 ⟨rfl, hk6⟩); have HKe := Lib.hid (HKi.out.trans (keepsMR hk6) (fun _ _ h => h)); clear hk6; unfold stopAt; (try simp only [PU]))
          )
          exact ⟨rfl, by rw [HR2.out]; exact ⟨rfl, HKe.out⟩⟩
        · rw [moreB_cons hbq] at HE2
          have hl2 := blanksB_le r1
          rw [hbq, List.length_cons] at hl2
          have Hbq1 := Lib.hid hbq
          clear hbq
          by_cases hdc : d = close
          · have HR2 := Lib.hid (show RR = .ok (x', q') by rw [← HE2.out]; simp only [if_pos hdc])
            have Hi1 := Lib.hid (show isB close (d :: q') = (true, q') by rw [hdc]; exact isB_at _ _)
            clear hdc
            go_wp2_with (first
             | (go_at_call 103; go_must (refine Hrun.out.mono ?_; rintro e w2 ⟨⟨y2, rfl⟩, hr2, hi2, hk2⟩); have HRp := Lib.hid hr2; have HIp := Lib.hid hi2; have HKp := Lib.hid (HK.out.trans hk2 (fun _ _ h => h)); clear hr2 hi2 hk2; (try simp only [PU]))
             | (go_at_call 45; first | (have hz := HRw.out; go_must (refine (blanks45 hz).mono ?_; rintro e w7 ⟨⟨y7, rfl⟩, hr7, hk7⟩); have HRz := Lib.hid hr7; have HIz := Lib.hid (Hinv.out _ _ _ HIw.out hk7); have HKz := Lib.hid (HKw.out.trans (keepsMR hk7) (fun _ _ h => h)); clear hr7 hk7 hz; (try simp only [PU])) | (go_must (refine (blanks45 HRp.out).mono ?_; rintro e w3 ⟨⟨y3, rfl⟩, hr3, hk3⟩; rw [Hbq1.out] at hr3); have HRb := Lib.hid hr3; have HIb := Lib.hid (Hinv.out _ _ _ HIp.out hk3); have HKb := Lib.hid (HKp.out.trans (keepsMR hk3) (fun _ _ h => h)); clear hr3 hk3; (try simp only [PU])))
             | (go_at_call 101; go_must (refine (is101 HRb.out close _ Hcl.out).mono ?_; rw [Hi1.out]; rintro e w4 ⟨rfl, hr4, hk4⟩); have HRi := Lib.hid hr4; have HIi := Lib.hid (Hinv.out _ _ _ HIb.out hk4); have HKi := Lib.hid (HKb.out.trans (keepsMR hk4) (fun _ _ h => h)); clear hr4 hk4; (try simp only [PU]))
            )
            go_end0
            rw [HR2.out]
            exact ⟨⟨_, rfl⟩, HRi.out, HIi.out, HKi.out⟩
          · have Hi1 := Lib.hid (isB_ne hdc q')
            by_cases h44 : d = 44
            · have HR2 := Lib.hid (show listF close step f1 x' (blanksB q') = RR by rw [← HE2.out]; simp only [if_neg hdc, if_pos h44])
              have Hw1 := Lib.hid (show wordB [44] (d :: q') = .ok q' by simp [wordB, h44])
              have hl3 := blanksB_le q'
              clear hdc h44
              go_wp2_with (first
               | (go_at_call 103; go_must (refine Hrun.out.mono ?_; rintro e w2 ⟨⟨y2, rfl⟩, hr2, hi2, hk2⟩); have HRp := Lib.hid hr2; have HIp := Lib.hid hi2; have HKp := Lib.hid (HK.out.trans hk2 (fun _ _ h => h)); clear hr2 hi2 hk2; (try simp only [PU]))
               | (go_at_call 45; first | (have hz := HRw.out; go_must (refine (blanks45 hz).mono ?_; rintro e w7 ⟨⟨y7, rfl⟩, hr7, hk7⟩); have HRz := Lib.hid hr7; have HIz := Lib.hid (Hinv.out _ _ _ HIw.out hk7); have HKz := Lib.hid (HKw.out.trans (keepsMR hk7) (fun _ _ h => h)); clear hr7 hk7 hz; (try simp only [PU])) | (go_must (refine (blanks45 HRp.out).mono ?_; rintro e w3 ⟨⟨y3, rfl⟩, hr3, hk3⟩; rw [Hbq1.out] at hr3); have HRb := Lib.hid hr3; have HIb := Lib.hid (Hinv.out _ _ _ HIp.out hk3); have HKb := Lib.hid (HKp.out.trans (keepsMR hk3) (fun _ _ h => h)); clear hr3 hk3; (try simp only [PU])))
               | (go_at_call 101; go_must (refine (is101 HRb.out close _ Hcl.out).mono ?_; rw [Hi1.out]; rintro e w4 ⟨rfl, hr4, hk4⟩); have HRi := Lib.hid hr4; have HIi := Lib.hid (Hinv.out _ _ _ HIb.out hk4); have HKi := Lib.hid (HKb.out.trans (keepsMR hk4) (fun _ _ h => h)); clear hr4 hk4; (try simp only [PU]))
               | (go_at_call 74; go_must (have h74 := word74 HRi.out ⟨#[44]⟩ (by decide) (nz1 44 (by decide)); rw [show bl ⟨#[44]⟩ = [44] from rfl, Hw1.out] at h74; refine h74.mono ?_; rintro e w6 ⟨⟨y6, rfl⟩, hr6, hk6⟩); have HRw := Lib.hid hr6; have HIw := Lib.hid (Hinv.out _ _ _ HIi.out hk6); have HKw := Lib.hid (HKi.out.trans (keepsMR hk6) (fun _ _ h => h)); clear hr6 hk6; (try simp only [PU]))
              )
              go_roundg f1
              case measure => omega
              case rel => exact ⟨x', blanksB q', by omega, by omega, HRz, HIz, HKz, HR2⟩
            · have HR2 := Lib.hid (show RR = .error (q'.length + 1) by rw [← HE2.out]; simp only [if_neg hdc, if_neg h44])
              have Hw1 := Lib.hid (show wordB [44] (d :: q') = .error (q'.length + 1) by simp [wordB, h44])
              clear hdc h44
              go_wp2_with (first
               | (go_at_call 103; go_must (refine Hrun.out.mono ?_; rintro e w2 ⟨⟨y2, rfl⟩, hr2, hi2, hk2⟩); have HRp := Lib.hid hr2; have HIp := Lib.hid hi2; have HKp := Lib.hid (HK.out.trans hk2 (fun _ _ h => h)); clear hr2 hi2 hk2; (try simp only [PU]))
               | (go_at_call 45; first | (have hz := HRw.out; go_must (refine (blanks45 hz).mono ?_; rintro e w7 ⟨⟨y7, rfl⟩, hr7, hk7⟩); have HRz := Lib.hid hr7; have HIz := Lib.hid (Hinv.out _ _ _ HIw.out hk7); have HKz := Lib.hid (HKw.out.trans (keepsMR hk7) (fun _ _ h => h)); clear hr7 hk7 hz; (try simp only [PU])) | (go_must (refine (blanks45 HRp.out).mono ?_; rintro e w3 ⟨⟨y3, rfl⟩, hr3, hk3⟩; rw [Hbq1.out] at hr3); have HRb := Lib.hid hr3; have HIb := Lib.hid (Hinv.out _ _ _ HIp.out hk3); have HKb := Lib.hid (HKp.out.trans (keepsMR hk3) (fun _ _ h => h)); clear hr3 hk3; (try simp only [PU])))
               | (go_at_call 101; go_must (refine (is101 HRb.out close _ Hcl.out).mono ?_; rw [Hi1.out]; rintro e w4 ⟨rfl, hr4, hk4⟩); have HRi := Lib.hid hr4; have HIi := Lib.hid (Hinv.out _ _ _ HIb.out hk4); have HKi := Lib.hid (HKb.out.trans (keepsMR hk4) (fun _ _ h => h)); clear hr4 hk4; (try simp only [PU]))
               | (go_at_call 74; go_must (have h74 := word74 HRi.out ⟨#[44]⟩ (by decide) (nz1 44 (by decide)); rw [show bl ⟨#[44]⟩ = [44] from rfl, Hw1.out] at h74; refine h74.mono ?_; rintro e w6 ⟨rfl, hk6⟩); have HKe := Lib.hid (HKi.out.trans (keepsMR hk6) (fun _ _ h => h)); clear hk6; unfold stopAt; (try simp only [PU]))
              )
              exact ⟨rfl, by rw [HR2.out]; exact ⟨rfl, HKe.out⟩⟩
end Go.Proofs.WV

namespace Go.Proofs.WV
open Go.RowKit Go.Proofs.KL Go.Proofs.WM
set_option linter.unusedVariables false

abbrev vz : Value := .int .i64 0
def sixAt (xs : List Value) (i : Nat) : Value := .agg #[xs.getD (i * 6) vz, xs.getD (i * 6 + 1) vz, xs.getD (i * 6 + 2) vz, xs.getD (i * 6 + 3) vz, xs.getD (i * 6 + 4) vz, xs.getD (i * 6 + 5) vz]
structure RowJ (W : World) (lo : Nat) (E : Nat → Prop) (v : Value) (acc : List J) (X : Nat → Prop) (xs : List Value) : Prop where
 row : W.ownsRow lo 25 6 v acc.length xs
 low : ∀ b, X b → lo ≤ b ∧ ¬ E b ∧ some b ≠ v.ownBlock ∧ b < W.heap.size
 ne : ∀ k, v.ownBlock = some k → ¬ E k
 val : ∀ i, i < acc.length → JX W X (sixAt xs i) (acc.getD i default)
def OwnJ (W : World) (lo : Nat) (E : Nat → Prop) (v : Value) (acc : List J) : Prop := ∃ X xs, RowJ W lo E v acc X xs
theorem OwnJ.nil (W : World) (lo : Nat) (E : Nat → Prop) : OwnJ W lo E (.slice none 0 0) [] :=
 ⟨fun _ => False, [], ⟨⟨rfl, .inl ⟨rfl, rfl⟩⟩, fun _ h => h.elim, (fun _ h => by cases h), fun i h => absurd h (Nat.not_lt_zero _)⟩⟩
theorem row_lt {W : World} {lo : Nat} {v : Value} {n : Nat} {xs : List Value} (h : W.ownsRow lo 25 6 v n xs) : ∀ k, v.ownBlock = some k → lo ≤ k ∧ k < W.heap.size := fun k hk => by
 rcases h.2 with ⟨rfl, _⟩ | ⟨g, cap, cur, rfl, hb, hg, _⟩
 · cases hk
 · simp only [Value.ownBlock, Option.some.injEq] at hk; subst hk; exact ⟨hb, blk_lt hg⟩
theorem row_keep {M : Nat → Prop} {W W' : World} {lo : Nat} {v : Value} {n : Nat} {xs : List Value} (h : W.ownsRow lo 25 6 v n xs) (hk : Keeps M W W') (hn : ∀ k, v.ownBlock = some k → ¬ M k) : W'.ownsRow lo 25 6 v n xs := by
 obtain ⟨hl, h⟩ := h
 refine ⟨hl, ?_⟩
 rcases h with h | ⟨g, cap, cur, rfl, hb, hg, h⟩
 · exact .inl h
 · exact .inr ⟨g, cap, cur, rfl, hb, hk.blk hg (hn g rfl), h⟩
theorem RowJ.keep {M : Nat → Prop} {W W' : World} {lo : Nat} {E : Nat → Prop} {v : Value} {acc : List J} {X : Nat → Prop} {xs : List Value} (h : RowJ W lo E v acc X xs) (hk : Keeps M W W') (hM : ∀ b, b < W.heap.size → M b → b < lo ∨ E b) : RowJ W' lo E v acc X xs :=
 ⟨row_keep h.row hk (fun k hk' hm => by
   have := row_lt h.row k hk'
   rcases hM k this.2 hm with e | e
   · omega
   · exact h.ne k hk' e),
  fun b hb => ⟨(h.low b hb).1, (h.low b hb).2.1, (h.low b hb).2.2.1, Nat.lt_of_lt_of_le (h.low b hb).2.2.2 hk.size⟩, h.ne,
  fun i hi => (h.val i hi).keep hk (fun b hl hb hm => by
    have := h.low b hb
    rcases hM b hl hm with e | e
    · omega
    · exact this.2.1 e) (fun _ _ h => h)⟩
theorem OwnJ.keep {M : Nat → Prop} {W W' : World} {lo : Nat} {E : Nat → Prop} {v : Value} {acc : List J} (h : OwnJ W lo E v acc) (hk : Keeps M W W') (hM : ∀ b, b < W.heap.size → M b → b < lo ∨ E b) : OwnJ W' lo E v acc := by
 obtain ⟨X, xs, h⟩ := h
 exact ⟨X, xs, h.keep hk hM⟩
theorem row_slice {W : World} {lo : Nat} {v : Value} {n : Nat} {xs : List Value} (h : W.ownsRow lo 25 6 v n xs) : ∃ A c, v = .slice A n c ∧ n ≤ c := by
 rcases h.2 with ⟨rfl, rfl⟩ | ⟨g, cap, cur, rfl, _, _, hc, _⟩
 · exact ⟨none, 0, rfl, Nat.le_refl _⟩
 · exact ⟨_, cap, rfl, hc⟩
theorem row_cell {W : World} {lo : Nat} {v : Value} {n : Nat} {xs : List Value} (h : W.ownsRow lo 25 6 v n xs) {k : Nat} (hk : k < n * 6) : ∃ g c, v = .slice (some ⟨g, 0, none⟩) n c ∧ lo ≤ g ∧ W.cell? ⟨g, k, none⟩ = some (xs.getD k vz) := by
 obtain ⟨hl, h⟩ := h
 rcases h with ⟨_, h0⟩ | ⟨g, cap, cur, rfl, hb, hg, hc, hm, hs, ht⟩
 · subst h0; omega
 · refine ⟨g, cap, rfl, hb, ?_⟩
   rw [blk_cell hg k]
   have h1 : (cur.toList.take (n * 6))[k]? = xs[k]? := by rw [ht]
   rw [List.getElem?_take, if_pos hk] at h1
   rw [← Array.getElem?_toList, h1, List.getD_eq_getElem?_getD, List.getElem?_eq_getElem (by omega)]
   rfl
theorem OwnJ.js {W : World} {lo : Nat} {E : Nat → Prop} {v : Value} {acc : List J} (h : OwnJ W lo E v acc) : JsX W (fun b => lo ≤ b) v acc := by
 obtain ⟨X, xs, hr, hX, hne, hv⟩ := h
 obtain ⟨A, c, rfl, hc⟩ := row_slice hr
 refine ⟨A, c, fun i k => xs.getD (i * 6 + k) vz, rfl, hc, fun i hi => ?_, fun i hi => (hv i hi).keep (Keeps.refl Nob W) (fun _ _ _ => id) (fun b _ hb => (hX b hb).1)⟩
 have cell : ∀ k, k < 6 → ∃ g, A = some ⟨g, 0, none⟩ ∧ lo ≤ g ∧ W.cell? ⟨g, i * 6 + k, none⟩ = some (xs.getD (i * 6 + k) vz) := fun k hk => by
  obtain ⟨g, c', e, hb, hcell⟩ := row_cell hr (k := i * 6 + k) (by omega)
  injection e with e1 e2 e3
  exact ⟨g, e1, hb, hcell⟩
 obtain ⟨g, rfl, hb, h0⟩ := cell 0 (by decide)
 have same : ∀ k, k < 6 → W.cell? ⟨g, i * 6 + k, none⟩ = some (xs.getD (i * 6 + k) vz) := fun k hk => by
  obtain ⟨g', e, _, hcell⟩ := cell k hk
  injection e with e
  injection e with e
  subst e
  exact hcell
 refine ⟨g, 0, rfl, hb, ⟨?_, ?_, ?_⟩, ?_, ?_, ?_⟩
 all_goals rw [Nat.zero_add]
 · exact same 0 (by decide)
 · exact same 1 (by decide)
 · exact same 2 (by decide)
 · exact same 3 (by decide)
 · exact same 4 (by decide)
 · exact same 5 (by decide)
theorem sixAt_append {xs ys : List Value} {i n : Nat} (hx : xs.length = n * 6) (hi : i < n) : sixAt (xs ++ ys) i = sixAt xs i := by
 have g : ∀ k, k < n * 6 → (xs ++ ys).getD k vz = xs.getD k vz := fun k hk => by
  rw [List.getD_eq_getElem?_getD, List.getD_eq_getElem?_getD, List.getElem?_append_left (by omega)]
 unfold sixAt
 rw [g _ (by omega), g _ (by omega), g _ (by omega), g _ (by omega), g _ (by omega), g _ (by omega)]
theorem sixAt_last {xs : List Value} {x0 x1 x2 x3 x4 x5 : Value} {n : Nat} (hx : xs.length = n * 6) : sixAt (xs ++ [x0, x1, x2, x3, x4, x5]) n = .agg #[x0, x1, x2, x3, x4, x5] := by
 have g : ∀ k, k < 6 → (xs ++ [x0, x1, x2, x3, x4, x5]).getD (n * 6 + k) vz = [x0, x1, x2, x3, x4, x5].getD k vz := fun k hk => by
  rw [List.getD_eq_getElem?_getD, List.getD_eq_getElem?_getD, List.getElem?_append_right (by omega), hx, Nat.add_sub_cancel_left]
 unfold sixAt
 rw [show (xs ++ [x0, x1, x2, x3, x4, x5]).getD (n * 6) vz = [x0, x1, x2, x3, x4, x5].getD 0 vz from g 0 (by decide), g 1 (by decide), g 2 (by decide), g 3 (by decide), g 4 (by decide), g 5 (by decide)]
 rfl
theorem RowJ.push {W w1 W2 : World} {lo : Nat} {E : Nat → Prop} {v v' : Value} {acc : List J} {X X' : Nat → Prop} {xs zs : List Value} {x0 x1 x2 x3 x4 x5 : Value} {j : J} (h : RowJ W lo E v acc X xs) (hj : JX W X' (.agg #[x0, x1, x2, x3, x4, x5]) j)
  (hX' : ∀ b, X' b → lo ≤ b ∧ ¬ E b ∧ some b ≠ v.ownBlock ∧ b < W.heap.size) (hE : ∀ b, E b → b < W.heap.size) (hz : zs.length = 6) (hown : w1.ownsRow lo 25 6 v' (acc.length + 1) (xs ++ zs)) (hk1 : Keeps (fun k => some k = v.ownBlock ∨ E k) W w1)
  (hrow : v'.ownBlock = v.ownBlock ∨ ∃ b, v'.ownBlock = some b ∧ W.heap.size ≤ b) {g cap : Nat} {cur : Array Value} (hv' : v' = .slice (some ⟨g, 0, none⟩) (acc.length + 1) cap) (hcur : w1.heap[g]? = some (.cells cur 25 (0, 0)))
  (h2 : W2.heap[g]? = some (.cells (cur.toList.take (acc.length * 6) ++ [x0, x1, x2, x3, x4, x5] ++ cur.toList.drop (acc.length * 6 + 6)).toArray 25 (0, 0))) (hk2 : Keeps (· = g) w1 W2) : OwnJ W2 lo E v' (acc ++ [j]) := by
 obtain ⟨hr, hX, hne, hv⟩ := h
 have hlx : xs.length = acc.length * 6 := hr.1
 subst hv'
 have hog : (Value.slice (some ⟨g, 0, none⟩) (acc.length + 1) cap).ownBlock = some g := rfl
 have hgn : ¬ E g := by
  rcases hrow with e | ⟨b, e, hb⟩
  · exact hne g (by rw [← e, hog])
  · rw [hog] at e; injection e with e; intro e2; have := hE g e2; omega

 have hXg : ∀ b, (X b ∨ X' b) → b < W.heap.size ∧ lo ≤ b ∧ ¬ E b ∧ b ≠ g := fun b hb => by
  have h1 : lo ≤ b ∧ ¬ E b ∧ some b ≠ v.ownBlock ∧ b < W.heap.size := hb.elim (hX b) (hX' b)
  refine ⟨h1.2.2.2, h1.1, h1.2.1, fun e => ?_⟩
  rcases hrow with e' | ⟨b', e', hb'⟩
  · rw [hog] at e'; exact h1.2.2.1 (by rw [e, e'])
  · rw [hog] at e'; injection e' with e'; omega
 have keep : ∀ {u : Value} {i : J}, JX W (fun b => X b ∨ X' b) u i → JX W2 (fun b => X b ∨ X' b) u i := fun hu =>
  (hu.keep (X' := fun b => X b ∨ X' b) hk1 (fun b _ hb hm => hm.elim (fun hm => hb.elim (fun hb => (hX b hb).2.2.1 hm) (fun hb => (hX' b hb).2.2.1 hm)) (fun hm => hb.elim (fun hb => (hX b hb).2.1 hm) (fun hb => (hX' b hb).2.1 hm))) (fun _ _ h => h)).keep hk2 (fun b _ hb hm => (hXg b hb).2.2.2 hm) (fun _ _ h => h)
 have hsz1 := hk1.size
 have hsz2 := hk2.size
 refine ⟨fun b => X b ∨ X' b, xs ++ [x0, x1, x2, x3, x4, x5], ⟨?_, ?_⟩, fun b hb => ⟨(hXg b hb).2.1, (hXg b hb).2.2.1, fun e => (hXg b hb).2.2.2 (by rw [hog] at e; exact Option.some.inj e), by have := hXg b hb; omega⟩, (fun k e => by rw [hog] at e; injection e with e; rw [← e]; exact hgn), fun i hi => ?_⟩
 · rw [List.length_append, List.length_append, hlx]; simp only [List.length_cons, List.length_nil]; omega
 · rcases hown.2 with ⟨e, _⟩ | ⟨g', cap', cur', e, hb, hg', hc, hm, hs, ht⟩
   · cases e
   · injection e with e1 e2 e3
     injection e1 with e1
     injection e1 with e1
     subst e1; subst e3
     rw [hcur] at hg'
     injection hg' with hg'
     injection hg' with hcc
     subst hcc
     have hcl : cur.toList.length = cap * 6 := by rw [Array.length_toList]; exact hs
     have htx : cur.toList.take (acc.length * 6) = xs := by
      have := congrArg (List.take (acc.length * 6)) ht
      have h3 : (xs ++ zs).take (acc.length * 6) = xs := by rw [← hlx]; exact List.take_left
      rw [List.take_take, Nat.min_eq_left (by omega), h3] at this
      exact this
     refine .inr ⟨g, cap, _, by rw [List.length_append]; rfl, hb, h2, by rw [List.length_append]; simpa using hc, hm, ?_, ?_⟩
     · simp only [List.size_toArray, List.length_append, List.length_take, List.length_drop, List.length_cons, List.length_nil, hcl]
       omega
     · show List.take _ (cur.toList.take (acc.length * 6) ++ [x0, x1, x2, x3, x4, x5] ++ cur.toList.drop (acc.length * 6 + 6)) = _
       rw [htx, List.length_append]
       rw [List.take_append_of_le_length (by simp only [List.length_append, List.length_cons, List.length_nil]; omega), List.take_of_length_le (by simp only [List.length_append, List.length_cons, List.length_nil]; omega)]
 · rw [List.length_append] at hi
   simp only [List.length_cons, List.length_nil] at hi
   by_cases hl : i < acc.length
   · rw [sixAt_append hlx hl, List.getD_eq_getElem?_getD, List.getElem?_append_left hl, ← List.getD_eq_getElem?_getD]
     exact keep ((hv i hl).keep (Keeps.refl Nob W) (fun _ _ _ => id) (fun _ _ h => .inl h))
   · have e : i = acc.length := by omega
     subst e
     rw [sixAt_last hlx, List.getD_eq_getElem?_getD, List.getElem?_append_right (Nat.le_refl _), Nat.sub_self]
     exact keep (hj.keep (Keeps.refl Nob W) (fun _ _ _ => id) (fun _ _ h => .inr h))
end Go.Proofs.WV

namespace Go.Proofs.WV
open Go.RowKit Go.Proofs.KL Go.Proofs.WM
set_option maxRecDepth 100000
set_option linter.unusedSimpArgs false
set_option linter.unusedVariables false

def ValOut (w : World) (r : Nat) (T : ByteArray) : R J → Ending → World → Prop
 | .ok x, e, w' => (∃ v, e = .returned v ∧ JX w' (fun b => w.heap.size ≤ b) v x.1) ∧ Rd w' r T x.2 ∧ Keeps (· = r) w w'
 | .error n, e, w' => e = stopAt T n ∧ Keeps (· = r) w w'
theorem info25b : (Tryd.prog.info? 25).map (fun i => (i.zero, i.size, i.bytes)) = some (some (.agg #[.int .i64 0, .bool false, .int .i64 0, .string ByteArray.empty, .slice none 0 0, .slice none 0 0]), 6, 88) := by kernel_rfl
theorem info23 : ∃ i, Tryd.prog.info? 23 = some i ∧ i.size = 1 := by
 have h : (Tryd.prog.info? 23).map (·.size) = some 1 := by kernel_rfl
 obtain ⟨i, hi, hs⟩ := Option.map_eq_some_iff.1 h
 exact ⟨i, hi, hs⟩
def ItemsInv (r g2 g3 g6 base : Nat) (deep : Int) (y0 y1 y2 y3 y4 : Value) (acc : List J) (W : World) : Prop :=
 W.heap[g2]? = some (.cells #[.pointer (some ⟨r, 0, none⟩)] 78 (0, 0)) ∧ W.heap[g3]? = some (.cells #[.int .i64 deep] 3 (0, 0)) ∧ ∃ vv, W.heap[g6]? = some (.cells #[y0, y1, y2, y3, y4, vv] 25 (0, 0)) ∧ OwnJ W base (· = g6) vv acc
def addR (acc : List J) : R J → R (List J)
 | .ok x => .ok (acc ++ [x.1], x.2)
 | .error n => .error n
theorem row_ne {W : World} {lo g : Nat} {v : Value} {n : Nat} {xs : List Value} {cs : Array Value} {t : TypeId} (h : W.ownsRow lo 25 6 v n xs) (hg : W.heap[g]? = some (.cells cs t (0, 0))) (ht : t ≠ 25) : some g ≠ v.ownBlock := fun e => by
 rcases h.2 with ⟨rfl, _⟩ | ⟨g', cap, cur, rfl, hb, hg', _⟩
 · cases e
 · simp only [Value.ownBlock, Option.some.injEq] at e
   subst e
   rw [hg] at hg'
   injection hg' with hg'
   injection hg' with _ h2 _
   exact ht h2
theorem blk_type {w : World} {g g' : Nat} {cs cs' : Array Value} {t t' : TypeId} (h : w.heap[g]? = some (.cells cs t (0, 0))) (h' : w.heap[g']? = some (.cells cs' t' (0, 0))) (ht : t ≠ t') : ¬ g = g' := fun e => by
 subst e
 rw [h] at h'
 injection h' with h'
 injection h' with _ h2 _
 exact ht h2
theorem row_notin {v : Value} {g6 gr n cap a b : Nat} (h : v.ownBlock ≠ some g6) (hg : g6 < a) (hab : a ≤ b) (hr : (Value.slice (some ⟨gr, 0, none⟩) n cap).ownBlock = v.ownBlock ∨ ∃ k, (Value.slice (some ⟨gr, 0, none⟩) n cap).ownBlock = some k ∧ b ≤ k) : ¬ g6 = gr := fun e => by
 have ho : (Value.slice (some ⟨gr, 0, none⟩) n cap).ownBlock = some gr := rfl
 rw [ho] at hr
 rcases hr with h1 | ⟨k, h1, hk⟩
 · exact h (by rw [e]; exact h1.symm)
 · injection h1 with h1
   omega
set_option maxHeartbeats 4000000 in
theorem part79e {W : World} {r g2 g3 g6 base : Nat} {deep : Int} {T : ByteArray} {s : Bs} {acc : List J} {y0 y1 y2 y3 y4 : Value} {m : Nat} (hr : Rd W r T s) (hI : ItemsInv r g2 g3 g6 base deep y0 y1 y2 y3 y4 acc W)
  (hd : r < base ∧ ¬ g2 = r ∧ ¬ g3 = r ∧ base ≤ g6 ∧ base ≤ W.heap.size) (hn : acc.length ≤ 1000000) (hin : ∀ W', Rd W' r T s → Calls Tryd.prog 80 #[.pointer (some ⟨r, 0, none⟩), .int .i64 deep] W' (ValOut W' r T (.error m))) :
  Calls Tryd.prog 79 #[.pointer (some ⟨g6, 0, none⟩), .pointer (some ⟨g2, 0, none⟩), .pointer (some ⟨g3, 0, none⟩)] W (PartOut W r T base (ItemsInv r g2 g3 g6 base deep y0 y1 y2 y3 y4) (.error m)) := by
 obtain ⟨h2, h3, vv, h6, X, xs, hrow⟩ := hI
 have Hr := Lib.hid hr
 have Hin := Lib.hid hin
 have HJ := Lib.hid hrow
 obtain ⟨vA, vc, rfl, hvc⟩ := row_slice hrow.row
 have H2 := Lib.hid h2
 have H3 := Lib.hid h3
 have H6 := Lib.hid h6
 have Hd := Lib.hid hd
 have n2 : ¬ g2 = r := by omega
 have n3 : ¬ g3 = r := by omega
 have n6 : ¬ g6 = r := by omega
 have N := Lib.hid (And.intro n2 (And.intro n3 n6))
 obtain ⟨n, hnn⟩ : ∃ x, acc.length = x := ⟨_, rfl⟩
 have Hnn := Lib.hid hnn
 rw [hnn] at hn hvc h6 HJ
 have HK := Lib.hid ((Keeps.refl (· = r) W).drew)
 have Hr0 := Lib.hid (hr.keep (Keeps.refl Nob W).drew id)
 have c2 := (blk_cell h2 0).trans rfl
 have c3 := (blk_cell h3 0).trans rfl
 clear hr hin hrow h2 h3 h6 hd n2 n3 n6 hnn
 show Calls _ _ _ _ (PartOut W r T base (ItemsInv r g2 g3 g6 base deep y0 y1 y2 y3 y4) (.error m))
 go_enter Tryd.func79, Tryd.ntmps79
 go_wp2_with fail
 refine wp_region_tree (.q 0 (.q 2 (.q 3 (.br [1, 4, 6] (fun k => bif Nat.beq k 1 then .q 5 (.br [4, 6] (fun k => bif Nat.beq k 4 then .br [6] (fun k => .br [7] (fun k => .q 8 (.q 10 (.br [9, 11] (fun k => bif Nat.beq k 9 then .br [11] (fun k => .done) else .br [9] (fun k => .done)))))) else .br [4] (fun k => .br [7] (fun k => .q 8 (.q 10 (.br [9, 11] (fun k => bif Nat.beq k 9 then .br [11] (fun k => .done) else .br [9] (fun k => .done)))))))) else bif Nat.beq k 4 then .br [1, 6] (fun k => bif Nat.beq k 1 then .q 5 (.br [6] (fun k => .br [7] (fun k => .q 8 (.q 10 (.br [9, 11] (fun k => bif Nat.beq k 9 then .br [11] (fun k => .done) else .br [9] (fun k => .done))))))) else .br [1] (fun k => .q 5 (.br [7] (fun k => .q 8 (.q 10 (.br [9, 11] (fun k => bif Nat.beq k 9 then .br [11] (fun k => .done) else .br [9] (fun k => .done)))))))) else .br [1, 4] (fun k => bif Nat.beq k 1 then .q 5 (.br [4] (fun k => .br [7] (fun k => .q 8 (.q 10 (.br [9, 11] (fun k => bif Nat.beq k 9 then .br [11] (fun k => .done) else .br [9] (fun k => .done))))))) else .br [1] (fun k => .q 5 (.br [7] (fun k => .q 8 (.q 10 (.br [9, 11] (fun k => bif Nat.beq k 9 then .br [11] (fun k => .done) else .br [9] (fun k => .done))))))))))))) (fun w' => w'.cell? ⟨g2, 0, none⟩ = some (.pointer (some ⟨r, 0, none⟩)) ∧ w'.cell? ⟨g3, 0, none⟩ = some (.int .i64 deep)) rfl (by kernel_rfl) (by kernel_rfl) (fun c a d v w h => by cases d <;> exact h) ⟨c2, c3⟩ ?_
 refine tq (some 3) ?_; (try simp only [PU])
 refine tq (some 5) ?_; (try simp only [PU])
 refine tq (some 6) ?_; (try simp only [PU])
 refine tree_b rfl rfl ?b1_12 ?nb1_12
 case' b1_12 =>
  have c6 := HK.out.cell ((blk_cell H6.out 5).trans rfl) N.out.2.2
  go_wp2_with fail
  clear c6
  refine ⟨⟨HK.out.cell c2 N.out.1, HK.out.cell c3 N.out.2.1⟩, ?_⟩
  refine tq (some 8) ?_; (try simp only [PU])
  refine tree_b rfl rfl ?b1_5 ?nb1_5
  case' b1_5 =>
   go_wp2_with (go_at_call 80; go_must (refine (Hin.out _ Hr0.out).mono ?_; rintro e w1 ⟨rfl, hk1⟩); unfold stopAt)
   exact ⟨rfl, rfl, (HK.out.trans hk1 (fun _ _ h => h)).mono (fun _ _ e => .inl e)⟩
  case' nb1_5 =>
   refine tree_e rfl rfl ?b1_10
   case' b1_10 =>
    go_must (refine ev_slice (cs := #[.int .i64 0, .bool false, .int .i64 0, .string ByteArray.empty, .slice none 0 0, .slice none 0 0]) (t := 25) (n := 1) (c := 1) rfl (by first | (go_simp; done) | (go_simp; rfl)) ?_; intro gz wz hgz hlz hbz hkz)
    (try simp only [PU])
    have Hr0 := Lib.hid (Hr0.out.keep hkz id)
    have HK := Lib.hid (HK.out.then hkz)
    clear hbz hkz
    refine wpList_nil ⟨⟨HK.out.cell c2 N.out.1, HK.out.cell c3 N.out.2.1⟩, ?_⟩
    refine tree_e rfl rfl ?_
    go_wp2_with (go_at_call 80; go_must (refine (Hin.out _ Hr0.out).mono ?_; rintro e w1 ⟨rfl, hk1⟩); unfold stopAt)
    exact ⟨rfl, rfl, (HK.out.trans hk1 (fun _ _ h => h)).mono (fun _ _ e => .inl e)⟩
 case' nb1_12 =>
  refine tree_b rfl rfl ?b1_25 ?nb1_25
  case' b1_25 =>
   go_wp2_with (go_at_call 80; go_must (refine (Hin.out _ Hr0.out).mono ?_; rintro e w1 ⟨rfl, hk1⟩); unfold stopAt)
   exact ⟨rfl, rfl, (HK.out.trans hk1 (fun _ _ h => h)).mono (fun _ _ e => .inl e)⟩
  case' nb1_25 =>
   refine tree_e rfl rfl ?b1_38
   case' b1_38 =>
    go_must (refine ev_slice (cs := #[.int .i64 0, .bool false, .int .i64 0, .string ByteArray.empty, .slice none 0 0, .slice none 0 0]) (t := 25) (n := 1) (c := 1) rfl (by first | (go_simp; done) | (go_simp; rfl)) ?_; intro gz wz hgz hlz hbz hkz)
    (try simp only [PU])
    have Hr0 := Lib.hid (Hr0.out.keep hkz id)
    have HK := Lib.hid (HK.out.then hkz)
    clear hbz hkz
    refine wpList_nil ⟨⟨HK.out.cell c2 N.out.1, HK.out.cell c3 N.out.2.1⟩, ?_⟩
    refine tree_b rfl rfl ?b1_31 ?nb1_31
    case' b1_31 =>
     have c6 := HK.out.cell ((blk_cell H6.out 5).trans rfl) N.out.2.2
     go_wp2_with fail
     clear c6
     refine ⟨⟨HK.out.cell c2 N.out.1, HK.out.cell c3 N.out.2.1⟩, ?_⟩
     refine tq (some 8) ?_; (try simp only [PU])
     refine tree_e rfl rfl ?_
     go_wp2_with (go_at_call 80; go_must (refine (Hin.out _ Hr0.out).mono ?_; rintro e w1 ⟨rfl, hk1⟩); unfold stopAt)
     exact ⟨rfl, rfl, (HK.out.trans hk1 (fun _ _ h => h)).mono (fun _ _ e => .inl e)⟩
    case' nb1_31 =>
     refine tree_e rfl rfl ?b1_37
     case' b1_37 =>
      go_wp2_with (go_at_call 80; go_must (refine (Hin.out _ Hr0.out).mono ?_; rintro e w1 ⟨rfl, hk1⟩); unfold stopAt)
      exact ⟨rfl, rfl, (HK.out.trans hk1 (fun _ _ h => h)).mono (fun _ _ e => .inl e)⟩
set_option maxHeartbeats 4000000 in
theorem part79o {W : World} {r g2 g3 g6 base : Nat} {deep : Int} {T : ByteArray} {s : Bs} {acc : List J} {y0 y1 y2 y3 y4 : Value} {j : J} {s' : Bs} (hr : Rd W r T s) (hI : ItemsInv r g2 g3 g6 base deep y0 y1 y2 y3 y4 acc W)
  (hd : r < base ∧ ¬ g2 = r ∧ ¬ g3 = r ∧ base ≤ g6 ∧ base ≤ W.heap.size) (hn : acc.length ≤ 1000000) (hin : ∀ W', Rd W' r T s → Calls Tryd.prog 80 #[.pointer (some ⟨r, 0, none⟩), .int .i64 deep] W' (ValOut W' r T (.ok (j, s')))) :
  Calls Tryd.prog 79 #[.pointer (some ⟨g6, 0, none⟩), .pointer (some ⟨g2, 0, none⟩), .pointer (some ⟨g3, 0, none⟩)] W (PartOut W r T base (ItemsInv r g2 g3 g6 base deep y0 y1 y2 y3 y4) (.ok (acc ++ [j], s'))) := by
 obtain ⟨h2, h3, vv, h6, X, xs, hrow⟩ := hI
 have Hr := Lib.hid hr
 have Hin := Lib.hid hin
 have HJ := Lib.hid hrow
 obtain ⟨vA, vc, rfl, hvc⟩ := row_slice hrow.row
 have H2 := Lib.hid h2
 have H3 := Lib.hid h3
 have H6 := Lib.hid h6
 have Hd := Lib.hid hd
 have n2 : ¬ g2 = r := by omega
 have n3 : ¬ g3 = r := by omega
 have n6 : ¬ g6 = r := by omega
 have N := Lib.hid (And.intro n2 (And.intro n3 n6))
 obtain ⟨n, hnn⟩ : ∃ x, acc.length = x := ⟨_, rfl⟩
 have Hnn := Lib.hid hnn
 rw [hnn] at hn hvc h6 HJ
 have HK := Lib.hid ((Keeps.refl (· = r) W).drew)
 have Hr0 := Lib.hid (hr.keep (Keeps.refl Nob W).drew id)
 have c2 := (blk_cell h2 0).trans rfl
 have c3 := (blk_cell h3 0).trans rfl
 clear hr hin hrow h2 h3 h6 hd n2 n3 n6 hnn
 obtain ⟨i25, hi25, hs25⟩ := info25
 obtain ⟨i23, hi23, hs23⟩ := info23
 have HI := Lib.hid (And.intro (And.intro hi25 hs25) (And.intro hi23 hs23))
 clear hi25 hs25 hi23 hs23
 show Calls _ _ _ _ (PartOut W r T base (ItemsInv r g2 g3 g6 base deep y0 y1 y2 y3 y4) (.ok (acc ++ [j], s')))
 go_enter Tryd.func79, Tryd.ntmps79
 go_wp2_with fail
 refine wp_region_tree (.q 0 (.q 2 (.q 3 (.br [1, 4, 6] (fun k => bif Nat.beq k 1 then .q 5 (.br [4, 6] (fun k => bif Nat.beq k 4 then .br [6] (fun k => .br [7] (fun k => .q 8 (.q 10 (.br [9, 11] (fun k => bif Nat.beq k 9 then .br [11] (fun k => .done) else .br [9] (fun k => .done)))))) else .br [4] (fun k => .br [7] (fun k => .q 8 (.q 10 (.br [9, 11] (fun k => bif Nat.beq k 9 then .br [11] (fun k => .done) else .br [9] (fun k => .done)))))))) else bif Nat.beq k 4 then .br [1, 6] (fun k => bif Nat.beq k 1 then .q 5 (.br [6] (fun k => .br [7] (fun k => .q 8 (.q 10 (.br [9, 11] (fun k => bif Nat.beq k 9 then .br [11] (fun k => .done) else .br [9] (fun k => .done))))))) else .br [1] (fun k => .q 5 (.br [7] (fun k => .q 8 (.q 10 (.br [9, 11] (fun k => bif Nat.beq k 9 then .br [11] (fun k => .done) else .br [9] (fun k => .done)))))))) else .br [1, 4] (fun k => bif Nat.beq k 1 then .q 5 (.br [4] (fun k => .br [7] (fun k => .q 8 (.q 10 (.br [9, 11] (fun k => bif Nat.beq k 9 then .br [11] (fun k => .done) else .br [9] (fun k => .done))))))) else .br [1] (fun k => .q 5 (.br [7] (fun k => .q 8 (.q 10 (.br [9, 11] (fun k => bif Nat.beq k 9 then .br [11] (fun k => .done) else .br [9] (fun k => .done))))))))))))) (fun w' => w'.cell? ⟨g2, 0, none⟩ = some (.pointer (some ⟨r, 0, none⟩)) ∧ w'.cell? ⟨g3, 0, none⟩ = some (.int .i64 deep)) rfl (by kernel_rfl) (by kernel_rfl) (fun c a d v w h => by cases d <;> exact h) ⟨c2, c3⟩ ?_
 refine tq (some 3) ?_; (try simp only [PU])
 refine tq (some 5) ?_; (try simp only [PU])
 refine tq (some 6) ?_; (try simp only [PU])
 refine tree_b rfl rfl ?b2_12 ?nb2_12
 case' b2_12 =>
  have c6 := HK.out.cell ((blk_cell H6.out 5).trans rfl) N.out.2.2
  rw [Hnn.out] at c6
  go_wp2_with fail
  clear c6
  refine ⟨⟨HK.out.cell c2 N.out.1, HK.out.cell c3 N.out.2.1⟩, ?_⟩
  refine tq (some 8) ?_; (try simp only [PU])
  refine tree_b rfl rfl ?b2_5 ?nb2_5
  case' b2_5 =>
   go_wp2_with (go_at_call 80; go_must (refine (Hin.out _ Hr0.out).mono ?_; rintro e w1 ⟨⟨v1, rfl, hv1⟩, hr1, hk1⟩; obtain ⟨jk, jb, jn, jt, jks, jvs, jkv, jvv, hjj, rfl, hjk, hjv⟩ := hv1.open; obtain ⟨kA, kc, rfl, -, -⟩ := hjk; obtain ⟨jA, jc, ju, rfl, -, -, -⟩ := hjv); have hw0 := HK.out.size; have HV := Lib.hid (hv1.keep (X' := fun b => W.heap.size ≤ b ∧ b < w1.heap.size) (Keeps.refl Nob w1) (fun _ _ _ => id) (fun b hb hx => ⟨Nat.le_trans hw0 hx, hb⟩)); have Hr1 := Lib.hid hr1; have Hk1 := Lib.hid hk1; have HK := Lib.hid (HK.out.trans hk1 (fun _ _ h => h)); clear hv1 hr1 hjj hw0 hk1; generalize jks.length = kl at *; generalize jvs.length = vl at *; (try simp only [PU]))
   (try have Hbz := Lib.hid (Hk1.out.blk Hbz.out (fun e : gz = r => by have h1 : W.heap.size ≤ gz := Hgz.out; have h2 := Hd.out; omega)))
   refine ⟨⟨HK.out.cell c2 N.out.1, HK.out.cell c3 N.out.2.1⟩, ?_⟩
   refine tree_e rfl rfl ?_
   go_must (refine ev_slice (cs := #[.int .i64 0, .bool false, .int .i64 0, .string ByteArray.empty, .slice none 0 0, .slice none 0 0]) (t := 25) (n := 1) (c := 1) rfl (by first | (go_simp; done) | (go_simp; rfl)) ?_; intro gz wz hgz hlz hbz hkz)
   (try simp only [PU])
   have Hgz := Lib.hid (Nat.le_trans HK.out.size hgz)
   have Hbz := Lib.hid hbz
   (try have Hr1 := Lib.hid (Hr1.out.keep hkz id))
   (try have HV := Lib.hid (HV.out.keep (X' := fun b => W.heap.size ≤ b ∧ b < wz.heap.size) hkz (fun _ _ _ => id) (fun b hb h => ⟨h.1, Nat.lt_of_lt_of_le h.2 hkz.size⟩)))
   (try have Hr0 := Lib.hid (Rd.keep (M := Nob) Hr0.out hkz id))
   have HK := Lib.hid (HK.out.then hkz)
   clear hbz hkz hgz
   refine wpList_nil ⟨⟨HK.out.cell c2 N.out.1, HK.out.cell c3 N.out.2.1⟩, ?_⟩
   refine tree_e rfl rfl ?_
   have HJc := Lib.hid (HJ.out.keep HK.out (fun b _ e => .inl (by have := Hd.out; omega)))
   have hrow7 := HJc.out.row
   rw [Hnn.out] at hrow7
   have Hrow7 := Lib.hid hrow7
   clear hrow7
   go_must (refine ev_append rfl rfl Tryd.underlying23 info25b rfl (by decide) (base := base) rfl Hrow7.out rfl (news := [.int .i64 0, .bool false, .int .i64 0, .string ByteArray.empty, .slice none 0 0, .slice none 0 0]) rfl (fun _ => ⟨_, rfl, World.news_of_block Hbz.out⟩) (by simp [Value.oneCell']) (by omega) (by decide) (by have := HK.out.size; have := Hd.out; omega) ?_; intro v6 w6 hown6 hk6 hr6 hf6; obtain ⟨gr, cap, rfl⟩ := hf6 (by decide))
   have Hr6 := Lib.hid hr6
   (try simp only [PU])
   have b2 := HK.out.blk H2.out N.out.1
   have b3 := HK.out.blk H3.out N.out.2.1
   have b6 := HK.out.blk H6.out N.out.2.2
   have H2k := Lib.hid (hk6.blk b2 (row_ne Hrow7.out b2 (by decide)))
   have H3k := Lib.hid (hk6.blk b3 (row_ne Hrow7.out b3 (by decide)))
   have H6k := Lib.hid (hk6.blk b6 (fun e => HJc.out.ne g6 e.symm rfl))
   have Hrk := Lib.hid (Hr1.out.keep hk6 (row_ne Hrow7.out Hr1.out.blk (by decide)))
   obtain ⟨cur, hcur⟩ : ∃ cur, w6.heap[gr]? = some (.cells cur 25 (0, 0)) ∧ n + 1 ≤ cap ∧ cur.size = cap * 6 ∧ base ≤ gr := by
    rcases hown6.2 with ⟨e, _⟩ | ⟨g', cap', cur, e, hb, hg', hc, hm, hs, ht⟩
    · cases e
    · injection e with e1 e2 e3
      injection e1 with e1
      injection e1 with e1
      subst e1; subst e3
      exact ⟨cur, hg', hc, hs, hb⟩
   have Hcf := Lib.hid hcur.2
   have Hcur := Lib.hid hcur.1
   have Hg6r := Lib.hid (row_notin (fun e => HJc.out.ne g6 e rfl) (blk_lt H6.out) HK.out.size hr6)
   have Hrowk := Lib.hid hown6
   have HKo := Lib.hid (hk6.mono (M' := fun k => some k = (Value.slice vA n vc).ownBlock ∨ k = g6) (fun _ _ e => .inl e))
   have HKall := Lib.hid ((keepsMR HK.out).trans hk6 (fun i hi e => .inr (row_lt HJ.out.row i e.symm).1))
   have HWc := Lib.hid HK.out.size
   have hlt1 : (n : Int) < (n : Int) + 1 := by omega
   clear hown6 hk6 hr6 hf6 b2 b3 b6 hcur
   refine wpList_nil ⟨⟨(blk_cell H2k.out 0).trans rfl, (blk_cell H3k.out 0).trans rfl⟩, ?_⟩
   refine tq (some 11) ?_; (try simp only [PU])
   refine tq (some 12) ?_; (try simp only [PU])
   refine tree_b rfl rfl ?b2_1 ?nb2_1
   case' b2_1 =>
    have hfit : n * 6 + 6 ≤ cur.size := by have h1 := Hcf.out.1; have h2 := Hcf.out.2.1; omega
    go_must (refine ev_store (x := .agg #[.int .i64 jk, .bool jb, .int .i64 jn, .string jt, .slice kA kl kc, .slice jA vl jc]) (vs := [.int .i64 jk, .bool jb, .int .i64 jn, .string jt, .slice kA kl kc, .slice jA vl jc]) (off := n * 6) (cs' := List.toArray (cur.toList.take (n * 6) ++ ([Value.int .i64 jk, Value.bool jb, Value.int .i64 jn, Value.string jt, Value.slice kA kl kc, Value.slice jA vl jc] : List Value) ++ cur.toList.drop (n * 6 + 6))) rfl rfl rfl rfl rfl rfl HI.out.1.1 HI.out.1.2 rfl Hcur.out hfit rfl ?_; intro w7 hb7 hk7)
    (try simp only [PU])
    have H2k' := H2k
    have h6l : g6 < W.heap.size := blk_lt H6.out
    have Hown9 := Lib.hid (RowJ.push HJc.out HV.out (fun b hb => ⟨by have := Hd.out; have := hb.1; omega, fun e => by have := hb.1; omega, fun e => by have := (row_lt HJ.out.row b e.symm).2; have := hb.1; omega, hb.2⟩) (fun b e => by have := HWc.out; rw [e]; omega) rfl (by rw [Hnn.out]; exact Hrowk.out) HKo.out Hr6.out (by rw [Hnn.out]) Hcur.out (by rw [Hnn.out]; exact hb7) hk7)
    have H2k := Lib.hid (hk7.blk H2k.out (blk_type H2k.out Hcur.out (by decide)))
    have H3k := Lib.hid (hk7.blk H3k.out (blk_type H3k.out Hcur.out (by decide)))
    have H6k := Lib.hid (hk7.blk H6k.out Hg6r.out)
    have Hrk := Lib.hid (Hrk.out.keep hk7 (blk_type Hrk.out.blk Hcur.out (by decide)))
    have HKall := Lib.hid (HKall.out.trans hk7 (fun i _ e => .inr (by rw [e]; exact Hcf.out.2.2)))
    clear hb7 hk7 hfit h6l H2k'
    refine wpList_nil ⟨⟨(blk_cell H2k.out 0).trans rfl, (blk_cell H3k.out 0).trans rfl⟩, ?_⟩
    refine tree_e rfl rfl ?_
    go_must (refine ev_store (cs' := #[y0, y1, y2, y3, y4, .slice (some ⟨gr, 0, none⟩) (n + 1) cap]) rfl rfl rfl rfl rfl rfl HI.out.2.1 HI.out.2.2 rfl H6k.out (Nat.le_of_ble_eq_true rfl) rfl ?_; intro w8 hb8 hk8)
    (try simp only [PU])
    have Hb8 := Lib.hid hb8
    (try have Hown9 := Lib.hid (Hown9.out.keep hk8 (fun b _ e => .inr e)))
    (try have HKo := Lib.hid (HKo.out.trans hk8 (fun _ _ e => .inr e)))
    (try have Hrowk := Lib.hid (row_keep Hrowk.out hk8 (fun k hk e => Hg6r.out (by rw [← e]; exact (Option.some.inj hk).symm))))
    (try have Hcur := Lib.hid (hk8.blk Hcur.out (fun e => Hg6r.out e.symm)))
    have H2k := Lib.hid (hk8.blk H2k.out (blk_type H2k.out H6k.out (by decide)))
    have H3k := Lib.hid (hk8.blk H3k.out (blk_type H3k.out H6k.out (by decide)))
    have Hrk := Lib.hid (Hrk.out.keep hk8 (fun e => N.out.2.2 e.symm))
    have HKall := Lib.hid (HKall.out.trans hk8 (fun i _ e => .inr (by rw [e]; exact Hd.out.2.2.2.1)))
    have H6k := Hb8
    clear hb8 hk8
    refine wpList_nil ⟨⟨(blk_cell H2k.out 0).trans rfl, (blk_cell H3k.out 0).trans rfl⟩, ?_⟩
    refine tree_nil ?_
   case' nb2_1 =>
    refine tree_e rfl rfl ?b2_2
    case' b2_2 =>
     go_must (refine ev_store (cs' := #[y0, y1, y2, y3, y4, .slice (some ⟨gr, 0, none⟩) (n + 1) cap]) rfl rfl rfl rfl rfl rfl HI.out.2.1 HI.out.2.2 rfl H6k.out (Nat.le_of_ble_eq_true rfl) rfl ?_; intro w8 hb8 hk8)
     (try simp only [PU])
     have Hb8 := Lib.hid hb8
     (try have Hown9 := Lib.hid (Hown9.out.keep hk8 (fun b _ e => .inr e)))
     (try have HKo := Lib.hid (HKo.out.trans hk8 (fun _ _ e => .inr e)))
     (try have Hrowk := Lib.hid (row_keep Hrowk.out hk8 (fun k hk e => Hg6r.out (by rw [← e]; exact (Option.some.inj hk).symm))))
     (try have Hcur := Lib.hid (hk8.blk Hcur.out (fun e => Hg6r.out e.symm)))
     have H2k := Lib.hid (hk8.blk H2k.out (blk_type H2k.out H6k.out (by decide)))
     have H3k := Lib.hid (hk8.blk H3k.out (blk_type H3k.out H6k.out (by decide)))
     have Hrk := Lib.hid (Hrk.out.keep hk8 (fun e => N.out.2.2 e.symm))
     have HKall := Lib.hid (HKall.out.trans hk8 (fun i _ e => .inr (by rw [e]; exact Hd.out.2.2.2.1)))
     have H6k := Hb8
     clear hb8 hk8
     refine wpList_nil ⟨⟨(blk_cell H2k.out 0).trans rfl, (blk_cell H3k.out 0).trans rfl⟩, ?_⟩
     refine tree_e rfl rfl ?_
     have hfit : n * 6 + 6 ≤ cur.size := by have h1 := Hcf.out.1; have h2 := Hcf.out.2.1; omega
     go_must (refine ev_store (x := .agg #[.int .i64 jk, .bool jb, .int .i64 jn, .string jt, .slice kA kl kc, .slice jA vl jc]) (vs := [.int .i64 jk, .bool jb, .int .i64 jn, .string jt, .slice kA kl kc, .slice jA vl jc]) (off := n * 6) (cs' := List.toArray (cur.toList.take (n * 6) ++ ([Value.int .i64 jk, Value.bool jb, Value.int .i64 jn, Value.string jt, Value.slice kA kl kc, Value.slice jA vl jc] : List Value) ++ cur.toList.drop (n * 6 + 6))) rfl rfl rfl rfl rfl rfl HI.out.1.1 HI.out.1.2 rfl Hcur.out hfit rfl ?_; intro w7 hb7 hk7)
     (try simp only [PU])
     have H2k' := H2k
     have h6l : g6 < W.heap.size := blk_lt H6.out
     have Hown9 := Lib.hid (RowJ.push HJc.out HV.out (fun b hb => ⟨by have := Hd.out; have := hb.1; omega, fun e => by have := hb.1; omega, fun e => by have := (row_lt HJ.out.row b e.symm).2; have := hb.1; omega, hb.2⟩) (fun b e => by have := HWc.out; rw [e]; omega) rfl (by rw [Hnn.out]; exact Hrowk.out) HKo.out Hr6.out (by rw [Hnn.out]) Hcur.out (by rw [Hnn.out]; exact hb7) hk7)
     have H2k := Lib.hid (hk7.blk H2k.out (blk_type H2k.out Hcur.out (by decide)))
     have H3k := Lib.hid (hk7.blk H3k.out (blk_type H3k.out Hcur.out (by decide)))
     have H6k := Lib.hid (hk7.blk H6k.out Hg6r.out)
     have Hrk := Lib.hid (Hrk.out.keep hk7 (blk_type Hrk.out.blk Hcur.out (by decide)))
     have HKall := Lib.hid (HKall.out.trans hk7 (fun i _ e => .inr (by rw [e]; exact Hcf.out.2.2)))
     clear hb7 hk7 hfit h6l H2k'
     refine wpList_nil ⟨⟨(blk_cell H2k.out 0).trans rfl, (blk_cell H3k.out 0).trans rfl⟩, ?_⟩
     refine tree_nil ?_
  case' nb2_5 =>
   refine tree_e rfl rfl ?b2_10
   case' b2_10 =>
    go_must (refine ev_slice (cs := #[.int .i64 0, .bool false, .int .i64 0, .string ByteArray.empty, .slice none 0 0, .slice none 0 0]) (t := 25) (n := 1) (c := 1) rfl (by first | (go_simp; done) | (go_simp; rfl)) ?_; intro gz wz hgz hlz hbz hkz)
    (try simp only [PU])
    have Hgz := Lib.hid (Nat.le_trans HK.out.size hgz)
    have Hbz := Lib.hid hbz
    (try have Hr1 := Lib.hid (Hr1.out.keep hkz id))
    (try have HV := Lib.hid (HV.out.keep (X' := fun b => W.heap.size ≤ b ∧ b < wz.heap.size) hkz (fun _ _ _ => id) (fun b hb h => ⟨h.1, Nat.lt_of_lt_of_le h.2 hkz.size⟩)))
    (try have Hr0 := Lib.hid (Rd.keep (M := Nob) Hr0.out hkz id))
    have HK := Lib.hid (HK.out.then hkz)
    clear hbz hkz hgz
    refine wpList_nil ⟨⟨HK.out.cell c2 N.out.1, HK.out.cell c3 N.out.2.1⟩, ?_⟩
    refine tree_e rfl rfl ?_
    go_wp2_with (go_at_call 80; go_must (refine (Hin.out _ Hr0.out).mono ?_; rintro e w1 ⟨⟨v1, rfl, hv1⟩, hr1, hk1⟩; obtain ⟨jk, jb, jn, jt, jks, jvs, jkv, jvv, hjj, rfl, hjk, hjv⟩ := hv1.open; obtain ⟨kA, kc, rfl, -, -⟩ := hjk; obtain ⟨jA, jc, ju, rfl, -, -, -⟩ := hjv); have hw0 := HK.out.size; have HV := Lib.hid (hv1.keep (X' := fun b => W.heap.size ≤ b ∧ b < w1.heap.size) (Keeps.refl Nob w1) (fun _ _ _ => id) (fun b hb hx => ⟨Nat.le_trans hw0 hx, hb⟩)); have Hr1 := Lib.hid hr1; have Hk1 := Lib.hid hk1; have HK := Lib.hid (HK.out.trans hk1 (fun _ _ h => h)); clear hv1 hr1 hjj hw0 hk1; generalize jks.length = kl at *; generalize jvs.length = vl at *; (try simp only [PU]))
    (try have Hbz := Lib.hid (Hk1.out.blk Hbz.out (fun e : gz = r => by have h1 : W.heap.size ≤ gz := Hgz.out; have h2 := Hd.out; omega)))
    refine ⟨⟨HK.out.cell c2 N.out.1, HK.out.cell c3 N.out.2.1⟩, ?_⟩
    refine tree_e rfl rfl ?_
    have HJc := Lib.hid (HJ.out.keep HK.out (fun b _ e => .inl (by have := Hd.out; omega)))
    have hrow7 := HJc.out.row
    rw [Hnn.out] at hrow7
    have Hrow7 := Lib.hid hrow7
    clear hrow7
    go_must (refine ev_append rfl rfl Tryd.underlying23 info25b rfl (by decide) (base := base) rfl Hrow7.out rfl (news := [.int .i64 0, .bool false, .int .i64 0, .string ByteArray.empty, .slice none 0 0, .slice none 0 0]) rfl (fun _ => ⟨_, rfl, World.news_of_block Hbz.out⟩) (by simp [Value.oneCell']) (by omega) (by decide) (by have := HK.out.size; have := Hd.out; omega) ?_; intro v6 w6 hown6 hk6 hr6 hf6; obtain ⟨gr, cap, rfl⟩ := hf6 (by decide))
    have Hr6 := Lib.hid hr6
    (try simp only [PU])
    have b2 := HK.out.blk H2.out N.out.1
    have b3 := HK.out.blk H3.out N.out.2.1
    have b6 := HK.out.blk H6.out N.out.2.2
    have H2k := Lib.hid (hk6.blk b2 (row_ne Hrow7.out b2 (by decide)))
    have H3k := Lib.hid (hk6.blk b3 (row_ne Hrow7.out b3 (by decide)))
    have H6k := Lib.hid (hk6.blk b6 (fun e => HJc.out.ne g6 e.symm rfl))
    have Hrk := Lib.hid (Hr1.out.keep hk6 (row_ne Hrow7.out Hr1.out.blk (by decide)))
    obtain ⟨cur, hcur⟩ : ∃ cur, w6.heap[gr]? = some (.cells cur 25 (0, 0)) ∧ n + 1 ≤ cap ∧ cur.size = cap * 6 ∧ base ≤ gr := by
     rcases hown6.2 with ⟨e, _⟩ | ⟨g', cap', cur, e, hb, hg', hc, hm, hs, ht⟩
     · cases e
     · injection e with e1 e2 e3
       injection e1 with e1
       injection e1 with e1
       subst e1; subst e3
       exact ⟨cur, hg', hc, hs, hb⟩
    have Hcf := Lib.hid hcur.2
    have Hcur := Lib.hid hcur.1
    have Hg6r := Lib.hid (row_notin (fun e => HJc.out.ne g6 e rfl) (blk_lt H6.out) HK.out.size hr6)
    have Hrowk := Lib.hid hown6
    have HKo := Lib.hid (hk6.mono (M' := fun k => some k = (Value.slice vA n vc).ownBlock ∨ k = g6) (fun _ _ e => .inl e))
    have HKall := Lib.hid ((keepsMR HK.out).trans hk6 (fun i hi e => .inr (row_lt HJ.out.row i e.symm).1))
    have HWc := Lib.hid HK.out.size
    have hlt1 : (n : Int) < (n : Int) + 1 := by omega
    clear hown6 hk6 hr6 hf6 b2 b3 b6 hcur
    refine wpList_nil ⟨⟨(blk_cell H2k.out 0).trans rfl, (blk_cell H3k.out 0).trans rfl⟩, ?_⟩
    refine tq (some 11) ?_; (try simp only [PU])
    refine tq (some 12) ?_; (try simp only [PU])
    refine tree_b rfl rfl ?b2_6 ?nb2_6
    case' b2_6 =>
     have hfit : n * 6 + 6 ≤ cur.size := by have h1 := Hcf.out.1; have h2 := Hcf.out.2.1; omega
     go_must (refine ev_store (x := .agg #[.int .i64 jk, .bool jb, .int .i64 jn, .string jt, .slice kA kl kc, .slice jA vl jc]) (vs := [.int .i64 jk, .bool jb, .int .i64 jn, .string jt, .slice kA kl kc, .slice jA vl jc]) (off := n * 6) (cs' := List.toArray (cur.toList.take (n * 6) ++ ([Value.int .i64 jk, Value.bool jb, Value.int .i64 jn, Value.string jt, Value.slice kA kl kc, Value.slice jA vl jc] : List Value) ++ cur.toList.drop (n * 6 + 6))) rfl rfl rfl rfl rfl rfl HI.out.1.1 HI.out.1.2 rfl Hcur.out hfit rfl ?_; intro w7 hb7 hk7)
     (try simp only [PU])
     have H2k' := H2k
     have h6l : g6 < W.heap.size := blk_lt H6.out
     have Hown9 := Lib.hid (RowJ.push HJc.out HV.out (fun b hb => ⟨by have := Hd.out; have := hb.1; omega, fun e => by have := hb.1; omega, fun e => by have := (row_lt HJ.out.row b e.symm).2; have := hb.1; omega, hb.2⟩) (fun b e => by have := HWc.out; rw [e]; omega) rfl (by rw [Hnn.out]; exact Hrowk.out) HKo.out Hr6.out (by rw [Hnn.out]) Hcur.out (by rw [Hnn.out]; exact hb7) hk7)
     have H2k := Lib.hid (hk7.blk H2k.out (blk_type H2k.out Hcur.out (by decide)))
     have H3k := Lib.hid (hk7.blk H3k.out (blk_type H3k.out Hcur.out (by decide)))
     have H6k := Lib.hid (hk7.blk H6k.out Hg6r.out)
     have Hrk := Lib.hid (Hrk.out.keep hk7 (blk_type Hrk.out.blk Hcur.out (by decide)))
     have HKall := Lib.hid (HKall.out.trans hk7 (fun i _ e => .inr (by rw [e]; exact Hcf.out.2.2)))
     clear hb7 hk7 hfit h6l H2k'
     refine wpList_nil ⟨⟨(blk_cell H2k.out 0).trans rfl, (blk_cell H3k.out 0).trans rfl⟩, ?_⟩
     refine tree_e rfl rfl ?_
     go_must (refine ev_store (cs' := #[y0, y1, y2, y3, y4, .slice (some ⟨gr, 0, none⟩) (n + 1) cap]) rfl rfl rfl rfl rfl rfl HI.out.2.1 HI.out.2.2 rfl H6k.out (Nat.le_of_ble_eq_true rfl) rfl ?_; intro w8 hb8 hk8)
     (try simp only [PU])
     have Hb8 := Lib.hid hb8
     (try have Hown9 := Lib.hid (Hown9.out.keep hk8 (fun b _ e => .inr e)))
     (try have HKo := Lib.hid (HKo.out.trans hk8 (fun _ _ e => .inr e)))
     (try have Hrowk := Lib.hid (row_keep Hrowk.out hk8 (fun k hk e => Hg6r.out (by rw [← e]; exact (Option.some.inj hk).symm))))
     (try have Hcur := Lib.hid (hk8.blk Hcur.out (fun e => Hg6r.out e.symm)))
     have H2k := Lib.hid (hk8.blk H2k.out (blk_type H2k.out H6k.out (by decide)))
     have H3k := Lib.hid (hk8.blk H3k.out (blk_type H3k.out H6k.out (by decide)))
     have Hrk := Lib.hid (Hrk.out.keep hk8 (fun e => N.out.2.2 e.symm))
     have HKall := Lib.hid (HKall.out.trans hk8 (fun i _ e => .inr (by rw [e]; exact Hd.out.2.2.2.1)))
     have H6k := Hb8
     clear hb8 hk8
     refine wpList_nil ⟨⟨(blk_cell H2k.out 0).trans rfl, (blk_cell H3k.out 0).trans rfl⟩, ?_⟩
     refine tree_nil ?_
    case' nb2_6 =>
     refine tree_e rfl rfl ?b2_7
     case' b2_7 =>
      go_must (refine ev_store (cs' := #[y0, y1, y2, y3, y4, .slice (some ⟨gr, 0, none⟩) (n + 1) cap]) rfl rfl rfl rfl rfl rfl HI.out.2.1 HI.out.2.2 rfl H6k.out (Nat.le_of_ble_eq_true rfl) rfl ?_; intro w8 hb8 hk8)
      (try simp only [PU])
      have Hb8 := Lib.hid hb8
      (try have Hown9 := Lib.hid (Hown9.out.keep hk8 (fun b _ e => .inr e)))
      (try have HKo := Lib.hid (HKo.out.trans hk8 (fun _ _ e => .inr e)))
      (try have Hrowk := Lib.hid (row_keep Hrowk.out hk8 (fun k hk e => Hg6r.out (by rw [← e]; exact (Option.some.inj hk).symm))))
      (try have Hcur := Lib.hid (hk8.blk Hcur.out (fun e => Hg6r.out e.symm)))
      have H2k := Lib.hid (hk8.blk H2k.out (blk_type H2k.out H6k.out (by decide)))
      have H3k := Lib.hid (hk8.blk H3k.out (blk_type H3k.out H6k.out (by decide)))
      have Hrk := Lib.hid (Hrk.out.keep hk8 (fun e => N.out.2.2 e.symm))
      have HKall := Lib.hid (HKall.out.trans hk8 (fun i _ e => .inr (by rw [e]; exact Hd.out.2.2.2.1)))
      have H6k := Hb8
      clear hb8 hk8
      refine wpList_nil ⟨⟨(blk_cell H2k.out 0).trans rfl, (blk_cell H3k.out 0).trans rfl⟩, ?_⟩
      refine tree_e rfl rfl ?_
      have hfit : n * 6 + 6 ≤ cur.size := by have h1 := Hcf.out.1; have h2 := Hcf.out.2.1; omega
      go_must (refine ev_store (x := .agg #[.int .i64 jk, .bool jb, .int .i64 jn, .string jt, .slice kA kl kc, .slice jA vl jc]) (vs := [.int .i64 jk, .bool jb, .int .i64 jn, .string jt, .slice kA kl kc, .slice jA vl jc]) (off := n * 6) (cs' := List.toArray (cur.toList.take (n * 6) ++ ([Value.int .i64 jk, Value.bool jb, Value.int .i64 jn, Value.string jt, Value.slice kA kl kc, Value.slice jA vl jc] : List Value) ++ cur.toList.drop (n * 6 + 6))) rfl rfl rfl rfl rfl rfl HI.out.1.1 HI.out.1.2 rfl Hcur.out hfit rfl ?_; intro w7 hb7 hk7)
      (try simp only [PU])
      have H2k' := H2k
      have h6l : g6 < W.heap.size := blk_lt H6.out
      have Hown9 := Lib.hid (RowJ.push HJc.out HV.out (fun b hb => ⟨by have := Hd.out; have := hb.1; omega, fun e => by have := hb.1; omega, fun e => by have := (row_lt HJ.out.row b e.symm).2; have := hb.1; omega, hb.2⟩) (fun b e => by have := HWc.out; rw [e]; omega) rfl (by rw [Hnn.out]; exact Hrowk.out) HKo.out Hr6.out (by rw [Hnn.out]) Hcur.out (by rw [Hnn.out]; exact hb7) hk7)
      have H2k := Lib.hid (hk7.blk H2k.out (blk_type H2k.out Hcur.out (by decide)))
      have H3k := Lib.hid (hk7.blk H3k.out (blk_type H3k.out Hcur.out (by decide)))
      have H6k := Lib.hid (hk7.blk H6k.out Hg6r.out)
      have Hrk := Lib.hid (Hrk.out.keep hk7 (blk_type Hrk.out.blk Hcur.out (by decide)))
      have HKall := Lib.hid (HKall.out.trans hk7 (fun i _ e => .inr (by rw [e]; exact Hcf.out.2.2)))
      clear hb7 hk7 hfit h6l H2k'
      refine wpList_nil ⟨⟨(blk_cell H2k.out 0).trans rfl, (blk_cell H3k.out 0).trans rfl⟩, ?_⟩
      refine tree_nil ?_
 case' nb2_12 =>
  refine tree_b rfl rfl ?b2_25 ?nb2_25
  case' b2_25 =>
   go_wp2_with (go_at_call 80; go_must (refine (Hin.out _ Hr0.out).mono ?_; rintro e w1 ⟨⟨v1, rfl, hv1⟩, hr1, hk1⟩; obtain ⟨jk, jb, jn, jt, jks, jvs, jkv, jvv, hjj, rfl, hjk, hjv⟩ := hv1.open; obtain ⟨kA, kc, rfl, -, -⟩ := hjk; obtain ⟨jA, jc, ju, rfl, -, -, -⟩ := hjv); have hw0 := HK.out.size; have HV := Lib.hid (hv1.keep (X' := fun b => W.heap.size ≤ b ∧ b < w1.heap.size) (Keeps.refl Nob w1) (fun _ _ _ => id) (fun b hb hx => ⟨Nat.le_trans hw0 hx, hb⟩)); have Hr1 := Lib.hid hr1; have Hk1 := Lib.hid hk1; have HK := Lib.hid (HK.out.trans hk1 (fun _ _ h => h)); clear hv1 hr1 hjj hw0 hk1; generalize jks.length = kl at *; generalize jvs.length = vl at *; (try simp only [PU]))
   (try have Hbz := Lib.hid (Hk1.out.blk Hbz.out (fun e : gz = r => by have h1 : W.heap.size ≤ gz := Hgz.out; have h2 := Hd.out; omega)))
   refine ⟨⟨HK.out.cell c2 N.out.1, HK.out.cell c3 N.out.2.1⟩, ?_⟩
   refine tree_b rfl rfl ?b2_18 ?nb2_18
   case' b2_18 =>
    have c6 := HK.out.cell ((blk_cell H6.out 5).trans rfl) N.out.2.2
    rw [Hnn.out] at c6
    go_wp2_with fail
    clear c6
    refine ⟨⟨HK.out.cell c2 N.out.1, HK.out.cell c3 N.out.2.1⟩, ?_⟩
    refine tq (some 8) ?_; (try simp only [PU])
    refine tree_e rfl rfl ?_
    go_must (refine ev_slice (cs := #[.int .i64 0, .bool false, .int .i64 0, .string ByteArray.empty, .slice none 0 0, .slice none 0 0]) (t := 25) (n := 1) (c := 1) rfl (by first | (go_simp; done) | (go_simp; rfl)) ?_; intro gz wz hgz hlz hbz hkz)
    (try simp only [PU])
    have Hgz := Lib.hid (Nat.le_trans HK.out.size hgz)
    have Hbz := Lib.hid hbz
    (try have Hr1 := Lib.hid (Hr1.out.keep hkz id))
    (try have HV := Lib.hid (HV.out.keep (X' := fun b => W.heap.size ≤ b ∧ b < wz.heap.size) hkz (fun _ _ _ => id) (fun b hb h => ⟨h.1, Nat.lt_of_lt_of_le h.2 hkz.size⟩)))
    (try have Hr0 := Lib.hid (Rd.keep (M := Nob) Hr0.out hkz id))
    have HK := Lib.hid (HK.out.then hkz)
    clear hbz hkz hgz
    refine wpList_nil ⟨⟨HK.out.cell c2 N.out.1, HK.out.cell c3 N.out.2.1⟩, ?_⟩
    refine tree_e rfl rfl ?_
    have HJc := Lib.hid (HJ.out.keep HK.out (fun b _ e => .inl (by have := Hd.out; omega)))
    have hrow7 := HJc.out.row
    rw [Hnn.out] at hrow7
    have Hrow7 := Lib.hid hrow7
    clear hrow7
    go_must (refine ev_append rfl rfl Tryd.underlying23 info25b rfl (by decide) (base := base) rfl Hrow7.out rfl (news := [.int .i64 0, .bool false, .int .i64 0, .string ByteArray.empty, .slice none 0 0, .slice none 0 0]) rfl (fun _ => ⟨_, rfl, World.news_of_block Hbz.out⟩) (by simp [Value.oneCell']) (by omega) (by decide) (by have := HK.out.size; have := Hd.out; omega) ?_; intro v6 w6 hown6 hk6 hr6 hf6; obtain ⟨gr, cap, rfl⟩ := hf6 (by decide))
    have Hr6 := Lib.hid hr6
    (try simp only [PU])
    have b2 := HK.out.blk H2.out N.out.1
    have b3 := HK.out.blk H3.out N.out.2.1
    have b6 := HK.out.blk H6.out N.out.2.2
    have H2k := Lib.hid (hk6.blk b2 (row_ne Hrow7.out b2 (by decide)))
    have H3k := Lib.hid (hk6.blk b3 (row_ne Hrow7.out b3 (by decide)))
    have H6k := Lib.hid (hk6.blk b6 (fun e => HJc.out.ne g6 e.symm rfl))
    have Hrk := Lib.hid (Hr1.out.keep hk6 (row_ne Hrow7.out Hr1.out.blk (by decide)))
    obtain ⟨cur, hcur⟩ : ∃ cur, w6.heap[gr]? = some (.cells cur 25 (0, 0)) ∧ n + 1 ≤ cap ∧ cur.size = cap * 6 ∧ base ≤ gr := by
     rcases hown6.2 with ⟨e, _⟩ | ⟨g', cap', cur, e, hb, hg', hc, hm, hs, ht⟩
     · cases e
     · injection e with e1 e2 e3
       injection e1 with e1
       injection e1 with e1
       subst e1; subst e3
       exact ⟨cur, hg', hc, hs, hb⟩
    have Hcf := Lib.hid hcur.2
    have Hcur := Lib.hid hcur.1
    have Hg6r := Lib.hid (row_notin (fun e => HJc.out.ne g6 e rfl) (blk_lt H6.out) HK.out.size hr6)
    have Hrowk := Lib.hid hown6
    have HKo := Lib.hid (hk6.mono (M' := fun k => some k = (Value.slice vA n vc).ownBlock ∨ k = g6) (fun _ _ e => .inl e))
    have HKall := Lib.hid ((keepsMR HK.out).trans hk6 (fun i hi e => .inr (row_lt HJ.out.row i e.symm).1))
    have HWc := Lib.hid HK.out.size
    have hlt1 : (n : Int) < (n : Int) + 1 := by omega
    clear hown6 hk6 hr6 hf6 b2 b3 b6 hcur
    refine wpList_nil ⟨⟨(blk_cell H2k.out 0).trans rfl, (blk_cell H3k.out 0).trans rfl⟩, ?_⟩
    refine tq (some 11) ?_; (try simp only [PU])
    refine tq (some 12) ?_; (try simp only [PU])
    refine tree_b rfl rfl ?b2_13 ?nb2_13
    case' b2_13 =>
     have hfit : n * 6 + 6 ≤ cur.size := by have h1 := Hcf.out.1; have h2 := Hcf.out.2.1; omega
     go_must (refine ev_store (x := .agg #[.int .i64 jk, .bool jb, .int .i64 jn, .string jt, .slice kA kl kc, .slice jA vl jc]) (vs := [.int .i64 jk, .bool jb, .int .i64 jn, .string jt, .slice kA kl kc, .slice jA vl jc]) (off := n * 6) (cs' := List.toArray (cur.toList.take (n * 6) ++ ([Value.int .i64 jk, Value.bool jb, Value.int .i64 jn, Value.string jt, Value.slice kA kl kc, Value.slice jA vl jc] : List Value) ++ cur.toList.drop (n * 6 + 6))) rfl rfl rfl rfl rfl rfl HI.out.1.1 HI.out.1.2 rfl Hcur.out hfit rfl ?_; intro w7 hb7 hk7)
     (try simp only [PU])
     have H2k' := H2k
     have h6l : g6 < W.heap.size := blk_lt H6.out
     have Hown9 := Lib.hid (RowJ.push HJc.out HV.out (fun b hb => ⟨by have := Hd.out; have := hb.1; omega, fun e => by have := hb.1; omega, fun e => by have := (row_lt HJ.out.row b e.symm).2; have := hb.1; omega, hb.2⟩) (fun b e => by have := HWc.out; rw [e]; omega) rfl (by rw [Hnn.out]; exact Hrowk.out) HKo.out Hr6.out (by rw [Hnn.out]) Hcur.out (by rw [Hnn.out]; exact hb7) hk7)
     have H2k := Lib.hid (hk7.blk H2k.out (blk_type H2k.out Hcur.out (by decide)))
     have H3k := Lib.hid (hk7.blk H3k.out (blk_type H3k.out Hcur.out (by decide)))
     have H6k := Lib.hid (hk7.blk H6k.out Hg6r.out)
     have Hrk := Lib.hid (Hrk.out.keep hk7 (blk_type Hrk.out.blk Hcur.out (by decide)))
     have HKall := Lib.hid (HKall.out.trans hk7 (fun i _ e => .inr (by rw [e]; exact Hcf.out.2.2)))
     clear hb7 hk7 hfit h6l H2k'
     refine wpList_nil ⟨⟨(blk_cell H2k.out 0).trans rfl, (blk_cell H3k.out 0).trans rfl⟩, ?_⟩
     refine tree_e rfl rfl ?_
     go_must (refine ev_store (cs' := #[y0, y1, y2, y3, y4, .slice (some ⟨gr, 0, none⟩) (n + 1) cap]) rfl rfl rfl rfl rfl rfl HI.out.2.1 HI.out.2.2 rfl H6k.out (Nat.le_of_ble_eq_true rfl) rfl ?_; intro w8 hb8 hk8)
     (try simp only [PU])
     have Hb8 := Lib.hid hb8
     (try have Hown9 := Lib.hid (Hown9.out.keep hk8 (fun b _ e => .inr e)))
     (try have HKo := Lib.hid (HKo.out.trans hk8 (fun _ _ e => .inr e)))
     (try have Hrowk := Lib.hid (row_keep Hrowk.out hk8 (fun k hk e => Hg6r.out (by rw [← e]; exact (Option.some.inj hk).symm))))
     (try have Hcur := Lib.hid (hk8.blk Hcur.out (fun e => Hg6r.out e.symm)))
     have H2k := Lib.hid (hk8.blk H2k.out (blk_type H2k.out H6k.out (by decide)))
     have H3k := Lib.hid (hk8.blk H3k.out (blk_type H3k.out H6k.out (by decide)))
     have Hrk := Lib.hid (Hrk.out.keep hk8 (fun e => N.out.2.2 e.symm))
     have HKall := Lib.hid (HKall.out.trans hk8 (fun i _ e => .inr (by rw [e]; exact Hd.out.2.2.2.1)))
     have H6k := Hb8
     clear hb8 hk8
     refine wpList_nil ⟨⟨(blk_cell H2k.out 0).trans rfl, (blk_cell H3k.out 0).trans rfl⟩, ?_⟩
     refine tree_nil ?_
    case' nb2_13 =>
     refine tree_e rfl rfl ?b2_14
     case' b2_14 =>
      go_must (refine ev_store (cs' := #[y0, y1, y2, y3, y4, .slice (some ⟨gr, 0, none⟩) (n + 1) cap]) rfl rfl rfl rfl rfl rfl HI.out.2.1 HI.out.2.2 rfl H6k.out (Nat.le_of_ble_eq_true rfl) rfl ?_; intro w8 hb8 hk8)
      (try simp only [PU])
      have Hb8 := Lib.hid hb8
      (try have Hown9 := Lib.hid (Hown9.out.keep hk8 (fun b _ e => .inr e)))
      (try have HKo := Lib.hid (HKo.out.trans hk8 (fun _ _ e => .inr e)))
      (try have Hrowk := Lib.hid (row_keep Hrowk.out hk8 (fun k hk e => Hg6r.out (by rw [← e]; exact (Option.some.inj hk).symm))))
      (try have Hcur := Lib.hid (hk8.blk Hcur.out (fun e => Hg6r.out e.symm)))
      have H2k := Lib.hid (hk8.blk H2k.out (blk_type H2k.out H6k.out (by decide)))
      have H3k := Lib.hid (hk8.blk H3k.out (blk_type H3k.out H6k.out (by decide)))
      have Hrk := Lib.hid (Hrk.out.keep hk8 (fun e => N.out.2.2 e.symm))
      have HKall := Lib.hid (HKall.out.trans hk8 (fun i _ e => .inr (by rw [e]; exact Hd.out.2.2.2.1)))
      have H6k := Hb8
      clear hb8 hk8
      refine wpList_nil ⟨⟨(blk_cell H2k.out 0).trans rfl, (blk_cell H3k.out 0).trans rfl⟩, ?_⟩
      refine tree_e rfl rfl ?_
      have hfit : n * 6 + 6 ≤ cur.size := by have h1 := Hcf.out.1; have h2 := Hcf.out.2.1; omega
      go_must (refine ev_store (x := .agg #[.int .i64 jk, .bool jb, .int .i64 jn, .string jt, .slice kA kl kc, .slice jA vl jc]) (vs := [.int .i64 jk, .bool jb, .int .i64 jn, .string jt, .slice kA kl kc, .slice jA vl jc]) (off := n * 6) (cs' := List.toArray (cur.toList.take (n * 6) ++ ([Value.int .i64 jk, Value.bool jb, Value.int .i64 jn, Value.string jt, Value.slice kA kl kc, Value.slice jA vl jc] : List Value) ++ cur.toList.drop (n * 6 + 6))) rfl rfl rfl rfl rfl rfl HI.out.1.1 HI.out.1.2 rfl Hcur.out hfit rfl ?_; intro w7 hb7 hk7)
      (try simp only [PU])
      have H2k' := H2k
      have h6l : g6 < W.heap.size := blk_lt H6.out
      have Hown9 := Lib.hid (RowJ.push HJc.out HV.out (fun b hb => ⟨by have := Hd.out; have := hb.1; omega, fun e => by have := hb.1; omega, fun e => by have := (row_lt HJ.out.row b e.symm).2; have := hb.1; omega, hb.2⟩) (fun b e => by have := HWc.out; rw [e]; omega) rfl (by rw [Hnn.out]; exact Hrowk.out) HKo.out Hr6.out (by rw [Hnn.out]) Hcur.out (by rw [Hnn.out]; exact hb7) hk7)
      have H2k := Lib.hid (hk7.blk H2k.out (blk_type H2k.out Hcur.out (by decide)))
      have H3k := Lib.hid (hk7.blk H3k.out (blk_type H3k.out Hcur.out (by decide)))
      have H6k := Lib.hid (hk7.blk H6k.out Hg6r.out)
      have Hrk := Lib.hid (Hrk.out.keep hk7 (blk_type Hrk.out.blk Hcur.out (by decide)))
      have HKall := Lib.hid (HKall.out.trans hk7 (fun i _ e => .inr (by rw [e]; exact Hcf.out.2.2)))
      clear hb7 hk7 hfit h6l H2k'
      refine wpList_nil ⟨⟨(blk_cell H2k.out 0).trans rfl, (blk_cell H3k.out 0).trans rfl⟩, ?_⟩
      refine tree_nil ?_
   case' nb2_18 =>
    refine tree_e rfl rfl ?b2_24
    case' b2_24 =>
     go_must (refine ev_slice (cs := #[.int .i64 0, .bool false, .int .i64 0, .string ByteArray.empty, .slice none 0 0, .slice none 0 0]) (t := 25) (n := 1) (c := 1) rfl (by first | (go_simp; done) | (go_simp; rfl)) ?_; intro gz wz hgz hlz hbz hkz)
     (try simp only [PU])
     have Hgz := Lib.hid (Nat.le_trans HK.out.size hgz)
     have Hbz := Lib.hid hbz
     (try have Hr1 := Lib.hid (Hr1.out.keep hkz id))
     (try have HV := Lib.hid (HV.out.keep (X' := fun b => W.heap.size ≤ b ∧ b < wz.heap.size) hkz (fun _ _ _ => id) (fun b hb h => ⟨h.1, Nat.lt_of_lt_of_le h.2 hkz.size⟩)))
     (try have Hr0 := Lib.hid (Rd.keep (M := Nob) Hr0.out hkz id))
     have HK := Lib.hid (HK.out.then hkz)
     clear hbz hkz hgz
     refine wpList_nil ⟨⟨HK.out.cell c2 N.out.1, HK.out.cell c3 N.out.2.1⟩, ?_⟩
     refine tree_e rfl rfl ?_
     have c6 := HK.out.cell ((blk_cell H6.out 5).trans rfl) N.out.2.2
     rw [Hnn.out] at c6
     go_wp2_with fail
     clear c6
     refine ⟨⟨HK.out.cell c2 N.out.1, HK.out.cell c3 N.out.2.1⟩, ?_⟩
     refine tq (some 8) ?_; (try simp only [PU])
     refine tree_e rfl rfl ?_
     have HJc := Lib.hid (HJ.out.keep HK.out (fun b _ e => .inl (by have := Hd.out; omega)))
     have hrow7 := HJc.out.row
     rw [Hnn.out] at hrow7
     have Hrow7 := Lib.hid hrow7
     clear hrow7
     go_must (refine ev_append rfl rfl Tryd.underlying23 info25b rfl (by decide) (base := base) rfl Hrow7.out rfl (news := [.int .i64 0, .bool false, .int .i64 0, .string ByteArray.empty, .slice none 0 0, .slice none 0 0]) rfl (fun _ => ⟨_, rfl, World.news_of_block Hbz.out⟩) (by simp [Value.oneCell']) (by omega) (by decide) (by have := HK.out.size; have := Hd.out; omega) ?_; intro v6 w6 hown6 hk6 hr6 hf6; obtain ⟨gr, cap, rfl⟩ := hf6 (by decide))
     have Hr6 := Lib.hid hr6
     (try simp only [PU])
     have b2 := HK.out.blk H2.out N.out.1
     have b3 := HK.out.blk H3.out N.out.2.1
     have b6 := HK.out.blk H6.out N.out.2.2
     have H2k := Lib.hid (hk6.blk b2 (row_ne Hrow7.out b2 (by decide)))
     have H3k := Lib.hid (hk6.blk b3 (row_ne Hrow7.out b3 (by decide)))
     have H6k := Lib.hid (hk6.blk b6 (fun e => HJc.out.ne g6 e.symm rfl))
     have Hrk := Lib.hid (Hr1.out.keep hk6 (row_ne Hrow7.out Hr1.out.blk (by decide)))
     obtain ⟨cur, hcur⟩ : ∃ cur, w6.heap[gr]? = some (.cells cur 25 (0, 0)) ∧ n + 1 ≤ cap ∧ cur.size = cap * 6 ∧ base ≤ gr := by
      rcases hown6.2 with ⟨e, _⟩ | ⟨g', cap', cur, e, hb, hg', hc, hm, hs, ht⟩
      · cases e
      · injection e with e1 e2 e3
        injection e1 with e1
        injection e1 with e1
        subst e1; subst e3
        exact ⟨cur, hg', hc, hs, hb⟩
     have Hcf := Lib.hid hcur.2
     have Hcur := Lib.hid hcur.1
     have Hg6r := Lib.hid (row_notin (fun e => HJc.out.ne g6 e rfl) (blk_lt H6.out) HK.out.size hr6)
     have Hrowk := Lib.hid hown6
     have HKo := Lib.hid (hk6.mono (M' := fun k => some k = (Value.slice vA n vc).ownBlock ∨ k = g6) (fun _ _ e => .inl e))
     have HKall := Lib.hid ((keepsMR HK.out).trans hk6 (fun i hi e => .inr (row_lt HJ.out.row i e.symm).1))
     have HWc := Lib.hid HK.out.size
     have hlt1 : (n : Int) < (n : Int) + 1 := by omega
     clear hown6 hk6 hr6 hf6 b2 b3 b6 hcur
     refine wpList_nil ⟨⟨(blk_cell H2k.out 0).trans rfl, (blk_cell H3k.out 0).trans rfl⟩, ?_⟩
     refine tq (some 11) ?_; (try simp only [PU])
     refine tq (some 12) ?_; (try simp only [PU])
     refine tree_b rfl rfl ?b2_19 ?nb2_19
     case' b2_19 =>
      have hfit : n * 6 + 6 ≤ cur.size := by have h1 := Hcf.out.1; have h2 := Hcf.out.2.1; omega
      go_must (refine ev_store (x := .agg #[.int .i64 jk, .bool jb, .int .i64 jn, .string jt, .slice kA kl kc, .slice jA vl jc]) (vs := [.int .i64 jk, .bool jb, .int .i64 jn, .string jt, .slice kA kl kc, .slice jA vl jc]) (off := n * 6) (cs' := List.toArray (cur.toList.take (n * 6) ++ ([Value.int .i64 jk, Value.bool jb, Value.int .i64 jn, Value.string jt, Value.slice kA kl kc, Value.slice jA vl jc] : List Value) ++ cur.toList.drop (n * 6 + 6))) rfl rfl rfl rfl rfl rfl HI.out.1.1 HI.out.1.2 rfl Hcur.out hfit rfl ?_; intro w7 hb7 hk7)
      (try simp only [PU])
      have H2k' := H2k
      have h6l : g6 < W.heap.size := blk_lt H6.out
      have Hown9 := Lib.hid (RowJ.push HJc.out HV.out (fun b hb => ⟨by have := Hd.out; have := hb.1; omega, fun e => by have := hb.1; omega, fun e => by have := (row_lt HJ.out.row b e.symm).2; have := hb.1; omega, hb.2⟩) (fun b e => by have := HWc.out; rw [e]; omega) rfl (by rw [Hnn.out]; exact Hrowk.out) HKo.out Hr6.out (by rw [Hnn.out]) Hcur.out (by rw [Hnn.out]; exact hb7) hk7)
      have H2k := Lib.hid (hk7.blk H2k.out (blk_type H2k.out Hcur.out (by decide)))
      have H3k := Lib.hid (hk7.blk H3k.out (blk_type H3k.out Hcur.out (by decide)))
      have H6k := Lib.hid (hk7.blk H6k.out Hg6r.out)
      have Hrk := Lib.hid (Hrk.out.keep hk7 (blk_type Hrk.out.blk Hcur.out (by decide)))
      have HKall := Lib.hid (HKall.out.trans hk7 (fun i _ e => .inr (by rw [e]; exact Hcf.out.2.2)))
      clear hb7 hk7 hfit h6l H2k'
      refine wpList_nil ⟨⟨(blk_cell H2k.out 0).trans rfl, (blk_cell H3k.out 0).trans rfl⟩, ?_⟩
      refine tree_e rfl rfl ?_
      go_must (refine ev_store (cs' := #[y0, y1, y2, y3, y4, .slice (some ⟨gr, 0, none⟩) (n + 1) cap]) rfl rfl rfl rfl rfl rfl HI.out.2.1 HI.out.2.2 rfl H6k.out (Nat.le_of_ble_eq_true rfl) rfl ?_; intro w8 hb8 hk8)
      (try simp only [PU])
      have Hb8 := Lib.hid hb8
      (try have Hown9 := Lib.hid (Hown9.out.keep hk8 (fun b _ e => .inr e)))
      (try have HKo := Lib.hid (HKo.out.trans hk8 (fun _ _ e => .inr e)))
      (try have Hrowk := Lib.hid (row_keep Hrowk.out hk8 (fun k hk e => Hg6r.out (by rw [← e]; exact (Option.some.inj hk).symm))))
      (try have Hcur := Lib.hid (hk8.blk Hcur.out (fun e => Hg6r.out e.symm)))
      have H2k := Lib.hid (hk8.blk H2k.out (blk_type H2k.out H6k.out (by decide)))
      have H3k := Lib.hid (hk8.blk H3k.out (blk_type H3k.out H6k.out (by decide)))
      have Hrk := Lib.hid (Hrk.out.keep hk8 (fun e => N.out.2.2 e.symm))
      have HKall := Lib.hid (HKall.out.trans hk8 (fun i _ e => .inr (by rw [e]; exact Hd.out.2.2.2.1)))
      have H6k := Hb8
      clear hb8 hk8
      refine wpList_nil ⟨⟨(blk_cell H2k.out 0).trans rfl, (blk_cell H3k.out 0).trans rfl⟩, ?_⟩
      refine tree_nil ?_
     case' nb2_19 =>
      refine tree_e rfl rfl ?b2_20
      case' b2_20 =>
       go_must (refine ev_store (cs' := #[y0, y1, y2, y3, y4, .slice (some ⟨gr, 0, none⟩) (n + 1) cap]) rfl rfl rfl rfl rfl rfl HI.out.2.1 HI.out.2.2 rfl H6k.out (Nat.le_of_ble_eq_true rfl) rfl ?_; intro w8 hb8 hk8)
       (try simp only [PU])
       have Hb8 := Lib.hid hb8
       (try have Hown9 := Lib.hid (Hown9.out.keep hk8 (fun b _ e => .inr e)))
       (try have HKo := Lib.hid (HKo.out.trans hk8 (fun _ _ e => .inr e)))
       (try have Hrowk := Lib.hid (row_keep Hrowk.out hk8 (fun k hk e => Hg6r.out (by rw [← e]; exact (Option.some.inj hk).symm))))
       (try have Hcur := Lib.hid (hk8.blk Hcur.out (fun e => Hg6r.out e.symm)))
       have H2k := Lib.hid (hk8.blk H2k.out (blk_type H2k.out H6k.out (by decide)))
       have H3k := Lib.hid (hk8.blk H3k.out (blk_type H3k.out H6k.out (by decide)))
       have Hrk := Lib.hid (Hrk.out.keep hk8 (fun e => N.out.2.2 e.symm))
       have HKall := Lib.hid (HKall.out.trans hk8 (fun i _ e => .inr (by rw [e]; exact Hd.out.2.2.2.1)))
       have H6k := Hb8
       clear hb8 hk8
       refine wpList_nil ⟨⟨(blk_cell H2k.out 0).trans rfl, (blk_cell H3k.out 0).trans rfl⟩, ?_⟩
       refine tree_e rfl rfl ?_
       have hfit : n * 6 + 6 ≤ cur.size := by have h1 := Hcf.out.1; have h2 := Hcf.out.2.1; omega
       go_must (refine ev_store (x := .agg #[.int .i64 jk, .bool jb, .int .i64 jn, .string jt, .slice kA kl kc, .slice jA vl jc]) (vs := [.int .i64 jk, .bool jb, .int .i64 jn, .string jt, .slice kA kl kc, .slice jA vl jc]) (off := n * 6) (cs' := List.toArray (cur.toList.take (n * 6) ++ ([Value.int .i64 jk, Value.bool jb, Value.int .i64 jn, Value.string jt, Value.slice kA kl kc, Value.slice jA vl jc] : List Value) ++ cur.toList.drop (n * 6 + 6))) rfl rfl rfl rfl rfl rfl HI.out.1.1 HI.out.1.2 rfl Hcur.out hfit rfl ?_; intro w7 hb7 hk7)
       (try simp only [PU])
       have H2k' := H2k
       have h6l : g6 < W.heap.size := blk_lt H6.out
       have Hown9 := Lib.hid (RowJ.push HJc.out HV.out (fun b hb => ⟨by have := Hd.out; have := hb.1; omega, fun e => by have := hb.1; omega, fun e => by have := (row_lt HJ.out.row b e.symm).2; have := hb.1; omega, hb.2⟩) (fun b e => by have := HWc.out; rw [e]; omega) rfl (by rw [Hnn.out]; exact Hrowk.out) HKo.out Hr6.out (by rw [Hnn.out]) Hcur.out (by rw [Hnn.out]; exact hb7) hk7)
       have H2k := Lib.hid (hk7.blk H2k.out (blk_type H2k.out Hcur.out (by decide)))
       have H3k := Lib.hid (hk7.blk H3k.out (blk_type H3k.out Hcur.out (by decide)))
       have H6k := Lib.hid (hk7.blk H6k.out Hg6r.out)
       have Hrk := Lib.hid (Hrk.out.keep hk7 (blk_type Hrk.out.blk Hcur.out (by decide)))
       have HKall := Lib.hid (HKall.out.trans hk7 (fun i _ e => .inr (by rw [e]; exact Hcf.out.2.2)))
       clear hb7 hk7 hfit h6l H2k'
       refine wpList_nil ⟨⟨(blk_cell H2k.out 0).trans rfl, (blk_cell H3k.out 0).trans rfl⟩, ?_⟩
       refine tree_nil ?_
  case' nb2_25 =>
   refine tree_e rfl rfl ?b2_38
   case' b2_38 =>
    go_must (refine ev_slice (cs := #[.int .i64 0, .bool false, .int .i64 0, .string ByteArray.empty, .slice none 0 0, .slice none 0 0]) (t := 25) (n := 1) (c := 1) rfl (by first | (go_simp; done) | (go_simp; rfl)) ?_; intro gz wz hgz hlz hbz hkz)
    (try simp only [PU])
    have Hgz := Lib.hid (Nat.le_trans HK.out.size hgz)
    have Hbz := Lib.hid hbz
    (try have Hr1 := Lib.hid (Hr1.out.keep hkz id))
    (try have HV := Lib.hid (HV.out.keep (X' := fun b => W.heap.size ≤ b ∧ b < wz.heap.size) hkz (fun _ _ _ => id) (fun b hb h => ⟨h.1, Nat.lt_of_lt_of_le h.2 hkz.size⟩)))
    (try have Hr0 := Lib.hid (Rd.keep (M := Nob) Hr0.out hkz id))
    have HK := Lib.hid (HK.out.then hkz)
    clear hbz hkz hgz
    refine wpList_nil ⟨⟨HK.out.cell c2 N.out.1, HK.out.cell c3 N.out.2.1⟩, ?_⟩
    refine tree_b rfl rfl ?b2_31 ?nb2_31
    case' b2_31 =>
     have c6 := HK.out.cell ((blk_cell H6.out 5).trans rfl) N.out.2.2
     rw [Hnn.out] at c6
     go_wp2_with fail
     clear c6
     refine ⟨⟨HK.out.cell c2 N.out.1, HK.out.cell c3 N.out.2.1⟩, ?_⟩
     refine tq (some 8) ?_; (try simp only [PU])
     refine tree_e rfl rfl ?_
     go_wp2_with (go_at_call 80; go_must (refine (Hin.out _ Hr0.out).mono ?_; rintro e w1 ⟨⟨v1, rfl, hv1⟩, hr1, hk1⟩; obtain ⟨jk, jb, jn, jt, jks, jvs, jkv, jvv, hjj, rfl, hjk, hjv⟩ := hv1.open; obtain ⟨kA, kc, rfl, -, -⟩ := hjk; obtain ⟨jA, jc, ju, rfl, -, -, -⟩ := hjv); have hw0 := HK.out.size; have HV := Lib.hid (hv1.keep (X' := fun b => W.heap.size ≤ b ∧ b < w1.heap.size) (Keeps.refl Nob w1) (fun _ _ _ => id) (fun b hb hx => ⟨Nat.le_trans hw0 hx, hb⟩)); have Hr1 := Lib.hid hr1; have Hk1 := Lib.hid hk1; have HK := Lib.hid (HK.out.trans hk1 (fun _ _ h => h)); clear hv1 hr1 hjj hw0 hk1; generalize jks.length = kl at *; generalize jvs.length = vl at *; (try simp only [PU]))
     (try have Hbz := Lib.hid (Hk1.out.blk Hbz.out (fun e : gz = r => by have h1 : W.heap.size ≤ gz := Hgz.out; have h2 := Hd.out; omega)))
     refine ⟨⟨HK.out.cell c2 N.out.1, HK.out.cell c3 N.out.2.1⟩, ?_⟩
     refine tree_e rfl rfl ?_
     have HJc := Lib.hid (HJ.out.keep HK.out (fun b _ e => .inl (by have := Hd.out; omega)))
     have hrow7 := HJc.out.row
     rw [Hnn.out] at hrow7
     have Hrow7 := Lib.hid hrow7
     clear hrow7
     go_must (refine ev_append rfl rfl Tryd.underlying23 info25b rfl (by decide) (base := base) rfl Hrow7.out rfl (news := [.int .i64 0, .bool false, .int .i64 0, .string ByteArray.empty, .slice none 0 0, .slice none 0 0]) rfl (fun _ => ⟨_, rfl, World.news_of_block Hbz.out⟩) (by simp [Value.oneCell']) (by omega) (by decide) (by have := HK.out.size; have := Hd.out; omega) ?_; intro v6 w6 hown6 hk6 hr6 hf6; obtain ⟨gr, cap, rfl⟩ := hf6 (by decide))
     have Hr6 := Lib.hid hr6
     (try simp only [PU])
     have b2 := HK.out.blk H2.out N.out.1
     have b3 := HK.out.blk H3.out N.out.2.1
     have b6 := HK.out.blk H6.out N.out.2.2
     have H2k := Lib.hid (hk6.blk b2 (row_ne Hrow7.out b2 (by decide)))
     have H3k := Lib.hid (hk6.blk b3 (row_ne Hrow7.out b3 (by decide)))
     have H6k := Lib.hid (hk6.blk b6 (fun e => HJc.out.ne g6 e.symm rfl))
     have Hrk := Lib.hid (Hr1.out.keep hk6 (row_ne Hrow7.out Hr1.out.blk (by decide)))
     obtain ⟨cur, hcur⟩ : ∃ cur, w6.heap[gr]? = some (.cells cur 25 (0, 0)) ∧ n + 1 ≤ cap ∧ cur.size = cap * 6 ∧ base ≤ gr := by
      rcases hown6.2 with ⟨e, _⟩ | ⟨g', cap', cur, e, hb, hg', hc, hm, hs, ht⟩
      · cases e
      · injection e with e1 e2 e3
        injection e1 with e1
        injection e1 with e1
        subst e1; subst e3
        exact ⟨cur, hg', hc, hs, hb⟩
     have Hcf := Lib.hid hcur.2
     have Hcur := Lib.hid hcur.1
     have Hg6r := Lib.hid (row_notin (fun e => HJc.out.ne g6 e rfl) (blk_lt H6.out) HK.out.size hr6)
     have Hrowk := Lib.hid hown6
     have HKo := Lib.hid (hk6.mono (M' := fun k => some k = (Value.slice vA n vc).ownBlock ∨ k = g6) (fun _ _ e => .inl e))
     have HKall := Lib.hid ((keepsMR HK.out).trans hk6 (fun i hi e => .inr (row_lt HJ.out.row i e.symm).1))
     have HWc := Lib.hid HK.out.size
     have hlt1 : (n : Int) < (n : Int) + 1 := by omega
     clear hown6 hk6 hr6 hf6 b2 b3 b6 hcur
     refine wpList_nil ⟨⟨(blk_cell H2k.out 0).trans rfl, (blk_cell H3k.out 0).trans rfl⟩, ?_⟩
     refine tq (some 11) ?_; (try simp only [PU])
     refine tq (some 12) ?_; (try simp only [PU])
     refine tree_b rfl rfl ?b2_26 ?nb2_26
     case' b2_26 =>
      have hfit : n * 6 + 6 ≤ cur.size := by have h1 := Hcf.out.1; have h2 := Hcf.out.2.1; omega
      go_must (refine ev_store (x := .agg #[.int .i64 jk, .bool jb, .int .i64 jn, .string jt, .slice kA kl kc, .slice jA vl jc]) (vs := [.int .i64 jk, .bool jb, .int .i64 jn, .string jt, .slice kA kl kc, .slice jA vl jc]) (off := n * 6) (cs' := List.toArray (cur.toList.take (n * 6) ++ ([Value.int .i64 jk, Value.bool jb, Value.int .i64 jn, Value.string jt, Value.slice kA kl kc, Value.slice jA vl jc] : List Value) ++ cur.toList.drop (n * 6 + 6))) rfl rfl rfl rfl rfl rfl HI.out.1.1 HI.out.1.2 rfl Hcur.out hfit rfl ?_; intro w7 hb7 hk7)
      (try simp only [PU])
      have H2k' := H2k
      have h6l : g6 < W.heap.size := blk_lt H6.out
      have Hown9 := Lib.hid (RowJ.push HJc.out HV.out (fun b hb => ⟨by have := Hd.out; have := hb.1; omega, fun e => by have := hb.1; omega, fun e => by have := (row_lt HJ.out.row b e.symm).2; have := hb.1; omega, hb.2⟩) (fun b e => by have := HWc.out; rw [e]; omega) rfl (by rw [Hnn.out]; exact Hrowk.out) HKo.out Hr6.out (by rw [Hnn.out]) Hcur.out (by rw [Hnn.out]; exact hb7) hk7)
      have H2k := Lib.hid (hk7.blk H2k.out (blk_type H2k.out Hcur.out (by decide)))
      have H3k := Lib.hid (hk7.blk H3k.out (blk_type H3k.out Hcur.out (by decide)))
      have H6k := Lib.hid (hk7.blk H6k.out Hg6r.out)
      have Hrk := Lib.hid (Hrk.out.keep hk7 (blk_type Hrk.out.blk Hcur.out (by decide)))
      have HKall := Lib.hid (HKall.out.trans hk7 (fun i _ e => .inr (by rw [e]; exact Hcf.out.2.2)))
      clear hb7 hk7 hfit h6l H2k'
      refine wpList_nil ⟨⟨(blk_cell H2k.out 0).trans rfl, (blk_cell H3k.out 0).trans rfl⟩, ?_⟩
      refine tree_e rfl rfl ?_
      go_must (refine ev_store (cs' := #[y0, y1, y2, y3, y4, .slice (some ⟨gr, 0, none⟩) (n + 1) cap]) rfl rfl rfl rfl rfl rfl HI.out.2.1 HI.out.2.2 rfl H6k.out (Nat.le_of_ble_eq_true rfl) rfl ?_; intro w8 hb8 hk8)
      (try simp only [PU])
      have Hb8 := Lib.hid hb8
      (try have Hown9 := Lib.hid (Hown9.out.keep hk8 (fun b _ e => .inr e)))
      (try have HKo := Lib.hid (HKo.out.trans hk8 (fun _ _ e => .inr e)))
      (try have Hrowk := Lib.hid (row_keep Hrowk.out hk8 (fun k hk e => Hg6r.out (by rw [← e]; exact (Option.some.inj hk).symm))))
      (try have Hcur := Lib.hid (hk8.blk Hcur.out (fun e => Hg6r.out e.symm)))
      have H2k := Lib.hid (hk8.blk H2k.out (blk_type H2k.out H6k.out (by decide)))
      have H3k := Lib.hid (hk8.blk H3k.out (blk_type H3k.out H6k.out (by decide)))
      have Hrk := Lib.hid (Hrk.out.keep hk8 (fun e => N.out.2.2 e.symm))
      have HKall := Lib.hid (HKall.out.trans hk8 (fun i _ e => .inr (by rw [e]; exact Hd.out.2.2.2.1)))
      have H6k := Hb8
      clear hb8 hk8
      refine wpList_nil ⟨⟨(blk_cell H2k.out 0).trans rfl, (blk_cell H3k.out 0).trans rfl⟩, ?_⟩
      refine tree_nil ?_
     case' nb2_26 =>
      refine tree_e rfl rfl ?b2_27
      case' b2_27 =>
       go_must (refine ev_store (cs' := #[y0, y1, y2, y3, y4, .slice (some ⟨gr, 0, none⟩) (n + 1) cap]) rfl rfl rfl rfl rfl rfl HI.out.2.1 HI.out.2.2 rfl H6k.out (Nat.le_of_ble_eq_true rfl) rfl ?_; intro w8 hb8 hk8)
       (try simp only [PU])
       have Hb8 := Lib.hid hb8
       (try have Hown9 := Lib.hid (Hown9.out.keep hk8 (fun b _ e => .inr e)))
       (try have HKo := Lib.hid (HKo.out.trans hk8 (fun _ _ e => .inr e)))
       (try have Hrowk := Lib.hid (row_keep Hrowk.out hk8 (fun k hk e => Hg6r.out (by rw [← e]; exact (Option.some.inj hk).symm))))
       (try have Hcur := Lib.hid (hk8.blk Hcur.out (fun e => Hg6r.out e.symm)))
       have H2k := Lib.hid (hk8.blk H2k.out (blk_type H2k.out H6k.out (by decide)))
       have H3k := Lib.hid (hk8.blk H3k.out (blk_type H3k.out H6k.out (by decide)))
       have Hrk := Lib.hid (Hrk.out.keep hk8 (fun e => N.out.2.2 e.symm))
       have HKall := Lib.hid (HKall.out.trans hk8 (fun i _ e => .inr (by rw [e]; exact Hd.out.2.2.2.1)))
       have H6k := Hb8
       clear hb8 hk8
       refine wpList_nil ⟨⟨(blk_cell H2k.out 0).trans rfl, (blk_cell H3k.out 0).trans rfl⟩, ?_⟩
       refine tree_e rfl rfl ?_
       have hfit : n * 6 + 6 ≤ cur.size := by have h1 := Hcf.out.1; have h2 := Hcf.out.2.1; omega
       go_must (refine ev_store (x := .agg #[.int .i64 jk, .bool jb, .int .i64 jn, .string jt, .slice kA kl kc, .slice jA vl jc]) (vs := [.int .i64 jk, .bool jb, .int .i64 jn, .string jt, .slice kA kl kc, .slice jA vl jc]) (off := n * 6) (cs' := List.toArray (cur.toList.take (n * 6) ++ ([Value.int .i64 jk, Value.bool jb, Value.int .i64 jn, Value.string jt, Value.slice kA kl kc, Value.slice jA vl jc] : List Value) ++ cur.toList.drop (n * 6 + 6))) rfl rfl rfl rfl rfl rfl HI.out.1.1 HI.out.1.2 rfl Hcur.out hfit rfl ?_; intro w7 hb7 hk7)
       (try simp only [PU])
       have H2k' := H2k
       have h6l : g6 < W.heap.size := blk_lt H6.out
       have Hown9 := Lib.hid (RowJ.push HJc.out HV.out (fun b hb => ⟨by have := Hd.out; have := hb.1; omega, fun e => by have := hb.1; omega, fun e => by have := (row_lt HJ.out.row b e.symm).2; have := hb.1; omega, hb.2⟩) (fun b e => by have := HWc.out; rw [e]; omega) rfl (by rw [Hnn.out]; exact Hrowk.out) HKo.out Hr6.out (by rw [Hnn.out]) Hcur.out (by rw [Hnn.out]; exact hb7) hk7)
       have H2k := Lib.hid (hk7.blk H2k.out (blk_type H2k.out Hcur.out (by decide)))
       have H3k := Lib.hid (hk7.blk H3k.out (blk_type H3k.out Hcur.out (by decide)))
       have H6k := Lib.hid (hk7.blk H6k.out Hg6r.out)
       have Hrk := Lib.hid (Hrk.out.keep hk7 (blk_type Hrk.out.blk Hcur.out (by decide)))
       have HKall := Lib.hid (HKall.out.trans hk7 (fun i _ e => .inr (by rw [e]; exact Hcf.out.2.2)))
       clear hb7 hk7 hfit h6l H2k'
       refine wpList_nil ⟨⟨(blk_cell H2k.out 0).trans rfl, (blk_cell H3k.out 0).trans rfl⟩, ?_⟩
       refine tree_nil ?_
    case' nb2_31 =>
     refine tree_e rfl rfl ?b2_37
     case' b2_37 =>
      go_wp2_with (go_at_call 80; go_must (refine (Hin.out _ Hr0.out).mono ?_; rintro e w1 ⟨⟨v1, rfl, hv1⟩, hr1, hk1⟩; obtain ⟨jk, jb, jn, jt, jks, jvs, jkv, jvv, hjj, rfl, hjk, hjv⟩ := hv1.open; obtain ⟨kA, kc, rfl, -, -⟩ := hjk; obtain ⟨jA, jc, ju, rfl, -, -, -⟩ := hjv); have hw0 := HK.out.size; have HV := Lib.hid (hv1.keep (X' := fun b => W.heap.size ≤ b ∧ b < w1.heap.size) (Keeps.refl Nob w1) (fun _ _ _ => id) (fun b hb hx => ⟨Nat.le_trans hw0 hx, hb⟩)); have Hr1 := Lib.hid hr1; have Hk1 := Lib.hid hk1; have HK := Lib.hid (HK.out.trans hk1 (fun _ _ h => h)); clear hv1 hr1 hjj hw0 hk1; generalize jks.length = kl at *; generalize jvs.length = vl at *; (try simp only [PU]))
      (try have Hbz := Lib.hid (Hk1.out.blk Hbz.out (fun e : gz = r => by have h1 : W.heap.size ≤ gz := Hgz.out; have h2 := Hd.out; omega)))
      refine ⟨⟨HK.out.cell c2 N.out.1, HK.out.cell c3 N.out.2.1⟩, ?_⟩
      refine tree_e rfl rfl ?_
      have c6 := HK.out.cell ((blk_cell H6.out 5).trans rfl) N.out.2.2
      rw [Hnn.out] at c6
      go_wp2_with fail
      clear c6
      refine ⟨⟨HK.out.cell c2 N.out.1, HK.out.cell c3 N.out.2.1⟩, ?_⟩
      refine tq (some 8) ?_; (try simp only [PU])
      refine tree_e rfl rfl ?_
      have HJc := Lib.hid (HJ.out.keep HK.out (fun b _ e => .inl (by have := Hd.out; omega)))
      have hrow7 := HJc.out.row
      rw [Hnn.out] at hrow7
      have Hrow7 := Lib.hid hrow7
      clear hrow7
      go_must (refine ev_append rfl rfl Tryd.underlying23 info25b rfl (by decide) (base := base) rfl Hrow7.out rfl (news := [.int .i64 0, .bool false, .int .i64 0, .string ByteArray.empty, .slice none 0 0, .slice none 0 0]) rfl (fun _ => ⟨_, rfl, World.news_of_block Hbz.out⟩) (by simp [Value.oneCell']) (by omega) (by decide) (by have := HK.out.size; have := Hd.out; omega) ?_; intro v6 w6 hown6 hk6 hr6 hf6; obtain ⟨gr, cap, rfl⟩ := hf6 (by decide))
      have Hr6 := Lib.hid hr6
      (try simp only [PU])
      have b2 := HK.out.blk H2.out N.out.1
      have b3 := HK.out.blk H3.out N.out.2.1
      have b6 := HK.out.blk H6.out N.out.2.2
      have H2k := Lib.hid (hk6.blk b2 (row_ne Hrow7.out b2 (by decide)))
      have H3k := Lib.hid (hk6.blk b3 (row_ne Hrow7.out b3 (by decide)))
      have H6k := Lib.hid (hk6.blk b6 (fun e => HJc.out.ne g6 e.symm rfl))
      have Hrk := Lib.hid (Hr1.out.keep hk6 (row_ne Hrow7.out Hr1.out.blk (by decide)))
      obtain ⟨cur, hcur⟩ : ∃ cur, w6.heap[gr]? = some (.cells cur 25 (0, 0)) ∧ n + 1 ≤ cap ∧ cur.size = cap * 6 ∧ base ≤ gr := by
       rcases hown6.2 with ⟨e, _⟩ | ⟨g', cap', cur, e, hb, hg', hc, hm, hs, ht⟩
       · cases e
       · injection e with e1 e2 e3
         injection e1 with e1
         injection e1 with e1
         subst e1; subst e3
         exact ⟨cur, hg', hc, hs, hb⟩
      have Hcf := Lib.hid hcur.2
      have Hcur := Lib.hid hcur.1
      have Hg6r := Lib.hid (row_notin (fun e => HJc.out.ne g6 e rfl) (blk_lt H6.out) HK.out.size hr6)
      have Hrowk := Lib.hid hown6
      have HKo := Lib.hid (hk6.mono (M' := fun k => some k = (Value.slice vA n vc).ownBlock ∨ k = g6) (fun _ _ e => .inl e))
      have HKall := Lib.hid ((keepsMR HK.out).trans hk6 (fun i hi e => .inr (row_lt HJ.out.row i e.symm).1))
      have HWc := Lib.hid HK.out.size
      have hlt1 : (n : Int) < (n : Int) + 1 := by omega
      clear hown6 hk6 hr6 hf6 b2 b3 b6 hcur
      refine wpList_nil ⟨⟨(blk_cell H2k.out 0).trans rfl, (blk_cell H3k.out 0).trans rfl⟩, ?_⟩
      refine tq (some 11) ?_; (try simp only [PU])
      refine tq (some 12) ?_; (try simp only [PU])
      refine tree_b rfl rfl ?b2_32 ?nb2_32
      case' b2_32 =>
       have hfit : n * 6 + 6 ≤ cur.size := by have h1 := Hcf.out.1; have h2 := Hcf.out.2.1; omega
       go_must (refine ev_store (x := .agg #[.int .i64 jk, .bool jb, .int .i64 jn, .string jt, .slice kA kl kc, .slice jA vl jc]) (vs := [.int .i64 jk, .bool jb, .int .i64 jn, .string jt, .slice kA kl kc, .slice jA vl jc]) (off := n * 6) (cs' := List.toArray (cur.toList.take (n * 6) ++ ([Value.int .i64 jk, Value.bool jb, Value.int .i64 jn, Value.string jt, Value.slice kA kl kc, Value.slice jA vl jc] : List Value) ++ cur.toList.drop (n * 6 + 6))) rfl rfl rfl rfl rfl rfl HI.out.1.1 HI.out.1.2 rfl Hcur.out hfit rfl ?_; intro w7 hb7 hk7)
       (try simp only [PU])
       have H2k' := H2k
       have h6l : g6 < W.heap.size := blk_lt H6.out
       have Hown9 := Lib.hid (RowJ.push HJc.out HV.out (fun b hb => ⟨by have := Hd.out; have := hb.1; omega, fun e => by have := hb.1; omega, fun e => by have := (row_lt HJ.out.row b e.symm).2; have := hb.1; omega, hb.2⟩) (fun b e => by have := HWc.out; rw [e]; omega) rfl (by rw [Hnn.out]; exact Hrowk.out) HKo.out Hr6.out (by rw [Hnn.out]) Hcur.out (by rw [Hnn.out]; exact hb7) hk7)
       have H2k := Lib.hid (hk7.blk H2k.out (blk_type H2k.out Hcur.out (by decide)))
       have H3k := Lib.hid (hk7.blk H3k.out (blk_type H3k.out Hcur.out (by decide)))
       have H6k := Lib.hid (hk7.blk H6k.out Hg6r.out)
       have Hrk := Lib.hid (Hrk.out.keep hk7 (blk_type Hrk.out.blk Hcur.out (by decide)))
       have HKall := Lib.hid (HKall.out.trans hk7 (fun i _ e => .inr (by rw [e]; exact Hcf.out.2.2)))
       clear hb7 hk7 hfit h6l H2k'
       refine wpList_nil ⟨⟨(blk_cell H2k.out 0).trans rfl, (blk_cell H3k.out 0).trans rfl⟩, ?_⟩
       refine tree_e rfl rfl ?_
       go_must (refine ev_store (cs' := #[y0, y1, y2, y3, y4, .slice (some ⟨gr, 0, none⟩) (n + 1) cap]) rfl rfl rfl rfl rfl rfl HI.out.2.1 HI.out.2.2 rfl H6k.out (Nat.le_of_ble_eq_true rfl) rfl ?_; intro w8 hb8 hk8)
       (try simp only [PU])
       have Hb8 := Lib.hid hb8
       (try have Hown9 := Lib.hid (Hown9.out.keep hk8 (fun b _ e => .inr e)))
       (try have HKo := Lib.hid (HKo.out.trans hk8 (fun _ _ e => .inr e)))
       (try have Hrowk := Lib.hid (row_keep Hrowk.out hk8 (fun k hk e => Hg6r.out (by rw [← e]; exact (Option.some.inj hk).symm))))
       (try have Hcur := Lib.hid (hk8.blk Hcur.out (fun e => Hg6r.out e.symm)))
       have H2k := Lib.hid (hk8.blk H2k.out (blk_type H2k.out H6k.out (by decide)))
       have H3k := Lib.hid (hk8.blk H3k.out (blk_type H3k.out H6k.out (by decide)))
       have Hrk := Lib.hid (Hrk.out.keep hk8 (fun e => N.out.2.2 e.symm))
       have HKall := Lib.hid (HKall.out.trans hk8 (fun i _ e => .inr (by rw [e]; exact Hd.out.2.2.2.1)))
       have H6k := Hb8
       clear hb8 hk8
       refine wpList_nil ⟨⟨(blk_cell H2k.out 0).trans rfl, (blk_cell H3k.out 0).trans rfl⟩, ?_⟩
       refine tree_nil ?_
      case' nb2_32 =>
       refine tree_e rfl rfl ?b2_33
       case' b2_33 =>
        go_must (refine ev_store (cs' := #[y0, y1, y2, y3, y4, .slice (some ⟨gr, 0, none⟩) (n + 1) cap]) rfl rfl rfl rfl rfl rfl HI.out.2.1 HI.out.2.2 rfl H6k.out (Nat.le_of_ble_eq_true rfl) rfl ?_; intro w8 hb8 hk8)
        (try simp only [PU])
        have Hb8 := Lib.hid hb8
        (try have Hown9 := Lib.hid (Hown9.out.keep hk8 (fun b _ e => .inr e)))
        (try have HKo := Lib.hid (HKo.out.trans hk8 (fun _ _ e => .inr e)))
        (try have Hrowk := Lib.hid (row_keep Hrowk.out hk8 (fun k hk e => Hg6r.out (by rw [← e]; exact (Option.some.inj hk).symm))))
        (try have Hcur := Lib.hid (hk8.blk Hcur.out (fun e => Hg6r.out e.symm)))
        have H2k := Lib.hid (hk8.blk H2k.out (blk_type H2k.out H6k.out (by decide)))
        have H3k := Lib.hid (hk8.blk H3k.out (blk_type H3k.out H6k.out (by decide)))
        have Hrk := Lib.hid (Hrk.out.keep hk8 (fun e => N.out.2.2 e.symm))
        have HKall := Lib.hid (HKall.out.trans hk8 (fun i _ e => .inr (by rw [e]; exact Hd.out.2.2.2.1)))
        have H6k := Hb8
        clear hb8 hk8
        refine wpList_nil ⟨⟨(blk_cell H2k.out 0).trans rfl, (blk_cell H3k.out 0).trans rfl⟩, ?_⟩
        refine tree_e rfl rfl ?_
        have hfit : n * 6 + 6 ≤ cur.size := by have h1 := Hcf.out.1; have h2 := Hcf.out.2.1; omega
        go_must (refine ev_store (x := .agg #[.int .i64 jk, .bool jb, .int .i64 jn, .string jt, .slice kA kl kc, .slice jA vl jc]) (vs := [.int .i64 jk, .bool jb, .int .i64 jn, .string jt, .slice kA kl kc, .slice jA vl jc]) (off := n * 6) (cs' := List.toArray (cur.toList.take (n * 6) ++ ([Value.int .i64 jk, Value.bool jb, Value.int .i64 jn, Value.string jt, Value.slice kA kl kc, Value.slice jA vl jc] : List Value) ++ cur.toList.drop (n * 6 + 6))) rfl rfl rfl rfl rfl rfl HI.out.1.1 HI.out.1.2 rfl Hcur.out hfit rfl ?_; intro w7 hb7 hk7)
        (try simp only [PU])
        have H2k' := H2k
        have h6l : g6 < W.heap.size := blk_lt H6.out
        have Hown9 := Lib.hid (RowJ.push HJc.out HV.out (fun b hb => ⟨by have := Hd.out; have := hb.1; omega, fun e => by have := hb.1; omega, fun e => by have := (row_lt HJ.out.row b e.symm).2; have := hb.1; omega, hb.2⟩) (fun b e => by have := HWc.out; rw [e]; omega) rfl (by rw [Hnn.out]; exact Hrowk.out) HKo.out Hr6.out (by rw [Hnn.out]) Hcur.out (by rw [Hnn.out]; exact hb7) hk7)
        have H2k := Lib.hid (hk7.blk H2k.out (blk_type H2k.out Hcur.out (by decide)))
        have H3k := Lib.hid (hk7.blk H3k.out (blk_type H3k.out Hcur.out (by decide)))
        have H6k := Lib.hid (hk7.blk H6k.out Hg6r.out)
        have Hrk := Lib.hid (Hrk.out.keep hk7 (blk_type Hrk.out.blk Hcur.out (by decide)))
        have HKall := Lib.hid (HKall.out.trans hk7 (fun i _ e => .inr (by rw [e]; exact Hcf.out.2.2)))
        clear hb7 hk7 hfit h6l H2k'
        refine wpList_nil ⟨⟨(blk_cell H2k.out 0).trans rfl, (blk_cell H3k.out 0).trans rfl⟩, ?_⟩
        refine tree_nil ?_
 all_goals
  go_wp2
  go_end0
  exact ⟨⟨_, rfl⟩, Hrk.out, ⟨H2k.out, H3k.out, _, H6k.out, Hown9.out⟩, HKall.out⟩
end Go.Proofs.WV

namespace Go.Proofs.WV
open Go.RowKit Go.Proofs.KL Go.Proofs.WM
set_option maxRecDepth 100000
set_option linter.unusedSimpArgs false
set_option linter.unusedVariables false

theorem results_cell1 {fn : Func} {p : Tmp} {ty : TypeId} (h : fn.results = #[.cell p ty]) (tmps : Array Value) (P : Program) (w : World) : (results fn tmps).run P w = (do loadVar ty (← asAddr (tmps.getD p undef))).run P w := by
 simp [results, h]
set_option maxHeartbeats 2000000 in
theorem inner80e {w : World} {r : Nat} {T : ByteArray} {s : Bs} (h : Rd w r T s) (deep : Nat) (hd : deep ≤ 1) : Calls Tryd.prog 80 #[.pointer (some ⟨r, 0, none⟩), .int .i64 deep] w (ValOut w r T (.error s.length)) := by
 have H := Lib.hid h
 have Hfail := Lib.hid (fun W (hk : Keeps Nob w W) => fail47 (h.keep hk id) s.length h.le)
 have hdi : (deep : Int) ≤ 1 := by omega
 obtain ⟨n, hn⟩ : ∃ x, s.length = x := ⟨_, rfl⟩
 have Hn := Lib.hid hn
 rw [hn] at Hfail ⊢
 clear h hn
 go_enter Tryd.func80, Tryd.ntmps80
 go_wp2_with (first
  | ((with_reducible refine at_dst (N := 4) rfl ?_); go_must (refine ev_alloc rfl rfl zero25 rfl ?_; intro g4 w1 hg4 hl4 hb4 hk4)
     have Hb4 := Lib.hid hb4
     have HK1 := Lib.hid hk4
     have Hr1 := Lib.hid (H.out.keep hk4 id)
     have Hg4 := Lib.hid (And.intro hg4 hl4)
     have q1 := (blk_cell Hr1.out.blk 1).trans rfl
     rw [Hn.out] at q1
     clear hb4 hk4 hg4 hl4
     (try simp only [PU]))
  | (go_at_call 47; go_must (refine (Hfail.out _ HK1.out).mono ?_; rintro e w2 ⟨rfl, rfl⟩); unfold stopAt; (try simp only [PU]))
 )
 exact ⟨rfl, rfl, HK1.out.any⟩
set_option maxHeartbeats 2000000 in
theorem inner80v {w : World} {r : Nat} {T : ByteArray} {s : Bs} (h : Rd w r T s) (deep : Nat) (hd : 1 < deep ∧ deep ≤ 40) (R0 : R J) (hin : ∀ W', Rd W' r T s → Calls Tryd.prog 46 #[.pointer (some ⟨r, 0, none⟩), .int .i64 (deep - 1 : Nat)] W' (ValOut W' r T R0)) :
  Calls Tryd.prog 80 #[.pointer (some ⟨r, 0, none⟩), .int .i64 deep] w (ValOut w r T R0) := by
 obtain ⟨i25, hi25, hs25⟩ := info25
 have HI := Lib.hid (And.intro hi25 hs25)
 have H := Lib.hid h
 have hcast : ((deep - 1 : Nat) : Int) = (deep : Int) - 1 := by omega
 rw [hcast] at hin
 have Hin := Lib.hid hin
 have hdi : ¬ (deep : Int) ≤ 1 := by omega
 have hdi2 : (deep : Int) ≤ 40 := by omega
 clear h hin hd hi25 hs25 hcast
 rcases R0 with m | ⟨j, s'⟩
 · go_enter Tryd.func80, Tryd.ntmps80
   go_wp2_with (first
    | ((with_reducible refine at_dst (N := 4) rfl ?_); go_must (refine ev_alloc rfl rfl zero25 rfl ?_; intro g4 w1 hg4 hl4 hb4 hk4)
       have Hb4 := Lib.hid hb4
       have HK1 := Lib.hid hk4
       have Hr1 := Lib.hid (H.out.keep hk4 id)
       have Hg4 := Lib.hid (And.intro hg4 hl4)
       have q1 := (blk_cell Hr1.out.blk 1).trans rfl
       clear hb4 hk4 hg4 hl4
       (try simp only [PU]))
    | (go_at_call 46; go_must (refine (Hin.out _ Hr1.out).mono ?_; rintro e w2 ⟨rfl, hk2⟩); have HK2 := Lib.hid ((HK1.out.any (M := (· = r))).trans hk2 (fun _ _ h => h)); clear hk2; unfold stopAt; (try simp only [PU]))
   )
   exact ⟨rfl, rfl, HK2.out⟩
 · go_enter Tryd.func80, Tryd.ntmps80
   go_wp2_with (first
    | ((with_reducible refine at_dst (N := 4) rfl ?_); go_must (refine ev_alloc rfl rfl zero25 rfl ?_; intro g4 w1 hg4 hl4 hb4 hk4)
       have Hb4 := Lib.hid hb4
       have HK1 := Lib.hid hk4
       have Hr1 := Lib.hid (H.out.keep hk4 id)
       have Hg4 := Lib.hid (And.intro hg4 hl4)
       have q1 := (blk_cell Hr1.out.blk 1).trans rfl
       clear hb4 hk4 hg4 hl4
       (try simp only [PU]))
    | (go_at_call 46; go_must (refine (Hin.out _ Hr1.out).mono ?_; rintro e w2 ⟨⟨v1, rfl, hv1⟩, hr1, hk1⟩; obtain ⟨jk, jb, jn, jt, jks, jvs, jkv, jvv, hjj, rfl, hjk, hjv⟩ := hv1.open; obtain ⟨kA, kc, rfl, -, -⟩ := hjk; obtain ⟨jA, jc, ju, rfl, -, -, -⟩ := hjv)
       have HV := Lib.hid hv1
       have Hr2 := Lib.hid hr1
       have HK2 := Lib.hid ((HK1.out.any (M := (· = r))).trans hk1 (fun _ _ h => h))
       have Hb5 := Lib.hid (hk1.blk Hb4.out (fun e : g4 = r => by have := Hg4.out.1; have := H.out.lt; omega))
       clear hv1 hr1 hk1 hjj
       generalize jks.length = kl at *
       generalize jvs.length = vl at *
       (try simp only [PU]))
    | ((with_reducible refine at_store (t := 25) (p := 4) rfl ?_); go_must (refine ev_store (cs' := #[.int .i64 jk, .bool jb, .int .i64 jn, .string jt, .slice kA kl kc, .slice jA vl jc]) rfl rfl rfl rfl rfl rfl HI.out.1 HI.out.2 rfl Hb5.out (Nat.le_of_ble_eq_true rfl) rfl ?_; intro w3 hb3 hk3)
       have HK3 := Lib.hid hk3
       have s0 := (blk_cell hb3 0).trans rfl
       have s1 := (blk_cell hb3 1).trans rfl
       have s2 := (blk_cell hb3 2).trans rfl
       have s3 := (blk_cell hb3 3).trans rfl
       have s4 := (blk_cell hb3 4).trans rfl
       have s5 := (blk_cell hb3 5).trans rfl
       clear hb3 hk3
       (try simp only [PU]))
   )
   refine bodyPost_ret (v := .agg #[.int .i64 jk, .bool jb, .int .i64 jn, .string jt, .slice kA kl kc, .slice jA vl jc]) (by rw [results_cell1 rfl]; go_simp) rfl ?_
   refine ⟨⟨_, rfl, HV.out.keep HK3.out (fun b hb hx e => by have := Hg4.out.2; omega) (fun b hb hx => Nat.le_trans HK1.out.size hx)⟩, Hr2.out.keep HK3.out (fun e : r = g4 => by have := Hg4.out.1; have := H.out.lt; omega), HK2.out.trans HK3.out (fun i hi e => by have := Hg4.out.1; omega)⟩
end Go.Proofs.WV
