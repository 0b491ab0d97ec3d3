/-
 The program's reader: a value that is a word (null, true, false), in memory. Condition: the text is not longer than a million bytes.
-/
import Derived.Test.YtcmmnbipaemgiaaDoorRs3
import Derived.Deep.CutBlock
namespace Go.Proofs.WV
open Go.RowKit Go.Proofs.KL Go.Proofs.WM
set_option maxRecDepth 100000
set_option linter.unusedSimpArgs false
set_option linter.unusedVariables false

theorem plainJX (W : World) (X : Nat → Prop) (k : Int) (b : Bool) (n : Int) (t : ByteArray) : JX W X (.agg #[.int .i64 k, .bool b, .int .i64 n, .string t, .slice none 0 0, .slice none 0 0]) (.mk k b n t [] []) :=
 JX.close (strs_nil W X) (js_nil W X)
theorem nzNull : ∀ i (hi : i < (ByteArray.mk #[110, 117, 108, 108]).size), (ByteArray.mk #[110, 117, 108, 108])[i] ≠ 0 := by
 intro i hi
 have h1 : i < 4 := hi
 match i, h1 with
 | 0, _ => exact (by decide : (110 : UInt8) ≠ 0)
 | 1, _ => exact (by decide : (117 : UInt8) ≠ 0)
 | 2, _ => exact (by decide : (108 : UInt8) ≠ 0)
 | 3, _ => exact (by decide : (108 : UInt8) ≠ 0)
theorem nzTrue : ∀ i (hi : i < (ByteArray.mk #[116, 114, 117, 101]).size), (ByteArray.mk #[116, 114, 117, 101])[i] ≠ 0 := by
 intro i hi
 have h1 : i < 4 := hi
 match i, h1 with
 | 0, _ => exact (by decide : (116 : UInt8) ≠ 0)
 | 1, _ => exact (by decide : (114 : UInt8) ≠ 0)
 | 2, _ => exact (by decide : (117 : UInt8) ≠ 0)
 | 3, _ => exact (by decide : (101 : UInt8) ≠ 0)
theorem nzFalse : ∀ i (hi : i < (ByteArray.mk #[102, 97, 108, 115, 101]).size), (ByteArray.mk #[102, 97, 108, 115, 101])[i] ≠ 0 := by
 intro i hi
 have h1 : i < 5 := hi
 match i, h1 with
 | 0, _ => exact (by decide : (102 : UInt8) ≠ 0)
 | 1, _ => exact (by decide : (97 : UInt8) ≠ 0)
 | 2, _ => exact (by decide : (108 : UInt8) ≠ 0)
 | 3, _ => exact (by decide : (115 : UInt8) ≠ 0)
 | 4, _ => exact (by decide : (101 : UInt8) ≠ 0)
set_option maxHeartbeats 2000000 in
theorem valueNull {w : World} {r : Nat} {T : ByteArray} {q : Bs} (h : Rd w r T (110 :: q)) (f dp : Nat) (deep : Int) : Calls Tryd.prog 46 #[.pointer (some ⟨r, 0, none⟩), .int .i64 deep] w (ValOut w r T (valueF (f + 1) dp (110 :: q))) := by
 have Hnz := Lib.hid nzNull
 obtain ⟨i25, hi25, hs25⟩ := info25
 have HI := Lib.hid (And.intro hi25 hs25)
 have H := Lib.hid h
 have H73 := Lib.hid (fun W (hk : Keeps Nob w W) => next73 (h.keep hk id))
 have hhd : headN (110 :: q) = 110 := rfl
 rw [hhd] at H73
 clear h hi25 hs25 hhd
 rcases hw : wordB [110, 117, 108, 108] (110 :: q) with m | r1
 · have Hw := Lib.hid (show wordB (bl ⟨#[110, 117, 108, 108]⟩) (110 :: q) = .error m from hw)
   have hv : valueF (f + 1) dp (110 :: q) = .error m := by unfold valueF; simp [hw]
   rw [hv]
   clear hw hv
   go_enter Tryd.func46, Tryd.ntmps46
   go_wp2_with (first
    | ((with_reducible refine at_dst (N := 2) rfl ?_); go_must (refine ev_box (cs := #[.pointer (some ⟨r, 0, none⟩)]) rfl rfl rfl ?_; intro g2 w1 hg2 hl2 hb2 hk2)
       have Hb2 := Lib.hid hb2
       have HKa := Lib.hid hk2
       clear hb2 hk2
       (try simp only [PU]))
    | ((with_reducible refine at_dst (N := 3) rfl ?_); go_must (refine ev_box (cs := #[.int .i64 deep]) rfl rfl rfl ?_; intro g3 w2 hg3 hl3 hb3 hk3)
       have Hb2 := Lib.hid (hk3.blk Hb2.out id)
       have Hb3 := Lib.hid hb3
       have HKa := Lib.hid (HKa.out.trans hk3 (fun _ _ h => h))
       clear hb3 hk3
       (try simp only [PU]))
    | ((with_reducible refine at_dst (N := 4) rfl ?_); go_must (refine ev_alloc rfl rfl zero25 rfl ?_; intro g4 w3 hg4 hl4 hb4 hk4)
       have Hb2 := Lib.hid (hk4.blk Hb2.out id)
       have Hb3 := Lib.hid (hk4.blk Hb3.out id)
       have Hb4 := Lib.hid hb4
       have Hg4 := Lib.hid (show w.heap.size ≤ g4 from Nat.le_trans HKa.out.size hg4)
       have HKa := Lib.hid (HKa.out.trans hk4 (fun _ _ h => h))
       have c2 := (blk_cell Hb2.out 0).trans rfl
       clear hb4 hk4
       (try simp only [PU]))
    | (go_at_call 73; go_must (refine (H73.out _ HKa.out).mono ?_; rintro e w4 ⟨rfl, hk5⟩)
       have Hb2 := Lib.hid (hk5.blk Hb2.out id)
       have Hb3 := Lib.hid (hk5.blk Hb3.out id)
       have Hb4 := Lib.hid (hk5.blk Hb4.out id)
       have HKa := Lib.hid (HKa.out.trans hk5 (fun _ _ h => h))
       have Hr4 := Lib.hid (H.out.keep HKa.out id)
       clear c2 hk5
       have c2 := (blk_cell Hb2.out 0).trans rfl
       (try simp only [PU]))
    | (go_at_call 74; go_must (have h74 := word74 Hr4.out ⟨#[110, 117, 108, 108]⟩ (by decide) Hnz.out; rw [Hw.out] at h74; refine h74.mono ?_; rintro e w6 ⟨rfl, hk6⟩); have HK6 := Lib.hid ((HKa.out.any (M := (· = r))).trans hk6 (fun _ _ h => h)); clear hk6; unfold stopAt; (try simp only [PU]))
   )
   exact ⟨rfl, rfl, HK6.out⟩
 · have Hw := Lib.hid (show wordB (bl ⟨#[110, 117, 108, 108]⟩) (110 :: q) = .ok r1 from hw)
   have hv : valueF (f + 1) dp (110 :: q) = .ok (.mk 1 false 0 ByteArray.empty [] [], r1) := by unfold valueF; simp [hw]
   rw [hv]
   clear hw hv
   go_enter Tryd.func46, Tryd.ntmps46
   go_wp2_with (first
    | ((with_reducible refine at_dst (N := 2) rfl ?_); go_must (refine ev_box (cs := #[.pointer (some ⟨r, 0, none⟩)]) rfl rfl rfl ?_; intro g2 w1 hg2 hl2 hb2 hk2)
       have Hb2 := Lib.hid hb2
       have HKa := Lib.hid hk2
       clear hb2 hk2
       (try simp only [PU]))
    | ((with_reducible refine at_dst (N := 3) rfl ?_); go_must (refine ev_box (cs := #[.int .i64 deep]) rfl rfl rfl ?_; intro g3 w2 hg3 hl3 hb3 hk3)
       have Hb2 := Lib.hid (hk3.blk Hb2.out id)
       have Hb3 := Lib.hid hb3
       have HKa := Lib.hid (HKa.out.trans hk3 (fun _ _ h => h))
       clear hb3 hk3
       (try simp only [PU]))
    | ((with_reducible refine at_dst (N := 4) rfl ?_); go_must (refine ev_alloc rfl rfl zero25 rfl ?_; intro g4 w3 hg4 hl4 hb4 hk4)
       have Hb2 := Lib.hid (hk4.blk Hb2.out id)
       have Hb3 := Lib.hid (hk4.blk Hb3.out id)
       have Hb4 := Lib.hid hb4
       have Hg4 := Lib.hid (show w.heap.size ≤ g4 from Nat.le_trans HKa.out.size hg4)
       have HKa := Lib.hid (HKa.out.trans hk4 (fun _ _ h => h))
       have c2 := (blk_cell Hb2.out 0).trans rfl
       clear hb4 hk4
       (try simp only [PU]))
    | (go_at_call 73; go_must (refine (H73.out _ HKa.out).mono ?_; rintro e w4 ⟨rfl, hk5⟩)
       have Hb2 := Lib.hid (hk5.blk Hb2.out id)
       have Hb3 := Lib.hid (hk5.blk Hb3.out id)
       have Hb4 := Lib.hid (hk5.blk Hb4.out id)
       have HKa := Lib.hid (HKa.out.trans hk5 (fun _ _ h => h))
       have Hr4 := Lib.hid (H.out.keep HKa.out id)
       clear c2 hk5
       have c2 := (blk_cell Hb2.out 0).trans rfl
       (try simp only [PU]))
    | (go_at_call 74; go_must (have h74 := word74 Hr4.out ⟨#[110, 117, 108, 108]⟩ (by decide) Hnz.out; rw [Hw.out] at h74; refine h74.mono ?_; rintro e w6 ⟨⟨y6, rfl⟩, hr6, hk6⟩)
       have HK6 := Lib.hid ((HKa.out.any (M := (· = r))).trans hk6 (fun _ _ h => h))
       have Hr6 := Lib.hid hr6
       have Hb6 := Lib.hid (hk6.blk Hb4.out (fun e : g4 = r => by have := Hg4.out; have := H.out.lt; omega))
       clear hk6 hr6
       (try simp only [PU]))
    | ((with_reducible refine at_store (t := 25) (p := 4) rfl ?_); go_must (refine ev_store (cs' := #[.int .i64 1, .bool false, .int .i64 0, .string ByteArray.empty, .slice none 0 0, .slice none 0 0]) rfl rfl rfl rfl rfl rfl HI.out.1 HI.out.2 rfl Hb6.out (Nat.le_of_ble_eq_true rfl) rfl ?_; intro w7 hb7 hk7)
       have HK7 := Lib.hid hk7
       have s0 := (blk_cell hb7 0).trans rfl
       have s1 := (blk_cell hb7 1).trans rfl
       have s2 := (blk_cell hb7 2).trans rfl
       have s3 := (blk_cell hb7 3).trans rfl
       have s4 := (blk_cell hb7 4).trans rfl
       have s5 := (blk_cell hb7 5).trans rfl
       clear hb7 hk7
       (try simp only [PU]))
   )
   refine bodyPost_ret (v := .agg #[.int .i64 1, .bool false, .int .i64 0, .string ByteArray.empty, .slice none 0 0, .slice none 0 0]) (by rw [results_cell1 rfl]; go_simp) rfl ?_
   exact ⟨⟨_, rfl, plainJX _ _ _ _ _ _⟩, Hr6.out.keep HK7.out (fun e : r = g4 => by have := Hg4.out; have := H.out.lt; omega), HK6.out.trans HK7.out (fun i hi e => by have := Hg4.out; omega)⟩
set_option maxHeartbeats 2000000 in
theorem valueTrue {w : World} {r : Nat} {T : ByteArray} {q : Bs} (h : Rd w r T (116 :: q)) (f dp : Nat) (deep : Int) : Calls Tryd.prog 46 #[.pointer (some ⟨r, 0, none⟩), .int .i64 deep] w (ValOut w r T (valueF (f + 1) dp (116 :: q))) := by
 have Hnz := Lib.hid nzTrue
 obtain ⟨i25, hi25, hs25⟩ := info25
 have HI := Lib.hid (And.intro hi25 hs25)
 have H := Lib.hid h
 have H73 := Lib.hid (fun W (hk : Keeps Nob w W) => next73 (h.keep hk id))
 have hhd : headN (116 :: q) = 116 := rfl
 rw [hhd] at H73
 clear h hi25 hs25 hhd
 rcases hw : wordB [116, 114, 117, 101] (116 :: q) with m | r1
 · have Hw := Lib.hid (show wordB (bl ⟨#[116, 114, 117, 101]⟩) (116 :: q) = .error m from hw)
   have hv : valueF (f + 1) dp (116 :: q) = .error m := by unfold valueF; simp [hw]
   rw [hv]
   clear hw hv
   go_enter Tryd.func46, Tryd.ntmps46
   go_wp2_with (first
    | ((with_reducible refine at_dst (N := 2) rfl ?_); go_must (refine ev_box (cs := #[.pointer (some ⟨r, 0, none⟩)]) rfl rfl rfl ?_; intro g2 w1 hg2 hl2 hb2 hk2)
       have Hb2 := Lib.hid hb2
       have HKa := Lib.hid hk2
       clear hb2 hk2
       (try simp only [PU]))
    | ((with_reducible refine at_dst (N := 3) rfl ?_); go_must (refine ev_box (cs := #[.int .i64 deep]) rfl rfl rfl ?_; intro g3 w2 hg3 hl3 hb3 hk3)
       have Hb2 := Lib.hid (hk3.blk Hb2.out id)
       have Hb3 := Lib.hid hb3
       have HKa := Lib.hid (HKa.out.trans hk3 (fun _ _ h => h))
       clear hb3 hk3
       (try simp only [PU]))
    | ((with_reducible refine at_dst (N := 4) rfl ?_); go_must (refine ev_alloc rfl rfl zero25 rfl ?_; intro g4 w3 hg4 hl4 hb4 hk4)
       have Hb2 := Lib.hid (hk4.blk Hb2.out id)
       have Hb3 := Lib.hid (hk4.blk Hb3.out id)
       have Hb4 := Lib.hid hb4
       have Hg4 := Lib.hid (show w.heap.size ≤ g4 from Nat.le_trans HKa.out.size hg4)
       have HKa := Lib.hid (HKa.out.trans hk4 (fun _ _ h => h))
       have c2 := (blk_cell Hb2.out 0).trans rfl
       clear hb4 hk4
       (try simp only [PU]))
    | (go_at_call 73; go_must (refine (H73.out _ HKa.out).mono ?_; rintro e w4 ⟨rfl, hk5⟩)
       have Hb2 := Lib.hid (hk5.blk Hb2.out id)
       have Hb3 := Lib.hid (hk5.blk Hb3.out id)
       have Hb4 := Lib.hid (hk5.blk Hb4.out id)
       have HKa := Lib.hid (HKa.out.trans hk5 (fun _ _ h => h))
       have Hr4 := Lib.hid (H.out.keep HKa.out id)
       clear c2 hk5
       have c2 := (blk_cell Hb2.out 0).trans rfl
       (try simp only [PU]))
    | (go_at_call 74; go_must (have h74 := word74 Hr4.out ⟨#[116, 114, 117, 101]⟩ (by decide) Hnz.out; rw [Hw.out] at h74; refine h74.mono ?_; rintro e w6 ⟨rfl, hk6⟩); have HK6 := Lib.hid ((HKa.out.any (M := (· = r))).trans hk6 (fun _ _ h => h)); clear hk6; unfold stopAt; (try simp only [PU]))
   )
   exact ⟨rfl, rfl, HK6.out⟩
 · have Hw := Lib.hid (show wordB (bl ⟨#[116, 114, 117, 101]⟩) (116 :: q) = .ok r1 from hw)
   have hv : valueF (f + 1) dp (116 :: q) = .ok (.mk 2 true 0 ByteArray.empty [] [], r1) := by unfold valueF; simp [hw]
   rw [hv]
   clear hw hv
   go_enter Tryd.func46, Tryd.ntmps46
   go_wp2_with (first
    | ((with_reducible refine at_dst (N := 2) rfl ?_); go_must (refine ev_box (cs := #[.pointer (some ⟨r, 0, none⟩)]) rfl rfl rfl ?_; intro g2 w1 hg2 hl2 hb2 hk2)
       have Hb2 := Lib.hid hb2
       have HKa := Lib.hid hk2
       clear hb2 hk2
       (try simp only [PU]))
    | ((with_reducible refine at_dst (N := 3) rfl ?_); go_must (refine ev_box (cs := #[.int .i64 deep]) rfl rfl rfl ?_; intro g3 w2 hg3 hl3 hb3 hk3)
       have Hb2 := Lib.hid (hk3.blk Hb2.out id)
       have Hb3 := Lib.hid hb3
       have HKa := Lib.hid (HKa.out.trans hk3 (fun _ _ h => h))
       clear hb3 hk3
       (try simp only [PU]))
    | ((with_reducible refine at_dst (N := 4) rfl ?_); go_must (refine ev_alloc rfl rfl zero25 rfl ?_; intro g4 w3 hg4 hl4 hb4 hk4)
       have Hb2 := Lib.hid (hk4.blk Hb2.out id)
       have Hb3 := Lib.hid (hk4.blk Hb3.out id)
       have Hb4 := Lib.hid hb4
       have Hg4 := Lib.hid (show w.heap.size ≤ g4 from Nat.le_trans HKa.out.size hg4)
       have HKa := Lib.hid (HKa.out.trans hk4 (fun _ _ h => h))
       have c2 := (blk_cell Hb2.out 0).trans rfl
       clear hb4 hk4
       (try simp only [PU]))
    | (go_at_call 73; go_must (refine (H73.out _ HKa.out).mono ?_; rintro e w4 ⟨rfl, hk5⟩)
       have Hb2 := Lib.hid (hk5.blk Hb2.out id)
       have Hb3 := Lib.hid (hk5.blk Hb3.out id)
       have Hb4 := Lib.hid (hk5.blk Hb4.out id)
       have HKa := Lib.hid (HKa.out.trans hk5 (fun _ _ h => h))
       have Hr4 := Lib.hid (H.out.keep HKa.out id)
       clear c2 hk5
       have c2 := (blk_cell Hb2.out 0).trans rfl
       (try simp only [PU]))
    | (go_at_call 74; go_must (have h74 := word74 Hr4.out ⟨#[116, 114, 117, 101]⟩ (by decide) Hnz.out; rw [Hw.out] at h74; refine h74.mono ?_; rintro e w6 ⟨⟨y6, rfl⟩, hr6, hk6⟩)
       have HK6 := Lib.hid ((HKa.out.any (M := (· = r))).trans hk6 (fun _ _ h => h))
       have Hr6 := Lib.hid hr6
       have Hb6 := Lib.hid (hk6.blk Hb4.out (fun e : g4 = r => by have := Hg4.out; have := H.out.lt; omega))
       clear hk6 hr6
       (try simp only [PU]))
    | ((with_reducible refine at_store (t := 25) (p := 4) rfl ?_); go_must (refine ev_store (cs' := #[.int .i64 2, .bool true, .int .i64 0, .string ByteArray.empty, .slice none 0 0, .slice none 0 0]) rfl rfl rfl rfl rfl rfl HI.out.1 HI.out.2 rfl Hb6.out (Nat.le_of_ble_eq_true rfl) rfl ?_; intro w7 hb7 hk7)
       have HK7 := Lib.hid hk7
       have s0 := (blk_cell hb7 0).trans rfl
       have s1 := (blk_cell hb7 1).trans rfl
       have s2 := (blk_cell hb7 2).trans rfl
       have s3 := (blk_cell hb7 3).trans rfl
       have s4 := (blk_cell hb7 4).trans rfl
       have s5 := (blk_cell hb7 5).trans rfl
       clear hb7 hk7
       (try simp only [PU]))
   )
   refine bodyPost_ret (v := .agg #[.int .i64 2, .bool true, .int .i64 0, .string ByteArray.empty, .slice none 0 0, .slice none 0 0]) (by rw [results_cell1 rfl]; go_simp) rfl ?_
   exact ⟨⟨_, rfl, plainJX _ _ _ _ _ _⟩, Hr6.out.keep HK7.out (fun e : r = g4 => by have := Hg4.out; have := H.out.lt; omega), HK6.out.trans HK7.out (fun i hi e => by have := Hg4.out; omega)⟩
set_option maxHeartbeats 2000000 in
theorem valueFalse {w : World} {r : Nat} {T : ByteArray} {q : Bs} (h : Rd w r T (102 :: q)) (f dp : Nat) (deep : Int) : Calls Tryd.prog 46 #[.pointer (some ⟨r, 0, none⟩), .int .i64 deep] w (ValOut w r T (valueF (f + 1) dp (102 :: q))) := by
 have Hnz := Lib.hid nzFalse
 obtain ⟨i25, hi25, hs25⟩ := info25
 have HI := Lib.hid (And.intro hi25 hs25)
 have H := Lib.hid h
 have H73 := Lib.hid (fun W (hk : Keeps Nob w W) => next73 (h.keep hk id))
 have hhd : headN (102 :: q) = 102 := rfl
 rw [hhd] at H73
 clear h hi25 hs25 hhd
 rcases hw : wordB [102, 97, 108, 115, 101] (102 :: q) with m | r1
 · have Hw := Lib.hid (show wordB (bl ⟨#[102, 97, 108, 115, 101]⟩) (102 :: q) = .error m from hw)
   have hv : valueF (f + 1) dp (102 :: q) = .error m := by unfold valueF; simp [hw]
   rw [hv]
   clear hw hv
   go_enter Tryd.func46, Tryd.ntmps46
   go_wp2_with (first
    | ((with_reducible refine at_dst (N := 2) rfl ?_); go_must (refine ev_box (cs := #[.pointer (some ⟨r, 0, none⟩)]) rfl rfl rfl ?_; intro g2 w1 hg2 hl2 hb2 hk2)
       have Hb2 := Lib.hid hb2
       have HKa := Lib.hid hk2
       clear hb2 hk2
       (try simp only [PU]))
    | ((with_reducible refine at_dst (N := 3) rfl ?_); go_must (refine ev_box (cs := #[.int .i64 deep]) rfl rfl rfl ?_; intro g3 w2 hg3 hl3 hb3 hk3)
       have Hb2 := Lib.hid (hk3.blk Hb2.out id)
       have Hb3 := Lib.hid hb3
       have HKa := Lib.hid (HKa.out.trans hk3 (fun _ _ h => h))
       clear hb3 hk3
       (try simp only [PU]))
    | ((with_reducible refine at_dst (N := 4) rfl ?_); go_must (refine ev_alloc rfl rfl zero25 rfl ?_; intro g4 w3 hg4 hl4 hb4 hk4)
       have Hb2 := Lib.hid (hk4.blk Hb2.out id)
       have Hb3 := Lib.hid (hk4.blk Hb3.out id)
       have Hb4 := Lib.hid hb4
       have Hg4 := Lib.hid (show w.heap.size ≤ g4 from Nat.le_trans HKa.out.size hg4)
       have HKa := Lib.hid (HKa.out.trans hk4 (fun _ _ h => h))
       have c2 := (blk_cell Hb2.out 0).trans rfl
       clear hb4 hk4
       (try simp only [PU]))
    | (go_at_call 73; go_must (refine (H73.out _ HKa.out).mono ?_; rintro e w4 ⟨rfl, hk5⟩)
       have Hb2 := Lib.hid (hk5.blk Hb2.out id)
       have Hb3 := Lib.hid (hk5.blk Hb3.out id)
       have Hb4 := Lib.hid (hk5.blk Hb4.out id)
       have HKa := Lib.hid (HKa.out.trans hk5 (fun _ _ h => h))
       have Hr4 := Lib.hid (H.out.keep HKa.out id)
       clear c2 hk5
       have c2 := (blk_cell Hb2.out 0).trans rfl
       (try simp only [PU]))
    | (go_at_call 74; go_must (have h74 := word74 Hr4.out ⟨#[102, 97, 108, 115, 101]⟩ (by decide) Hnz.out; rw [Hw.out] at h74; refine h74.mono ?_; rintro e w6 ⟨rfl, hk6⟩); have HK6 := Lib.hid ((HKa.out.any (M := (· = r))).trans hk6 (fun _ _ h => h)); clear hk6; unfold stopAt; (try simp only [PU]))
   )
   exact ⟨rfl, rfl, HK6.out⟩
 · have Hw := Lib.hid (show wordB (bl ⟨#[102, 97, 108, 115, 101]⟩) (102 :: q) = .ok r1 from hw)
   have hv : valueF (f + 1) dp (102 :: q) = .ok (.mk 2 false 0 ByteArray.empty [] [], r1) := by unfold valueF; simp [hw]
   rw [hv]
   clear hw hv
   go_enter Tryd.func46, Tryd.ntmps46
   go_wp2_with (first
    | ((with_reducible refine at_dst (N := 2) rfl ?_); go_must (refine ev_box (cs := #[.pointer (some ⟨r, 0, none⟩)]) rfl rfl rfl ?_; intro g2 w1 hg2 hl2 hb2 hk2)
       have Hb2 := Lib.hid hb2
       have HKa := Lib.hid hk2
       clear hb2 hk2
       (try simp only [PU]))
    | ((with_reducible refine at_dst (N := 3) rfl ?_); go_must (refine ev_box (cs := #[.int .i64 deep]) rfl rfl rfl ?_; intro g3 w2 hg3 hl3 hb3 hk3)
       have Hb2 := Lib.hid (hk3.blk Hb2.out id)
       have Hb3 := Lib.hid hb3
       have HKa := Lib.hid (HKa.out.trans hk3 (fun _ _ h => h))
       clear hb3 hk3
       (try simp only [PU]))
    | ((with_reducible refine at_dst (N := 4) rfl ?_); go_must (refine ev_alloc rfl rfl zero25 rfl ?_; intro g4 w3 hg4 hl4 hb4 hk4)
       have Hb2 := Lib.hid (hk4.blk Hb2.out id)
       have Hb3 := Lib.hid (hk4.blk Hb3.out id)
       have Hb4 := Lib.hid hb4
       have Hg4 := Lib.hid (show w.heap.size ≤ g4 from Nat.le_trans HKa.out.size hg4)
       have HKa := Lib.hid (HKa.out.trans hk4 (fun _ _ h => h))
       have c2 := (blk_cell Hb2.out 0).trans rfl
       clear hb4 hk4
       (try simp only [PU]))
    | (go_at_call 73; go_must (refine (H73.out _ HKa.out).mono ?_; rintro e w4 ⟨rfl, hk5⟩)
       have Hb2 := Lib.hid (hk5.blk Hb2.out id)
       have Hb3 := Lib.hid (hk5.blk Hb3.out id)
       have Hb4 := Lib.hid (hk5.blk Hb4.out id)
       have HKa := Lib.hid (HKa.out.trans hk5 (fun _ _ h => h))
       have Hr4 := Lib.hid (H.out.keep HKa.out id)
       clear c2 hk5
       have c2 := (blk_cell Hb2.out 0).trans rfl
       (try simp only [PU]))
    | (go_at_call 74; go_must (have h74 := word74 Hr4.out ⟨#[102, 97, 108, 115, 101]⟩ (by decide) Hnz.out; rw [Hw.out] at h74; refine h74.mono ?_; rintro e w6 ⟨⟨y6, rfl⟩, hr6, hk6⟩)
       have HK6 := Lib.hid ((HKa.out.any (M := (· = r))).trans hk6 (fun _ _ h => h))
       have Hr6 := Lib.hid hr6
       have Hb6 := Lib.hid (hk6.blk Hb4.out (fun e : g4 = r => by have := Hg4.out; have := H.out.lt; omega))
       clear hk6 hr6
       (try simp only [PU]))
    | ((with_reducible refine at_store (t := 25) (p := 4) rfl ?_); go_must (refine ev_store (cs' := #[.int .i64 2, .bool false, .int .i64 0, .string ByteArray.empty, .slice none 0 0, .slice none 0 0]) rfl rfl rfl rfl rfl rfl HI.out.1 HI.out.2 rfl Hb6.out (Nat.le_of_ble_eq_true rfl) rfl ?_; intro w7 hb7 hk7)
       have HK7 := Lib.hid hk7
       have s0 := (blk_cell hb7 0).trans rfl
       have s1 := (blk_cell hb7 1).trans rfl
       have s2 := (blk_cell hb7 2).trans rfl
       have s3 := (blk_cell hb7 3).trans rfl
       have s4 := (blk_cell hb7 4).trans rfl
       have s5 := (blk_cell hb7 5).trans rfl
       clear hb7 hk7
       (try simp only [PU]))
   )
   refine bodyPost_ret (v := .agg #[.int .i64 2, .bool false, .int .i64 0, .string ByteArray.empty, .slice none 0 0, .slice none 0 0]) (by rw [results_cell1 rfl]; go_simp) rfl ?_
   exact ⟨⟨_, rfl, plainJX _ _ _ _ _ _⟩, Hr6.out.keep HK7.out (fun e : r = g4 => by have := Hg4.out; have := H.out.lt; omega), HK6.out.trans HK7.out (fun i hi e => by have := Hg4.out; omega)⟩
end Go.Proofs.WV

namespace Go.Proofs.WV
open Go.RowKit Go.Proofs.KL Go.Proofs.WM
set_option maxRecDepth 100000
set_option linter.unusedSimpArgs false
set_option linter.unusedVariables false

set_option maxHeartbeats 2000000 in
theorem valueStr {w : World} {r : Nat} {T : ByteArray} {q : Bs} (h : Rd w r T (34 :: q)) (f dp : Nat) (deep : Int) : Calls Tryd.prog 46 #[.pointer (some ⟨r, 0, none⟩), .int .i64 deep] w (ValOut w r T (valueF (f + 1) dp (34 :: q))) := by
 obtain ⟨i25, hi25, hs25⟩ := info25
 have HI := Lib.hid (And.intro hi25 hs25)
 have H := Lib.hid h
 have H73 := Lib.hid (fun W (hk : Keeps Nob w W) => next73 (h.keep hk id))
 have H76 := Lib.hid (fun W (hk : Keeps Nob w W) => digit76 (h.keep hk id))
 clear hi25 hs25
 have hhd : headN (34 :: q) = 34 := rfl
 rw [hhd] at H73
 clear h hhd H76
 rcases hw : strB (34 :: q) with m | ⟨t, r1⟩
 · have Hw := Lib.hid hw
   have hv : valueF (f + 1) dp (34 :: q) = .error m := by unfold valueF; simp [hw]
   rw [hv]
   clear hw hv
   go_enter Tryd.func46, Tryd.ntmps46
   go_wp2_with (first
    | ((with_reducible refine at_dst (N := 2) rfl ?_); go_must (refine ev_box (cs := #[.pointer (some ⟨r, 0, none⟩)]) rfl rfl rfl ?_; intro g2 w1 hg2 hl2 hb2 hk2)
       have Hb2 := Lib.hid hb2
       have HKa := Lib.hid hk2
       clear hb2 hk2
       (try simp only [PU]))
    | ((with_reducible refine at_dst (N := 3) rfl ?_); go_must (refine ev_box (cs := #[.int .i64 deep]) rfl rfl rfl ?_; intro g3 w2 hg3 hl3 hb3 hk3)
       have Hb2 := Lib.hid (hk3.blk Hb2.out id)
       have Hb3 := Lib.hid hb3
       have HKa := Lib.hid (HKa.out.trans hk3 (fun _ _ h => h))
       clear hb3 hk3
       (try simp only [PU]))
    | ((with_reducible refine at_dst (N := 4) rfl ?_); go_must (refine ev_alloc rfl rfl zero25 rfl ?_; intro g4 w3 hg4 hl4 hb4 hk4)
       have Hb2 := Lib.hid (hk4.blk Hb2.out id)
       have Hb3 := Lib.hid (hk4.blk Hb3.out id)
       have Hb4 := Lib.hid hb4
       have Hg4 := Lib.hid (show w.heap.size ≤ g4 from Nat.le_trans HKa.out.size hg4)
       have HKa := Lib.hid (HKa.out.trans hk4 (fun _ _ h => h))
       have c2 := (blk_cell Hb2.out 0).trans rfl
       clear hb4 hk4
       (try simp only [PU]))
    | (go_at_call 73; go_must (refine (H73.out _ HKa.out).mono ?_; rintro e w4 ⟨rfl, hk5⟩)
       have Hb2 := Lib.hid (hk5.blk Hb2.out id)
       have Hb3 := Lib.hid (hk5.blk Hb3.out id)
       have Hb4 := Lib.hid (hk5.blk Hb4.out id)
       have HKa := Lib.hid (HKa.out.trans hk5 (fun _ _ h => h))
       have Hr4 := Lib.hid (H.out.keep HKa.out id)
       clear c2 hk5
       have c2 := (blk_cell Hb2.out 0).trans rfl
       (try simp only [PU]))
    | (go_at_call 76; go_must (refine (H76.out _ HKa.out).mono ?_; rintro e w5 ⟨rfl, hk6⟩)
       have Hb2 := Lib.hid (hk6.blk Hb2.out id)
       have Hb3 := Lib.hid (hk6.blk Hb3.out id)
       have Hb4 := Lib.hid (hk6.blk Hb4.out id)
       have HKa := Lib.hid (HKa.out.trans hk6 (fun _ _ h => h))
       have Hr4 := Lib.hid (H.out.keep HKa.out id)
       clear c2 hk6
       have c2 := (blk_cell Hb2.out 0).trans rfl
       (try simp only [PU]))
    | (go_at_call 75; go_must (have hc := str75 Hr4.out; rw [Hw.out] at hc; refine hc.mono ?_; rintro e w6 ⟨rfl, hk6⟩); have HK6 := Lib.hid ((HKa.out.any (M := (· = r))).trans hk6 (fun _ _ h => h)); clear hk6; unfold stopAt; (try simp only [PU]))
   )
   exact ⟨rfl, rfl, HK6.out⟩
 · have Hw := Lib.hid hw
   have hv : valueF (f + 1) dp (34 :: q) = .ok (.mk 4 false 0 (mkB t) [] [], r1) := by unfold valueF; simp [hw]
   rw [hv]
   clear hw hv
   generalize hmt : mkB t = mt
   have Hmt := Lib.hid hmt
   clear hmt
   go_enter Tryd.func46, Tryd.ntmps46
   go_wp2_with (first
    | ((with_reducible refine at_dst (N := 2) rfl ?_); go_must (refine ev_box (cs := #[.pointer (some ⟨r, 0, none⟩)]) rfl rfl rfl ?_; intro g2 w1 hg2 hl2 hb2 hk2)
       have Hb2 := Lib.hid hb2
       have HKa := Lib.hid hk2
       clear hb2 hk2
       (try simp only [PU]))
    | ((with_reducible refine at_dst (N := 3) rfl ?_); go_must (refine ev_box (cs := #[.int .i64 deep]) rfl rfl rfl ?_; intro g3 w2 hg3 hl3 hb3 hk3)
       have Hb2 := Lib.hid (hk3.blk Hb2.out id)
       have Hb3 := Lib.hid hb3
       have HKa := Lib.hid (HKa.out.trans hk3 (fun _ _ h => h))
       clear hb3 hk3
       (try simp only [PU]))
    | ((with_reducible refine at_dst (N := 4) rfl ?_); go_must (refine ev_alloc rfl rfl zero25 rfl ?_; intro g4 w3 hg4 hl4 hb4 hk4)
       have Hb2 := Lib.hid (hk4.blk Hb2.out id)
       have Hb3 := Lib.hid (hk4.blk Hb3.out id)
       have Hb4 := Lib.hid hb4
       have Hg4 := Lib.hid (show w.heap.size ≤ g4 from Nat.le_trans HKa.out.size hg4)
       have HKa := Lib.hid (HKa.out.trans hk4 (fun _ _ h => h))
       have c2 := (blk_cell Hb2.out 0).trans rfl
       clear hb4 hk4
       (try simp only [PU]))
    | (go_at_call 73; go_must (refine (H73.out _ HKa.out).mono ?_; rintro e w4 ⟨rfl, hk5⟩)
       have Hb2 := Lib.hid (hk5.blk Hb2.out id)
       have Hb3 := Lib.hid (hk5.blk Hb3.out id)
       have Hb4 := Lib.hid (hk5.blk Hb4.out id)
       have HKa := Lib.hid (HKa.out.trans hk5 (fun _ _ h => h))
       have Hr4 := Lib.hid (H.out.keep HKa.out id)
       clear c2 hk5
       have c2 := (blk_cell Hb2.out 0).trans rfl
       (try simp only [PU]))
    | (go_at_call 76; go_must (refine (H76.out _ HKa.out).mono ?_; rintro e w5 ⟨rfl, hk6⟩)
       have Hb2 := Lib.hid (hk6.blk Hb2.out id)
       have Hb3 := Lib.hid (hk6.blk Hb3.out id)
       have Hb4 := Lib.hid (hk6.blk Hb4.out id)
       have HKa := Lib.hid (HKa.out.trans hk6 (fun _ _ h => h))
       have Hr4 := Lib.hid (H.out.keep HKa.out id)
       clear c2 hk6
       have c2 := (blk_cell Hb2.out 0).trans rfl
       (try simp only [PU]))
    | (go_at_call 75; go_must (have hc := str75 Hr4.out; rw [Hw.out] at hc; refine hc.mono ?_; rintro e w6 ⟨rfl, hr6, hk6⟩)
       simp only [Hmt.out]
       have HK6 := Lib.hid ((HKa.out.any (M := (· = r))).trans hk6 (fun _ _ h => h))
       have Hr6 := Lib.hid hr6
       have Hb6 := Lib.hid (hk6.blk Hb4.out (fun e : g4 = r => by have := Hg4.out; have := H.out.lt; omega))
       clear hk6 hr6
       (try simp only [PU]))
    | ((with_reducible refine at_store (t := 25) (p := 4) rfl ?_); go_must (refine ev_store (cs' := #[.int .i64 4, .bool false, .int .i64 0, .string mt, .slice none 0 0, .slice none 0 0]) rfl rfl rfl rfl rfl rfl HI.out.1 HI.out.2 rfl Hb6.out (Nat.le_of_ble_eq_true rfl) rfl ?_; intro w7 hb7 hk7)
       have HK7 := Lib.hid hk7
       have s0 := (blk_cell hb7 0).trans rfl
       have s1 := (blk_cell hb7 1).trans rfl
       have s2 := (blk_cell hb7 2).trans rfl
       have s3 := (blk_cell hb7 3).trans rfl
       have s4 := (blk_cell hb7 4).trans rfl
       have s5 := (blk_cell hb7 5).trans rfl
       clear hb7 hk7
       (try simp only [PU]))
   )
   refine bodyPost_ret (v := .agg #[.int .i64 4, .bool false, .int .i64 0, .string mt, .slice none 0 0, .slice none 0 0]) (by rw [results_cell1 rfl]; go_simp) rfl ?_
   exact ⟨⟨_, rfl, plainJX _ _ _ _ _ _⟩, Hr6.out.keep HK7.out (fun e : r = g4 => by have := Hg4.out; have := H.out.lt; omega), HK6.out.trans HK7.out (fun i hi e => by have := Hg4.out; omega)⟩
set_option maxHeartbeats 2000000 in
theorem valueInt {w : World} {r : Nat} {T : ByteArray} {c : UInt8} {q : Bs} (h : Rd w r T (c :: q)) (hc : c = 45 ∨ isDigit c = true) (f dp : Nat) (deep : Int) : Calls Tryd.prog 46 #[.pointer (some ⟨r, 0, none⟩), .int .i64 deep] w (ValOut w r T (valueF (f + 1) dp (c :: q))) := by
 have hv0 : valueF (f + 1) dp (c :: q) = (match intB (c :: q) with | .ok x => .ok (.mk 3 false x.1 ByteArray.empty [] [], x.2) | .error e => .error e) := by
  have hr : c ≠ 110 ∧ c ≠ 116 ∧ c ≠ 102 ∧ c ≠ 34 := by
   rcases hc with rfl | hd
   · decide
   · refine ⟨?_, ?_, ?_, ?_⟩ <;> (rintro rfl; revert hd; decide)
  unfold valueF
  simp only [if_neg hr.1, if_neg hr.2.1, if_neg hr.2.2.1, if_neg hr.2.2.2, if_pos hc]
  rcases intB (c :: q) with e | ⟨n, r1⟩ <;> rfl
 rw [hv0]
 obtain ⟨i25, hi25, hs25⟩ := info25
 have HI := Lib.hid (And.intro hi25 hs25)
 have H := Lib.hid h
 have H73 := Lib.hid (fun W (hk : Keeps Nob w W) => next73 (h.keep hk id))
 have H76 := Lib.hid (fun W (hk : Keeps Nob w W) => digit76 (h.keep hk id))
 clear hi25 hs25
 have hrange : (c.toNat : Int) = 45 ∨ (48 ≤ (c.toNat : Int) ∧ (c.toNat : Int) ≤ 57) := by
  rcases hc with rfl | hd
  · exact .inl rfl
  · have := dig_int c hd; exact .inr ⟨this.1, this.2.1⟩
 have hdig : c ≠ 45 → startsDigit (c :: q) = true := fun hn => hc.elim (fun h => absurd h hn) (fun h => h)
 obtain ⟨cv, hcv⟩ : ∃ x, headN (c :: q) = x := ⟨_, rfl⟩
 have hcv' : (c.toNat : Int) = cv := hcv
 rw [hcv] at H73
 rw [hcv'] at hrange
 have n1 : (cv == 110) = false := beq_eq_false_iff_ne.2 (by omega)
 have n2 : (cv == 116) = false := beq_eq_false_iff_ne.2 (by omega)
 have n3 : (cv == 102) = false := beq_eq_false_iff_ne.2 (by omega)
 have n4 : (cv == 34) = false := beq_eq_false_iff_ne.2 (by omega)
 by_cases h45 : c = 45
 · have e45 : cv = 45 := by rw [← hcv', h45]; rfl
   subst e45
   clear hcv hcv' hv0 h hc hrange hdig n1 n2 n3 n4 H76
   rcases hw : intB (c :: q) with m | ⟨n, r1⟩
   · have Hw := Lib.hid hw
     clear hw h45
     go_enter Tryd.func46, Tryd.ntmps46
     go_wp2_with (first
      | ((with_reducible refine at_dst (N := 2) rfl ?_); go_must (refine ev_box (cs := #[.pointer (some ⟨r, 0, none⟩)]) rfl rfl rfl ?_; intro g2 w1 hg2 hl2 hb2 hk2)
         have Hb2 := Lib.hid hb2
         have HKa := Lib.hid hk2
         clear hb2 hk2
         (try simp only [PU]))
      | ((with_reducible refine at_dst (N := 3) rfl ?_); go_must (refine ev_box (cs := #[.int .i64 deep]) rfl rfl rfl ?_; intro g3 w2 hg3 hl3 hb3 hk3)
         have Hb2 := Lib.hid (hk3.blk Hb2.out id)
         have Hb3 := Lib.hid hb3
         have HKa := Lib.hid (HKa.out.trans hk3 (fun _ _ h => h))
         clear hb3 hk3
         (try simp only [PU]))
      | ((with_reducible refine at_dst (N := 4) rfl ?_); go_must (refine ev_alloc rfl rfl zero25 rfl ?_; intro g4 w3 hg4 hl4 hb4 hk4)
         have Hb2 := Lib.hid (hk4.blk Hb2.out id)
         have Hb3 := Lib.hid (hk4.blk Hb3.out id)
         have Hb4 := Lib.hid hb4
         have Hg4 := Lib.hid (show w.heap.size ≤ g4 from Nat.le_trans HKa.out.size hg4)
         have HKa := Lib.hid (HKa.out.trans hk4 (fun _ _ h => h))
         have c2 := (blk_cell Hb2.out 0).trans rfl
         clear hb4 hk4
         (try simp only [PU]))
      | (go_at_call 73; go_must (refine (H73.out _ HKa.out).mono ?_; rintro e w4 ⟨rfl, hk5⟩)
         have Hb2 := Lib.hid (hk5.blk Hb2.out id)
         have Hb3 := Lib.hid (hk5.blk Hb3.out id)
         have Hb4 := Lib.hid (hk5.blk Hb4.out id)
         have HKa := Lib.hid (HKa.out.trans hk5 (fun _ _ h => h))
         have Hr4 := Lib.hid (H.out.keep HKa.out id)
         clear c2 hk5
         have c2 := (blk_cell Hb2.out 0).trans rfl
         (try simp only [PU]))
      | (go_at_call 76; go_must (refine (H76.out _ HKa.out).mono ?_; rintro e w5 ⟨rfl, hk6⟩)
         have Hb2 := Lib.hid (hk6.blk Hb2.out id)
         have Hb3 := Lib.hid (hk6.blk Hb3.out id)
         have Hb4 := Lib.hid (hk6.blk Hb4.out id)
         have HKa := Lib.hid (HKa.out.trans hk6 (fun _ _ h => h))
         have Hr4 := Lib.hid (H.out.keep HKa.out id)
         clear c2 hk6
         have c2 := (blk_cell Hb2.out 0).trans rfl
         (try simp only [PU]))
      | (go_at_call 77; go_must (have hc := int77 Hr4.out; rw [Hw.out] at hc; refine hc.mono ?_; rintro e w6 ⟨rfl, hk6⟩); have HK6 := Lib.hid ((HKa.out.any (M := (· = r))).trans hk6 (fun _ _ h => h)); clear hk6; unfold stopAt; (try simp only [PU]))
     )
     exact ⟨rfl, rfl, HK6.out⟩
   · have Hw := Lib.hid hw
     clear hw h45
     go_enter Tryd.func46, Tryd.ntmps46
     go_wp2_with (first
      | ((with_reducible refine at_dst (N := 2) rfl ?_); go_must (refine ev_box (cs := #[.pointer (some ⟨r, 0, none⟩)]) rfl rfl rfl ?_; intro g2 w1 hg2 hl2 hb2 hk2)
         have Hb2 := Lib.hid hb2
         have HKa := Lib.hid hk2
         clear hb2 hk2
         (try simp only [PU]))
      | ((with_reducible refine at_dst (N := 3) rfl ?_); go_must (refine ev_box (cs := #[.int .i64 deep]) rfl rfl rfl ?_; intro g3 w2 hg3 hl3 hb3 hk3)
         have Hb2 := Lib.hid (hk3.blk Hb2.out id)
         have Hb3 := Lib.hid hb3
         have HKa := Lib.hid (HKa.out.trans hk3 (fun _ _ h => h))
         clear hb3 hk3
         (try simp only [PU]))
      | ((with_reducible refine at_dst (N := 4) rfl ?_); go_must (refine ev_alloc rfl rfl zero25 rfl ?_; intro g4 w3 hg4 hl4 hb4 hk4)
         have Hb2 := Lib.hid (hk4.blk Hb2.out id)
         have Hb3 := Lib.hid (hk4.blk Hb3.out id)
         have Hb4 := Lib.hid hb4
         have Hg4 := Lib.hid (show w.heap.size ≤ g4 from Nat.le_trans HKa.out.size hg4)
         have HKa := Lib.hid (HKa.out.trans hk4 (fun _ _ h => h))
         have c2 := (blk_cell Hb2.out 0).trans rfl
         clear hb4 hk4
         (try simp only [PU]))
      | (go_at_call 73; go_must (refine (H73.out _ HKa.out).mono ?_; rintro e w4 ⟨rfl, hk5⟩)
         have Hb2 := Lib.hid (hk5.blk Hb2.out id)
         have Hb3 := Lib.hid (hk5.blk Hb3.out id)
         have Hb4 := Lib.hid (hk5.blk Hb4.out id)
         have HKa := Lib.hid (HKa.out.trans hk5 (fun _ _ h => h))
         have Hr4 := Lib.hid (H.out.keep HKa.out id)
         clear c2 hk5
         have c2 := (blk_cell Hb2.out 0).trans rfl
         (try simp only [PU]))
      | (go_at_call 76; go_must (refine (H76.out _ HKa.out).mono ?_; rintro e w5 ⟨rfl, hk6⟩)
         have Hb2 := Lib.hid (hk6.blk Hb2.out id)
         have Hb3 := Lib.hid (hk6.blk Hb3.out id)
         have Hb4 := Lib.hid (hk6.blk Hb4.out id)
         have HKa := Lib.hid (HKa.out.trans hk6 (fun _ _ h => h))
         have Hr4 := Lib.hid (H.out.keep HKa.out id)
         clear c2 hk6
         have c2 := (blk_cell Hb2.out 0).trans rfl
         (try simp only [PU]))
      | (go_at_call 77; go_must (have hc := int77 Hr4.out; rw [Hw.out] at hc; refine hc.mono ?_; rintro e w6 ⟨rfl, hr6, hk6⟩)
         have HK6 := Lib.hid ((HKa.out.any (M := (· = r))).trans hk6 (fun _ _ h => h))
         have Hr6 := Lib.hid hr6
         have Hb6 := Lib.hid (hk6.blk Hb4.out (fun e : g4 = r => by have := Hg4.out; have := H.out.lt; omega))
         clear hk6 hr6
         (try simp only [PU]))
      | ((with_reducible refine at_store (t := 25) (p := 4) rfl ?_); go_must (refine ev_store (cs' := #[.int .i64 3, .bool false, .int .i64 n, .string ByteArray.empty, .slice none 0 0, .slice none 0 0]) rfl rfl rfl rfl rfl rfl HI.out.1 HI.out.2 rfl Hb6.out (Nat.le_of_ble_eq_true rfl) rfl ?_; intro w7 hb7 hk7)
         have HK7 := Lib.hid hk7
         have s0 := (blk_cell hb7 0).trans rfl
         have s1 := (blk_cell hb7 1).trans rfl
         have s2 := (blk_cell hb7 2).trans rfl
         have s3 := (blk_cell hb7 3).trans rfl
         have s4 := (blk_cell hb7 4).trans rfl
         have s5 := (blk_cell hb7 5).trans rfl
         clear hb7 hk7
         (try simp only [PU]))
     )
     refine bodyPost_ret (v := .agg #[.int .i64 3, .bool false, .int .i64 n, .string ByteArray.empty, .slice none 0 0, .slice none 0 0]) (by rw [results_cell1 rfl]; go_simp) rfl ?_
     exact ⟨⟨_, rfl, plainJX _ _ _ _ _ _⟩, Hr6.out.keep HK7.out (fun e : r = g4 => by have := Hg4.out; have := H.out.lt; omega), HK6.out.trans HK7.out (fun i hi e => by have := Hg4.out; omega)⟩
 · have n5 : (cv == 45) = false := beq_eq_false_iff_ne.2 (fun e => h45 (UInt8.toNat_inj.1 (by show c.toNat = 45; omega)))
   rw [hdig h45] at H76
   clear hcv hcv' hv0 h hc hdig h45 hrange
   rcases hw : intB (c :: q) with m | ⟨n, r1⟩
   · have Hw := Lib.hid hw
     clear hw
     go_enter Tryd.func46, Tryd.ntmps46
     go_wp2_with (first
      | ((with_reducible refine at_dst (N := 2) rfl ?_); go_must (refine ev_box (cs := #[.pointer (some ⟨r, 0, none⟩)]) rfl rfl rfl ?_; intro g2 w1 hg2 hl2 hb2 hk2)
         have Hb2 := Lib.hid hb2
         have HKa := Lib.hid hk2
         clear hb2 hk2
         (try simp only [PU]))
      | ((with_reducible refine at_dst (N := 3) rfl ?_); go_must (refine ev_box (cs := #[.int .i64 deep]) rfl rfl rfl ?_; intro g3 w2 hg3 hl3 hb3 hk3)
         have Hb2 := Lib.hid (hk3.blk Hb2.out id)
         have Hb3 := Lib.hid hb3
         have HKa := Lib.hid (HKa.out.trans hk3 (fun _ _ h => h))
         clear hb3 hk3
         (try simp only [PU]))
      | ((with_reducible refine at_dst (N := 4) rfl ?_); go_must (refine ev_alloc rfl rfl zero25 rfl ?_; intro g4 w3 hg4 hl4 hb4 hk4)
         have Hb2 := Lib.hid (hk4.blk Hb2.out id)
         have Hb3 := Lib.hid (hk4.blk Hb3.out id)
         have Hb4 := Lib.hid hb4
         have Hg4 := Lib.hid (show w.heap.size ≤ g4 from Nat.le_trans HKa.out.size hg4)
         have HKa := Lib.hid (HKa.out.trans hk4 (fun _ _ h => h))
         have c2 := (blk_cell Hb2.out 0).trans rfl
         clear hb4 hk4
         (try simp only [PU]))
      | (go_at_call 73; go_must (refine (H73.out _ HKa.out).mono ?_; rintro e w4 ⟨rfl, hk5⟩)
         have Hb2 := Lib.hid (hk5.blk Hb2.out id)
         have Hb3 := Lib.hid (hk5.blk Hb3.out id)
         have Hb4 := Lib.hid (hk5.blk Hb4.out id)
         have HKa := Lib.hid (HKa.out.trans hk5 (fun _ _ h => h))
         have Hr4 := Lib.hid (H.out.keep HKa.out id)
         clear c2 hk5
         have c2 := (blk_cell Hb2.out 0).trans rfl
         (try simp only [PU]))
      | (go_at_call 76; go_must (refine (H76.out _ HKa.out).mono ?_; rintro e w5 ⟨rfl, hk6⟩)
         have Hb2 := Lib.hid (hk6.blk Hb2.out id)
         have Hb3 := Lib.hid (hk6.blk Hb3.out id)
         have Hb4 := Lib.hid (hk6.blk Hb4.out id)
         have HKa := Lib.hid (HKa.out.trans hk6 (fun _ _ h => h))
         have Hr4 := Lib.hid (H.out.keep HKa.out id)
         clear c2 hk6
         have c2 := (blk_cell Hb2.out 0).trans rfl
         (try simp only [PU]))
      | (go_at_call 77; go_must (have hc := int77 Hr4.out; rw [Hw.out] at hc; refine hc.mono ?_; rintro e w6 ⟨rfl, hk6⟩); have HK6 := Lib.hid ((HKa.out.any (M := (· = r))).trans hk6 (fun _ _ h => h)); clear hk6; unfold stopAt; (try simp only [PU]))
     )
     exact ⟨rfl, rfl, HK6.out⟩
   · have Hw := Lib.hid hw
     clear hw
     go_enter Tryd.func46, Tryd.ntmps46
     go_wp2_with (first
      | ((with_reducible refine at_dst (N := 2) rfl ?_); go_must (refine ev_box (cs := #[.pointer (some ⟨r, 0, none⟩)]) rfl rfl rfl ?_; intro g2 w1 hg2 hl2 hb2 hk2)
         have Hb2 := Lib.hid hb2
         have HKa := Lib.hid hk2
         clear hb2 hk2
         (try simp only [PU]))
      | ((with_reducible refine at_dst (N := 3) rfl ?_); go_must (refine ev_box (cs := #[.int .i64 deep]) rfl rfl rfl ?_; intro g3 w2 hg3 hl3 hb3 hk3)
         have Hb2 := Lib.hid (hk3.blk Hb2.out id)
         have Hb3 := Lib.hid hb3
         have HKa := Lib.hid (HKa.out.trans hk3 (fun _ _ h => h))
         clear hb3 hk3
         (try simp only [PU]))
      | ((with_reducible refine at_dst (N := 4) rfl ?_); go_must (refine ev_alloc rfl rfl zero25 rfl ?_; intro g4 w3 hg4 hl4 hb4 hk4)
         have Hb2 := Lib.hid (hk4.blk Hb2.out id)
         have Hb3 := Lib.hid (hk4.blk Hb3.out id)
         have Hb4 := Lib.hid hb4
         have Hg4 := Lib.hid (show w.heap.size ≤ g4 from Nat.le_trans HKa.out.size hg4)
         have HKa := Lib.hid (HKa.out.trans hk4 (fun _ _ h => h))
         have c2 := (blk_cell Hb2.out 0).trans rfl
         clear hb4 hk4
         (try simp only [PU]))
      | (go_at_call 73; go_must (refine (H73.out _ HKa.out).mono ?_; rintro e w4 ⟨rfl, hk5⟩)
         have Hb2 := Lib.hid (hk5.blk Hb2.out id)
         have Hb3 := Lib.hid (hk5.blk Hb3.out id)
         have Hb4 := Lib.hid (hk5.blk Hb4.out id)
         have HKa := Lib.hid (HKa.out.trans hk5 (fun _ _ h => h))
         have Hr4 := Lib.hid (H.out.keep HKa.out id)
         clear c2 hk5
         have c2 := (blk_cell Hb2.out 0).trans rfl
         (try simp only [PU]))
      | (go_at_call 76; go_must (refine (H76.out _ HKa.out).mono ?_; rintro e w5 ⟨rfl, hk6⟩)
         have Hb2 := Lib.hid (hk6.blk Hb2.out id)
         have Hb3 := Lib.hid (hk6.blk Hb3.out id)
         have Hb4 := Lib.hid (hk6.blk Hb4.out id)
         have HKa := Lib.hid (HKa.out.trans hk6 (fun _ _ h => h))
         have Hr4 := Lib.hid (H.out.keep HKa.out id)
         clear c2 hk6
         have c2 := (blk_cell Hb2.out 0).trans rfl
         (try simp only [PU]))
      | (go_at_call 77; go_must (have hc := int77 Hr4.out; rw [Hw.out] at hc; refine hc.mono ?_; rintro e w6 ⟨rfl, hr6, hk6⟩)
         have HK6 := Lib.hid ((HKa.out.any (M := (· = r))).trans hk6 (fun _ _ h => h))
         have Hr6 := Lib.hid hr6
         have Hb6 := Lib.hid (hk6.blk Hb4.out (fun e : g4 = r => by have := Hg4.out; have := H.out.lt; omega))
         clear hk6 hr6
         (try simp only [PU]))
      | ((with_reducible refine at_store (t := 25) (p := 4) rfl ?_); go_must (refine ev_store (cs' := #[.int .i64 3, .bool false, .int .i64 n, .string ByteArray.empty, .slice none 0 0, .slice none 0 0]) rfl rfl rfl rfl rfl rfl HI.out.1 HI.out.2 rfl Hb6.out (Nat.le_of_ble_eq_true rfl) rfl ?_; intro w7 hb7 hk7)
         have HK7 := Lib.hid hk7
         have s0 := (blk_cell hb7 0).trans rfl
         have s1 := (blk_cell hb7 1).trans rfl
         have s2 := (blk_cell hb7 2).trans rfl
         have s3 := (blk_cell hb7 3).trans rfl
         have s4 := (blk_cell hb7 4).trans rfl
         have s5 := (blk_cell hb7 5).trans rfl
         clear hb7 hk7
         (try simp only [PU]))
     )
     refine bodyPost_ret (v := .agg #[.int .i64 3, .bool false, .int .i64 n, .string ByteArray.empty, .slice none 0 0, .slice none 0 0]) (by rw [results_cell1 rfl]; go_simp) rfl ?_
     exact ⟨⟨_, rfl, plainJX _ _ _ _ _ _⟩, Hr6.out.keep HK7.out (fun e : r = g4 => by have := Hg4.out; have := H.out.lt; omega), HK6.out.trans HK7.out (fun i hi e => by have := Hg4.out; omega)⟩
end Go.Proofs.WV

namespace Go.Proofs.WV
open Go.RowKit Go.Proofs.KL Go.Proofs.WM
set_option maxRecDepth 100000
set_option linter.unusedSimpArgs false
set_option linter.unusedVariables false

set_option maxHeartbeats 2000000 in
theorem valueBad {w : World} {r : Nat} {T : ByteArray} {s : Bs} (h : Rd w r T s) (hn : ∀ k : Nat, k ∈ [110, 116, 102, 34, 45, 91, 123] → headN s ≠ (k : Int)) (hd : startsDigit s = false) (deep : Int) : Calls Tryd.prog 46 #[.pointer (some ⟨r, 0, none⟩), .int .i64 deep] w (ValOut w r T (.error s.length)) := by
 have H := Lib.hid h
 have H73 := Lib.hid (fun W (hk : Keeps Nob w W) => next73 (h.keep hk id))
 have H76 := Lib.hid (fun W (hk : Keeps Nob w W) => digit76 (h.keep hk id))
 have Hfail := Lib.hid (fun W (hk : Keeps Nob w W) => fail47 (h.keep hk id) s.length h.le)
 rw [hd] at H76
 obtain ⟨cv, hcv⟩ : ∃ x, headN s = x := ⟨_, rfl⟩
 rw [hcv] at H73 hn
 have n1 : (cv == 110) = false := beq_eq_false_iff_ne.2 (hn 110 (by decide))
 have n2 : (cv == 116) = false := beq_eq_false_iff_ne.2 (hn 116 (by decide))
 have n3 : (cv == 102) = false := beq_eq_false_iff_ne.2 (hn 102 (by decide))
 have n4 : (cv == 34) = false := beq_eq_false_iff_ne.2 (hn 34 (by decide))
 have n5 : (cv == 45) = false := beq_eq_false_iff_ne.2 (hn 45 (by decide))
 have n6 : (cv == 91) = false := beq_eq_false_iff_ne.2 (hn 91 (by decide))
 have n7 : (cv == 123) = false := beq_eq_false_iff_ne.2 (hn 123 (by decide))
 obtain ⟨n, hnn⟩ : ∃ x, s.length = x := ⟨_, rfl⟩
 have Hn := Lib.hid hnn
 rw [hnn] at Hfail ⊢
 clear h hn hd hcv hnn
 go_enter Tryd.func46, Tryd.ntmps46
 go_wp2_with (first
  | ((with_reducible refine at_dst (N := 2) rfl ?_); go_must (refine ev_box (cs := #[.pointer (some ⟨r, 0, none⟩)]) rfl rfl rfl ?_; intro g2 w1 hg2 hl2 hb2 hk2)
     have Hb2 := Lib.hid hb2
     have HKa := Lib.hid hk2
     clear hb2 hk2
     (try simp only [PU]))
  | ((with_reducible refine at_dst (N := 3) rfl ?_); go_must (refine ev_box (cs := #[.int .i64 deep]) rfl rfl rfl ?_; intro g3 w2 hg3 hl3 hb3 hk3)
     have Hb2 := Lib.hid (hk3.blk Hb2.out id)
     have Hb3 := Lib.hid hb3
     have HKa := Lib.hid (HKa.out.trans hk3 (fun _ _ h => h))
     clear hb3 hk3
     (try simp only [PU]))
  | ((with_reducible refine at_dst (N := 4) rfl ?_); go_must (refine ev_alloc rfl rfl zero25 rfl ?_; intro g4 w3 hg4 hl4 hb4 hk4)
     have Hb2 := Lib.hid (hk4.blk Hb2.out id)
     have Hb3 := Lib.hid (hk4.blk Hb3.out id)
     have Hb4 := Lib.hid hb4
     have Hg4 := Lib.hid (show w.heap.size ≤ g4 from Nat.le_trans HKa.out.size hg4)
     have HKa := Lib.hid (HKa.out.trans hk4 (fun _ _ h => h))
     have c2 := (blk_cell Hb2.out 0).trans rfl
     clear hb4 hk4
     (try simp only [PU]))
  | (go_at_call 73; go_must (refine (H73.out _ HKa.out).mono ?_; rintro e w4 ⟨rfl, hk5⟩)
     have Hb2 := Lib.hid (hk5.blk Hb2.out id)
     have Hb3 := Lib.hid (hk5.blk Hb3.out id)
     have Hb4 := Lib.hid (hk5.blk Hb4.out id)
     have HKa := Lib.hid (HKa.out.trans hk5 (fun _ _ h => h))
     have Hr4 := Lib.hid (H.out.keep HKa.out id)
     clear c2 hk5
     have c2 := (blk_cell Hb2.out 0).trans rfl
     (try simp only [PU]))
  | (go_at_call 76; go_must (refine (H76.out _ HKa.out).mono ?_; rintro e w5 ⟨rfl, hk6⟩)
     have Hb2 := Lib.hid (hk6.blk Hb2.out id)
     have Hb3 := Lib.hid (hk6.blk Hb3.out id)
     have Hb4 := Lib.hid (hk6.blk Hb4.out id)
     have HKa := Lib.hid (HKa.out.trans hk6 (fun _ _ h => h))
     have Hr4 := Lib.hid (H.out.keep HKa.out id)
     clear c2 hk6
     have c2 := (blk_cell Hb2.out 0).trans rfl
     (try simp only [PU]))
 )
 have q1 := (blk_cell Hr4.out.blk 1).trans rfl
 rw [Hn.out] at q1
 refine wp_region_perm [(0, true), (1, true), (2, true), (3, true), (4, true), (5, false)] (fun w' => w'.cell? ⟨g2, 0, none⟩ = some (.pointer (some ⟨r, 0, none⟩)) ∧ w'.cell? ⟨r, 1, none⟩ = some (.int .i64 (T.size - n : Nat))) rfl (by kernel_rfl) (by kernel_rfl) (by decide) (fun c a d v w h => by cases d <;> exact h) ⟨c2, q1⟩ ?_
 refine pq (some 57) ?_; (try simp only [PU])
 refine pq (some 58) ?_; (try simp only [PU])
 refine pq (some 59) ?_; (try simp only [PU])
 refine pq (some 60) ?_; (try simp only [PU])
 refine pq (some 61) ?_; (try simp only [PU])
 refine perm_e rfl ?_
 go_wp2_with (go_at_call 47; go_must (refine (Hfail.out _ (HKa.out.then (Keeps.refl Nob _).drew)).mono ?_; rintro e w7 ⟨rfl, rfl⟩); unfold stopAt)
 exact ⟨rfl, rfl, (HKa.out.any (M := (· = r))).then (Keeps.refl Nob _).drew⟩
end Go.Proofs.WV

namespace Go.Proofs.WV
open Go.RowKit Go.Proofs.KL Go.Proofs.WM
set_option maxRecDepth 100000
set_option linter.unusedSimpArgs false
set_option linter.unusedVariables false

def stepI (dp : Nat) : Nat → List J → Bs → R (List J) := fun f acc s => addR acc (innerF f dp s)
theorem items_list (dp : Nat) : ∀ (f : Nat) (acc : List J) (r : Bs), itemsF f dp acc r = listF 93 (stepI dp) f acc r
 | 0, _, _ => by unfold itemsF listF; rfl
 | f + 1, acc, r => by
   unfold itemsF listF stepI
   rcases innerF f dp r with e | ⟨v, r1⟩
   · rfl
   · simp only [addR]
     rcases moreB 93 r1 with r2 | r2 | e
     · rfl
     · exact items_list dp f _ _
     · rfl
def arrR : R (List J) → R J
 | .ok x => .ok (.mk 5 false 0 ByteArray.empty [] x.1, x.2)
 | .error e => .error e
theorem value_list (f dp : Nat) (q : Bs) : valueF (f + 1) dp (91 :: q) = arrR (openL 93 (stepI dp) f [] q) := by
 unfold valueF openL
 rw [if_neg (by decide), if_neg (by decide), if_neg (by decide), if_neg (by decide), if_neg (by decide), if_pos rfl]
 rcases openB 93 q with _ | r
 · simp only [items_list]
   rcases listF 93 (stepI dp) f [] (blanksB q) with e | ⟨v, r1⟩ <;> rfl
 · rfl
theorem stepI_len {dp f : Nat} {acc acc' : List J} {s s' : Bs} (h : stepI dp f acc s = .ok (acc', s')) : s'.length ≤ s.length ∧ acc'.length + s'.length ≤ acc.length + s.length := by
 unfold stepI at h
 rcases hi : innerF f dp s with e | ⟨v, r1⟩
 · rw [hi] at h; cases h
 · rw [hi] at h
   simp only [addR, Except.ok.injEq, Prod.mk.injEq] at h
   obtain ⟨rfl, rfl⟩ := h
   have := ((read_ok f).2.1 dp s v r1 hi).2.1
   simp only [List.length_append, List.length_cons, List.length_nil]
   omega
set_option maxHeartbeats 2000000 in
theorem valueList {w : World} {r : Nat} {T : ByteArray} {q : Bs} (h : Rd w r T (91 :: q)) (f dp : Nat) (hf : 3 * (blanksB q).length + 3 ≤ f)
  (hin : ∀ f' s W', s.length ≤ q.length → 3 * s.length + 2 ≤ f' → Rd W' r T s → Calls Tryd.prog 80 #[.pointer (some ⟨r, 0, none⟩), .int .i64 dp] W' (ValOut W' r T (innerF f' dp s))) :
  Calls Tryd.prog 46 #[.pointer (some ⟨r, 0, none⟩), .int .i64 dp] w (ValOut w r T (valueF (f + 1) dp (91 :: q))) := by
 obtain ⟨i25, hi25, hs25⟩ := info25
 have HI := Lib.hid (And.intro hi25 hs25)
 have H := Lib.hid h
 have H73 := Lib.hid (fun W (hk : Keeps Nob w W) => next73 (h.keep hk id))
 have H76 := Lib.hid (fun W (hk : Keeps Nob w W) => digit76 (h.keep hk id))
 have hhd : headN (91 :: q) = 91 := rfl
 have hsd : startsDigit (91 :: q) = false := by show isDigit 91 = false; decide
 rw [hhd] at H73
 rw [hsd] at H76
 rw [value_list]
 have hq : q.length ≤ 1000000 := by have := h.le; have := h.len; simp only [List.length_cons] at *; omega
 have HL := Lib.hid (fun (W : World) (g2 g3 g6 : Nat) (hr : Rd W r T (91 :: q)) (hb : g6 ≤ W.heap.size) (hg : w.heap.size ≤ g2 ∧ w.heap.size ≤ g3 ∧ w.heap.size ≤ g6)
   (hI : ItemsInv r g2 g3 g6 g6 dp (.int .i64 5) (.bool false) (.int .i64 0) (.string ByteArray.empty) (.slice none 0 0) [] W) =>
  list78v hr g6 ⟨Nat.lt_of_lt_of_le h.lt hg.2.2, hb⟩ 93 g6 g2 g3 (stepI dp) (ItemsInv r g2 g3 g6 g6 dp (.int .i64 5) (.bool false) (.int .i64 0) (.string ByteArray.empty) (.slice none 0 0))
   (fun x W1 W2 hi hk => by
     obtain ⟨a1, a2, vv, a3, a4⟩ := hi
     have hl := h.lt
     exact ⟨hk.blk a1 (fun e : g2 = r => by omega), hk.blk a2 (fun e : g3 = r => by omega), vv, hk.blk a3 (fun e : g6 = r => by omega), a4.keep hk (fun b _ e => .inl (by rw [e]; exact Nat.lt_of_lt_of_le hl hg.2.2))⟩)
   (fun f x s x' s' hs => (stepI_len hs).1) List.length q.length (fun f x s x' s' hs => (stepI_len hs).2)
   (fun f' x s W1 hf' hB hr1 hi1 hk1 => by
     have hl := h.lt
     have hsz := hk1.size
     have hd : r < g6 ∧ ¬ g2 = r ∧ ¬ g3 = r ∧ g6 ≤ g6 ∧ g6 ≤ W1.heap.size := ⟨by omega, by omega, by omega, Nat.le_refl _, by omega⟩
     have hc := fun W' (hr' : Rd W' r T s) => hin f' s W' (by omega) hf' hr'
     unfold stepI
     rcases hres : innerF f' dp s with m | ⟨v, r1⟩
     · rw [hres] at hc
       exact part79e hr1 hi1 hd (by omega) hc
     · rw [hres] at hc
       exact part79o hr1 hi1 hd (by omega) hc)
   f hf [] hI (by simp))
 obtain ⟨R0, hR0⟩ : ∃ x, openL 93 (stepI dp) f [] q = x := ⟨_, rfl⟩
 rw [hR0] at HL ⊢
 clear h hin hf hhd hsd hR0 hi25 hs25
 rcases R0 with m | ⟨vs, r1⟩
 · show Calls _ _ _ _ (ValOut w r T (.error m))
   go_enter Tryd.func46, Tryd.ntmps46
   go_wp2_with (first
    | ((with_reducible refine at_dst (N := 2) rfl ?_); go_must (refine ev_box (cs := #[.pointer (some ⟨r, 0, none⟩)]) rfl rfl rfl ?_; intro g2 w1 hg2 hl2 hb2 hk2)
       have Hb2 := Lib.hid hb2
       have HKa := Lib.hid hk2
       have hgB := hg2
       clear hb2 hk2
       (try simp only [PU]))
    | ((with_reducible refine at_dst (N := 3) rfl ?_); go_must (refine ev_box (cs := #[.int .i64 dp]) rfl rfl rfl ?_; intro g3 w2 hg3 hl3 hb3 hk3)
       have Hb2 := Lib.hid (hk3.blk Hb2.out id)
       have Hb3 := Lib.hid hb3
       have hgA : w.heap.size ≤ g2 ∧ w.heap.size ≤ g3 := ⟨hgB, Nat.le_trans HKa.out.size hg3⟩
       have HKa := Lib.hid (HKa.out.trans hk3 (fun _ _ h => h))
       clear hb3 hk3
       (try simp only [PU]))
    | ((with_reducible refine at_dst (N := 4) rfl ?_); go_must (refine ev_alloc rfl rfl zero25 rfl ?_; intro g4 w3 hg4 hl4 hb4 hk4)
       have Hb2 := Lib.hid (hk4.blk Hb2.out id)
       have Hb3 := Lib.hid (hk4.blk Hb3.out id)
       have Hb4 := Lib.hid hb4
       have Hg4 := Lib.hid (show w.heap.size ≤ g4 from Nat.le_trans HKa.out.size hg4)
       have HKa := Lib.hid (HKa.out.trans hk4 (fun _ _ h => h))
       have c2 := (blk_cell Hb2.out 0).trans rfl
       have Hg2 := Lib.hid (show w.heap.size ≤ g2 ∧ w.heap.size ≤ g3 ∧ g2 < w3.heap.size ∧ g3 < w3.heap.size from ⟨hgA.1, hgA.2, blk_lt Hb2.out, blk_lt Hb3.out⟩)
       clear hb4 hk4
       (try simp only [PU]))
    | (go_at_call 73; go_must (refine (H73.out _ HKa.out).mono ?_; rintro e w4 ⟨rfl, hk5⟩)
       have Hb2 := Lib.hid (hk5.blk Hb2.out id)
       have Hb3 := Lib.hid (hk5.blk Hb3.out id)
       have Hb4 := Lib.hid (hk5.blk Hb4.out id)
       have HKa := Lib.hid (HKa.out.trans hk5 (fun _ _ h => h))
       have Hr4 := Lib.hid (H.out.keep HKa.out id)
       clear c2 hk5
       have c2 := (blk_cell Hb2.out 0).trans rfl
       (try simp only [PU]))
    | (go_at_call 76; go_must (refine (H76.out _ HKa.out).mono ?_; rintro e w5 ⟨rfl, hk6⟩)
       have Hb2 := Lib.hid (hk6.blk Hb2.out id)
       have Hb3 := Lib.hid (hk6.blk Hb3.out id)
       have Hb4 := Lib.hid (hk6.blk Hb4.out id)
       have HKa := Lib.hid (HKa.out.trans hk6 (fun _ _ h => h))
       have Hr4 := Lib.hid (H.out.keep HKa.out id)
       clear c2 hk6
       have c2 := (blk_cell Hb2.out 0).trans rfl
       (try simp only [PU]))
    | ((with_reducible refine at_dst (N := 6) rfl ?_); go_must (refine ev_alloc rfl rfl zero25 rfl ?_; intro g6 w6 hg6 hl6 hb6 hk6)
       have Hb4w := Hb4
       have Hb2 := Lib.hid (hk6.blk Hb2.out id)
       have Hb3 := Lib.hid (hk6.blk Hb3.out id)
       have Hb4 := Lib.hid (hk6.blk Hb4.out id)
       have Hb6 := Lib.hid hb6
       have Hg6 := Lib.hid (show w.heap.size ≤ g2 ∧ w.heap.size ≤ g3 ∧ w.heap.size ≤ g6 from ⟨Hg2.out.1, Hg2.out.2.1, Nat.le_trans HKa.out.size hg6⟩)
       have HKb := Lib.hid (HKa.out.trans hk6 (fun _ _ h => h))
       have Hk6 := Lib.hid hk6
       have Hg46 := Lib.hid (show g4 < g6 from Nat.lt_of_lt_of_le (blk_lt Hb4w.out) hg6)
       clear hb6 hk6
       (try simp only [PU]))
    | ((with_reducible refine at_store (t := 25) (p := 6) rfl ?_); go_must (refine ev_store (cs' := #[.int .i64 5, .bool false, .int .i64 0, .string ByteArray.empty, .slice none 0 0, .slice none 0 0]) rfl rfl rfl rfl rfl rfl HI.out.1 HI.out.2 rfl Hb6.out (Nat.le_of_ble_eq_true rfl) rfl ?_; intro w7 hb7 hk7)
       have Hb2 := Lib.hid (hk7.blk Hb2.out (blk_type Hb2.out Hb6.out (by decide) : ¬ g2 = g6))
       have Hb3 := Lib.hid (hk7.blk Hb3.out (blk_type Hb3.out Hb6.out (by decide) : ¬ g3 = g6))
       have HKb := Lib.hid (show Keeps Nob w w7 from HKb.out.trans hk7 (fun i hi e => by have := Hg6.out.2.2; omega))
       have Hr5 := Lib.hid (H.out.keep HKb.out id)
       have Hb47 := Lib.hid (hk7.blk Hb4.out (fun e : g4 = g6 => by have := Hg46.out; omega))
       have Hb6 := Lib.hid hb7
       clear c2
       have c2 := (blk_cell Hb2.out 0).trans rfl
       clear hb7 hk7
       (try simp only [PU]))
    | (go_at_call 78; go_must (refine (HL.out _ g2 g3 g6 Hr5.out (Nat.le_of_lt (blk_lt Hb6.out)) Hg6.out ⟨Hb2.out, Hb3.out, _, Hb6.out, OwnJ.nil _ _ _⟩).mono ?_; rintro e w8 ⟨rfl, hk8⟩); have HK8 := Lib.hid hk8; clear hk8; unfold stopAt; (try simp only [PU]))
   )
   exact ⟨rfl, rfl, HKb.out.any.trans HK8.out (fun i hi e => e.elim id (fun e => by have := Hg6.out.2.2; omega))⟩
 · show Calls _ _ _ _ (ValOut w r T (.ok (.mk 5 false 0 ByteArray.empty [] vs, r1)))
   go_enter Tryd.func46, Tryd.ntmps46
   go_wp2_with (first
    | ((with_reducible refine at_dst (N := 2) rfl ?_); go_must (refine ev_box (cs := #[.pointer (some ⟨r, 0, none⟩)]) rfl rfl rfl ?_; intro g2 w1 hg2 hl2 hb2 hk2)
       have Hb2 := Lib.hid hb2
       have HKa := Lib.hid hk2
       have hgB := hg2
       clear hb2 hk2
       (try simp only [PU]))
    | ((with_reducible refine at_dst (N := 3) rfl ?_); go_must (refine ev_box (cs := #[.int .i64 dp]) rfl rfl rfl ?_; intro g3 w2 hg3 hl3 hb3 hk3)
       have Hb2 := Lib.hid (hk3.blk Hb2.out id)
       have Hb3 := Lib.hid hb3
       have hgA : w.heap.size ≤ g2 ∧ w.heap.size ≤ g3 := ⟨hgB, Nat.le_trans HKa.out.size hg3⟩
       have HKa := Lib.hid (HKa.out.trans hk3 (fun _ _ h => h))
       clear hb3 hk3
       (try simp only [PU]))
    | ((with_reducible refine at_dst (N := 4) rfl ?_); go_must (refine ev_alloc rfl rfl zero25 rfl ?_; intro g4 w3 hg4 hl4 hb4 hk4)
       have Hb2 := Lib.hid (hk4.blk Hb2.out id)
       have Hb3 := Lib.hid (hk4.blk Hb3.out id)
       have Hb4 := Lib.hid hb4
       have Hg4 := Lib.hid (show w.heap.size ≤ g4 from Nat.le_trans HKa.out.size hg4)
       have HKa := Lib.hid (HKa.out.trans hk4 (fun _ _ h => h))
       have c2 := (blk_cell Hb2.out 0).trans rfl
       have Hg2 := Lib.hid (show w.heap.size ≤ g2 ∧ w.heap.size ≤ g3 ∧ g2 < w3.heap.size ∧ g3 < w3.heap.size from ⟨hgA.1, hgA.2, blk_lt Hb2.out, blk_lt Hb3.out⟩)
       clear hb4 hk4
       (try simp only [PU]))
    | (go_at_call 73; go_must (refine (H73.out _ HKa.out).mono ?_; rintro e w4 ⟨rfl, hk5⟩)
       have Hb2 := Lib.hid (hk5.blk Hb2.out id)
       have Hb3 := Lib.hid (hk5.blk Hb3.out id)
       have Hb4 := Lib.hid (hk5.blk Hb4.out id)
       have HKa := Lib.hid (HKa.out.trans hk5 (fun _ _ h => h))
       have Hr4 := Lib.hid (H.out.keep HKa.out id)
       clear c2 hk5
       have c2 := (blk_cell Hb2.out 0).trans rfl
       (try simp only [PU]))
    | (go_at_call 76; go_must (refine (H76.out _ HKa.out).mono ?_; rintro e w5 ⟨rfl, hk6⟩)
       have Hb2 := Lib.hid (hk6.blk Hb2.out id)
       have Hb3 := Lib.hid (hk6.blk Hb3.out id)
       have Hb4 := Lib.hid (hk6.blk Hb4.out id)
       have HKa := Lib.hid (HKa.out.trans hk6 (fun _ _ h => h))
       have Hr4 := Lib.hid (H.out.keep HKa.out id)
       clear c2 hk6
       have c2 := (blk_cell Hb2.out 0).trans rfl
       (try simp only [PU]))
    | ((with_reducible refine at_dst (N := 6) rfl ?_); go_must (refine ev_alloc rfl rfl zero25 rfl ?_; intro g6 w6 hg6 hl6 hb6 hk6)
       have Hb4w := Hb4
       have Hb2 := Lib.hid (hk6.blk Hb2.out id)
       have Hb3 := Lib.hid (hk6.blk Hb3.out id)
       have Hb4 := Lib.hid (hk6.blk Hb4.out id)
       have Hb6 := Lib.hid hb6
       have Hg6 := Lib.hid (show w.heap.size ≤ g2 ∧ w.heap.size ≤ g3 ∧ w.heap.size ≤ g6 from ⟨Hg2.out.1, Hg2.out.2.1, Nat.le_trans HKa.out.size hg6⟩)
       have HKb := Lib.hid (HKa.out.trans hk6 (fun _ _ h => h))
       have Hk6 := Lib.hid hk6
       have Hg46 := Lib.hid (show g4 < g6 from Nat.lt_of_lt_of_le (blk_lt Hb4w.out) hg6)
       clear hb6 hk6
       (try simp only [PU]))
    | ((with_reducible refine at_store (t := 25) (p := 6) rfl ?_); go_must (refine ev_store (cs' := #[.int .i64 5, .bool false, .int .i64 0, .string ByteArray.empty, .slice none 0 0, .slice none 0 0]) rfl rfl rfl rfl rfl rfl HI.out.1 HI.out.2 rfl Hb6.out (Nat.le_of_ble_eq_true rfl) rfl ?_; intro w7 hb7 hk7)
       have Hb2 := Lib.hid (hk7.blk Hb2.out (blk_type Hb2.out Hb6.out (by decide) : ¬ g2 = g6))
       have Hb3 := Lib.hid (hk7.blk Hb3.out (blk_type Hb3.out Hb6.out (by decide) : ¬ g3 = g6))
       have HKb := Lib.hid (show Keeps Nob w w7 from HKb.out.trans hk7 (fun i hi e => by have := Hg6.out.2.2; omega))
       have Hr5 := Lib.hid (H.out.keep HKb.out id)
       have Hb47 := Lib.hid (hk7.blk Hb4.out (fun e : g4 = g6 => by have := Hg46.out; omega))
       have Hb6 := Lib.hid hb7
       clear c2
       have c2 := (blk_cell Hb2.out 0).trans rfl
       clear hb7 hk7
       (try simp only [PU]))
    | (go_at_call 78; go_must (refine (HL.out _ g2 g3 g6 Hr5.out (Nat.le_of_lt (blk_lt Hb6.out)) Hg6.out ⟨Hb2.out, Hb3.out, _, Hb6.out, OwnJ.nil _ _ _⟩).mono ?_; rintro e w8 ⟨⟨y8, rfl⟩, hr8, ⟨-, -, vv, h6, hown⟩, hk8⟩; obtain ⟨X, xs, hrow⟩ := id hown; obtain ⟨vA, vc, rfl, -⟩ := row_slice hrow.row)
       have Hr8 := Lib.hid hr8
       have Hown := Lib.hid hown
       have HK8 := Lib.hid (show Keeps (· = r) w w8 from HKb.out.any.trans hk8 (fun i hi e => e.elim id (fun e => by have := Hg6.out.2.2; omega)))
       have Hb9 := Lib.hid (hk8.blk (Hb47.out) (fun e => e.elim (fun e => by have := Hg4.out; have := H.out.lt; omega) (fun e => by have := Hg46.out; omega)))
       have s0 := (blk_cell h6 0).trans rfl
       have s1 := (blk_cell h6 1).trans rfl
       have s2 := (blk_cell h6 2).trans rfl
       have s3 := (blk_cell h6 3).trans rfl
       have s4 := (blk_cell h6 4).trans rfl
       have s5 := (blk_cell h6 5).trans rfl
       clear hr8 h6 hown hk8 hrow
       generalize vs.length = nv at *
       (try simp only [PU]))
    | ((with_reducible refine at_store (t := 25) (p := 4) rfl ?_); go_must (refine ev_store (cs' := #[.int .i64 5, .bool false, .int .i64 0, .string ByteArray.empty, .slice none 0 0, .slice vA nv vc]) rfl rfl rfl rfl rfl rfl HI.out.1 HI.out.2 rfl Hb9.out (Nat.le_of_ble_eq_true rfl) rfl ?_; intro w9 hb9 hk9)
       have HK9 := Lib.hid hk9
       clear s0 s1 s2 s3 s4 s5
       have s0 := (blk_cell hb9 0).trans rfl
       have s1 := (blk_cell hb9 1).trans rfl
       have s2 := (blk_cell hb9 2).trans rfl
       have s3 := (blk_cell hb9 3).trans rfl
       have s4 := (blk_cell hb9 4).trans rfl
       have s5 := (blk_cell hb9 5).trans rfl
       clear hb9 hk9
       (try simp only [PU]))
   )
   refine bodyPost_ret (v := .agg #[.int .i64 5, .bool false, .int .i64 0, .string ByteArray.empty, .slice none 0 0, .slice vA nv vc]) (by rw [results_cell1 rfl]; go_simp) rfl ?_
   have hjs := (Hown.out.js.keep HK9.out (X' := fun b => w.heap.size ≤ b) (fun b hb hx e => by have := Hg46.out; omega) (fun b hb hx => Nat.le_trans Hg6.out.2.2 hx))
   exact ⟨⟨_, rfl, JX.close (strs_nil _ _) hjs⟩, Hr8.out.keep HK9.out (fun e : r = g4 => by have := Hg4.out; have := H.out.lt; omega), HK8.out.trans HK9.out (fun i hi e => by have := Hg4.out; omega)⟩
end Go.Proofs.WV

namespace Go.Proofs.WV
open Go.RowKit Go.Proofs.KL Go.Proofs.WM
set_option linter.unusedVariables false

def stepP (dp : Nat) : Nat → List ByteArray × List J → Bs → R (List ByteArray × List J) := fun f x s =>
 match keyB x.1 s with
 | .error e => .error e
 | .ok y => match innerF f dp y.2 with
   | .error e => .error e
   | .ok z => .ok ((x.1 ++ [y.1], x.2 ++ [z.1]), z.2)
theorem pairs_list (dp : Nat) : ∀ (f : Nat) (ks : List ByteArray) (vs : List J) (r : Bs), pairsF f dp ks vs r = listF 125 (stepP dp) f (ks, vs) r
 | 0, _, _, _ => by unfold pairsF listF; rfl
 | f + 1, ks, vs, r => by
   unfold pairsF listF stepP
   rcases keyB ks r with e | ⟨k, r0⟩
   · rfl
   · simp only
     rcases innerF f dp r0 with e | ⟨v, r1⟩
     · rfl
     · simp only
       rcases moreB 125 r1 with r2 | r2 | e
       · rfl
       · exact pairs_list dp f _ _ _
       · rfl
def tabR : R (List ByteArray × List J) → R J
 | .ok x => .ok (.mk 6 false 0 ByteArray.empty x.1.1 x.1.2, x.2)
 | .error e => .error e
theorem value_table (f dp : Nat) (q : Bs) : valueF (f + 1) dp (123 :: q) = tabR (openL 125 (stepP dp) f ([], []) q) := by
 unfold valueF openL
 rw [if_neg (by decide), if_neg (by decide), if_neg (by decide), if_neg (by decide), if_neg (by decide), if_neg (by decide), if_pos rfl]
 rcases openB 125 q with _ | r
 · simp only [pairs_list]
   rcases listF 125 (stepP dp) f ([], []) (blanksB q) with e | ⟨⟨ks, vs⟩, r1⟩ <;> rfl
 · rfl
theorem stepP_len {dp f : Nat} {x x' : List ByteArray × List J} {s s' : Bs} (h : stepP dp f x s = .ok (x', s')) : s'.length ≤ s.length ∧ x'.2.length + s'.length ≤ x.2.length + s.length := by
 unfold stepP at h
 rcases hk : keyB x.1 s with e | ⟨k, r0⟩
 · rw [hk] at h; cases h
 · rw [hk] at h
   simp only at h
   rcases hi : innerF f dp r0 with e | ⟨v, r1⟩
   · rw [hi] at h; cases h
   · rw [hi] at h
     simp only [Except.ok.injEq, Prod.mk.injEq] at h
     obtain ⟨rfl, rfl⟩ := h
     have h1 := (keyB_len hk).1
     have h2 := ((read_ok f).2.1 dp r0 v r1 hi).2.1
     simp only [List.length_append, List.length_cons, List.length_nil]
     omega
end Go.Proofs.WV

namespace Go.Proofs.WV
open Go.RowKit Go.Proofs.KL Go.Proofs.WM
set_option linter.unusedVariables false
set_option linter.unusedSimpArgs false

def LI {σ : Type} (close : UInt8) (step : Nat → σ → Bs → R σ) (R0 : R σ) (acc : σ) : Except Nat Bs → Prop
 | .ok s => ∃ f, 3 * s.length + 3 ≤ f ∧ listF close step f acc s = R0
 | .error n => R0 = .error n
def behind (x : Except Nat Bs) : Except Nat Bs := blanksX (takeX [44] (blanksX x))
theorem behind_len (x : Except Nat Bs) : lenX (behind x) ≤ lenX x - 1 := by
 cases x with
 | error n => exact Nat.zero_le _
 | ok s =>
   unfold behind
   have h1 := blanksB_le s
   simp only [blanksX]
   cases hb : blanksB s with
   | nil => exact Nat.zero_le _
   | cons c q =>
     rw [hb] at h1
     simp only [List.length_cons] at h1
     by_cases hc : c = 44
     · subst hc
       have h2 := blanksB_le q
       have : takeX [44] (.ok (44 :: q)) = .ok q := by simp [takeX, wordB, wordB_nil]
       rw [this]
       simp only [blanksX, lenX]
       omega
     · have : takeX [44] (.ok (c :: q)) = .error (q.length + 1) := by simp [takeX, wordB, hc]
       rw [this]
       exact Nat.zero_le _
theorem li_step {σ : Type} {close : UInt8} {step : Nat → σ → Bs → R σ} {R0 : R σ} {acc : σ} {s : Bs} (h : LI close step R0 acc (.ok s)) (hlen : ∀ f x s x' s', step f x s = .ok (x', s') → s'.length ≤ s.length) (hcl : ¬ close = 44) :
  ∃ f, 3 * s.length + 2 ≤ f ∧ ∀ acc', (∀ y, step f acc s = .ok y → y.1 = acc') →
   (∀ q2, blanksX (stX (step f acc s)) = .ok (close :: q2) → R0 = .ok (acc', q2)) ∧
   ((∀ q2, blanksX (stX (step f acc s)) ≠ .ok (close :: q2)) → LI close step R0 acc' (behind (stX (step f acc s)))) := by
 obtain ⟨f, hf, h⟩ := h
 obtain ⟨f, rfl⟩ : ∃ g, f = g + 1 := ⟨f - 1, by omega⟩
 refine ⟨f, by omega, fun acc' ha => ?_⟩
 unfold listF at h
 cases hs : step f acc s with
 | error n =>
   rw [hs] at h
   refine ⟨fun q2 e => (by cases e), fun _ => ?_⟩
   exact h.symm
 | ok y =>
   obtain ⟨a, r1⟩ := y
   obtain rfl : a = acc' := ha _ hs
   have hl := hlen _ _ _ _ _ hs
   rw [hs] at h
   simp only at h
   unfold moreB at h
   simp only [stX, blanksX]
   cases hb : blanksB r1 with
   | nil =>
     rw [hb] at h
     simp only at h
     refine ⟨fun q2 e => (by injection e with e; cases e), fun _ => ?_⟩
     unfold behind
     simp only [blanksX, hb]
     exact h.symm
   | cons c q =>
     rw [hb] at h
     simp only at h
     have hle := blanksB_le r1
     rw [hb, List.length_cons] at hle
     by_cases hc : c = close
     · subst hc
       rw [if_pos rfl] at h
       refine ⟨fun q2 e => ?_, fun hn => absurd rfl (hn q)⟩
       injection e with e
       injection e with _ e
       subst e
       exact h.symm
     · rw [if_neg hc] at h
       refine ⟨fun q2 e => ?_, fun _ => ?_⟩
       · injection e with e
         injection e with e _
         exact absurd e hc
       · unfold behind
         simp only [blanksX, hb]
         by_cases h44 : c = 44
         · subst h44
           rw [if_pos rfl] at h
           have ht : takeX [44] (.ok (44 :: q)) = .ok q := by simp [takeX, wordB, wordB_nil]
           rw [ht]
           have := blanksB_le q
           exact ⟨f, by omega, h⟩
         · rw [if_neg h44] at h
           have ht : takeX [44] (.ok (c :: q)) = .error (q.length + 1) := by simp [takeX, wordB, h44]
           rw [ht]
           exact h.symm
theorem li_begin {σ : Type} {close : UInt8} {step : Nat → σ → Bs → R σ} {f : Nat} {x0 : σ} {q : Bs} (hf : 3 * q.length + 3 ≤ f) :
  (∀ q2, blanksB q = close :: q2 → openL close step f x0 q = .ok (x0, q2)) ∧ ((∀ q2, blanksB q ≠ close :: q2) → LI close step (openL close step f x0 q) x0 (.ok (blanksB q))) := by
 refine ⟨fun q2 e => openL_at e, fun hn => ?_⟩
 have hle := blanksB_le q
 refine ⟨f, by omega, ?_⟩
 unfold openL openB
 cases hb : blanksB q with
 | nil => rfl
 | cons c q' =>
   by_cases hc : c = close
   · subst hc; exact absurd hb (hn q')
   · simp only [if_neg hc, hb]
theorem headX_close {x : Except Nat Bs} {close : UInt8} (h : headX x = (close.toNat : Int)) (h0 : close ≠ 0) : ∃ q, x = .ok (close :: q) := by
 have hz : ¬ (0 : Int) = (close.toNat : Int) := fun e => h0 (UInt8.toNat_inj.1 (by show close.toNat = 0; omega))
 cases x with
 | error n => exact absurd h hz
 | ok s =>
   cases s with
   | nil => exact absurd h hz
   | cons c q =>
     have h' : (c.toNat : Int) = (close.toNat : Int) := h
     exact ⟨q, by rw [show c = close from UInt8.toNat_inj.1 (by omega)]⟩
end Go.Proofs.WV

namespace Go.Proofs.KL
open Go.RowKit
inductive PC where
 | done : PC
 | q (i : Nat) (r : PC) : PC
 | qf (i : Nat) (r : PC) : PC
 | br (l : List Nat) (f : Nat → PC) : PC
 | brc (l : List Nat) (f : Nat → PC) : PC
section
variable {P : Program} {ops : Array Oper} {Q : Exit → Act → World → Prop} {S : World → Prop}
def waitsB (md : Region.Mode) (ops : Array Oper) (c i : Nat) : Bool := match ops[c]? with
 | none => false
 | some o => o.after.any (fun e => Region.binds md e && e.on == i)
def wpAnyC (P : Program) (md : Region.Mode) (ops : Array Oper) (Q : Exit → Act → World → Prop) (S : World → Prop) (c : Nat) : Nat → Array Bool → Act → World → Prop
 | 0, listed, a, w => Region.ready md ops listed = [] ∧ Q .normal a w
 | fuel + 1, listed, a, w => (Region.ready md ops listed = [] → Q .normal a w) ∧
   ∀ i ∈ Region.ready md ops listed, wpOp P ops Q i (fun a' w' => ((listed.setIfInBounds i true).getD c true = false → S w') ∧ wpAnyC P md ops Q S c fuel (listed.setIfInBounds i true) a' w') a w
theorem wpAnyC_plain {md : Region.Mode} {c : Nat} : ∀ (fuel : Nat) (listed : Array Bool) (a : Act) (w : World), wpAnyC P md ops Q S c fuel listed a w → wpAny P md ops Q fuel listed a w
 | 0, _, _, _, h => h
 | fuel + 1, _, _, _, h => ⟨h.1, fun i hi => wpOp_mono (fun a' w' h' => wpAnyC_plain fuel _ a' w' h'.2) (h.2 i hi)⟩
theorem waits_not {md : Region.Mode} {c i j : Nat} {listed : Array Bool} (hw : waitsB md ops c i = true) (hi : i ∈ Region.ready md ops listed) (hj : j ∈ Region.ready md ops listed) : j ≠ c := by
 rintro rfl
 obtain ⟨_, oj, hoj, hall⟩ := mem_ready.1 hj
 unfold waitsB at hw
 rw [hoj] at hw
 obtain ⟨e, he, hb⟩ := Array.any_eq_true'.1 hw
 simp only [Bool.and_eq_true, beq_iff_eq] at hb
 have h1 := hall e he hb.1
 have h0 := (mem_ready.1 hi).1
 rw [hb.2] at h1
 rcases Nat.lt_or_ge i listed.size with h' | h'
 · simp [h'] at h0 h1; rw [h0] at h1; cases h1
 · simp [Array.getElem?_eq_none h'] at h1
theorem wpAnyC_first {md : Region.Mode} {c i : Nat} {oi : Oper} {v : Value} (hi : ops[i]? = some oi) (hs : Region.noSelect ops = true) (hQ : ∀ c a w, Q (.panic c) (a.put oi.dst v) w → Q (.panic c) a w) (hw : waitsB md ops c i = true) :
  ∀ (fuel : Nat) (listed : Array Bool) (a : Act) (w : World),
   (∀ j oj, ops[j]? = some oj → j ≠ i → listed.getD j true = false → (∀ e ∈ oj.after, Region.binds md e = true → e.on ≠ i) → oi.apart ops oj = true) →
   i ∈ Region.ready md ops listed → YieldsIf P ops S oi v a → listed.getD c true = false → S w →
   wpAnyC P md ops Q S c fuel (listed.setIfInBounds i true) (a.put oi.dst v) w → wpAnyC P md ops Q S c (fuel + 1) listed a w := by
 have hsel := Region.noSelect_spec hs
 intro fuel
 induction fuel with
 | zero =>
   intro listed a w _ hr hy hc hS H
   refine ⟨fun h => (by rw [h] at hr; cases hr), fun j hj => ?_⟩
   by_cases hji : j = i
   · subst hji; exact hy.wpOp hi hS ⟨fun _ => hS, H⟩
   · have := ready_mono hj hji
     rw [H.1] at this
     cases this
 | succ fuel ih =>
   intro listed a w hfree hr hy hc hS H
   refine ⟨fun h => (by rw [h] at hr; cases hr), fun j hj => ?_⟩
   by_cases hji : j = i
   · subst hji; exact hy.wpOp hi hS ⟨fun _ => hS, H⟩
   · have hjc := waits_not hw hr hj
     have hic := waits_not hw hr hr
     have h1 := H.2 j (ready_mono hj hji)
     obtain ⟨hjun, oj, hoj, hall⟩ := mem_ready.1 hj
     have hnot : ∀ e ∈ oj.after, Region.binds md e = true → e.on ≠ i := fun e he hb heq => by
      have h1 := hall e he hb
      have h0 := (mem_ready.1 hr).1
      rw [heq] at h1
      rcases Nat.lt_or_ge i listed.size with h' | h'
      · simp [h'] at h0 h1; rw [h0] at h1; cases h1
      · simp [Array.getElem?_eq_none h'] at h1
     have h2 := wpOp_putIf hoj (hfree j oj hoj hji hjun hnot) (fun cs b => hsel i oi cs b hi) (fun cs b => hsel j oj cs b hoj) hQ hy h1
     have hfree' : ∀ k ok, ops[k]? = some ok → k ≠ i → (listed.setIfInBounds j true).getD k true = false →
       (∀ e ∈ ok.after, Region.binds md e = true → e.on ≠ i) → oi.apart ops ok = true := fun k ok hk hki hun hno => by
      refine hfree k ok hk hki ?_ hno
      by_cases hjk : j = k
      · subst hjk; exact hjun
      · rw [getD_set_ne true hjk] at hun; exact hun
     have hcj : (listed.setIfInBounds j true).getD c true = false := by rw [getD_set_ne true hjc]; exact hc
     have hcij : ((listed.setIfInBounds i true).setIfInBounds j true).getD c true = false := by rw [getD_set_ne true hjc, getD_set_ne true hic]; exact hc
     refine wpOp_mono (fun a' w' h3 => ⟨fun _ => h3.2.1 hcij, ih (listed.setIfInBounds j true) a' w' hfree' (ready_mono hr (Ne.symm hji)) h3.1 hcj (h3.2.1 hcij) ?_⟩) h2
     rw [Array.setIfInBounds_comm _ _ hji]
     exact h3.2.2
theorem wpAnyC_free {md : Region.Mode} {c i : Nat} {oi : Oper} {v : Value} (hi : ops[i]? = some oi) (hs : Region.noSelect ops = true) (hQ : ∀ c a w, Q (.panic c) (a.put oi.dst v) w → Q (.panic c) a w) (hic : i ≠ c) :
  ∀ (fuel : Nat) (listed : Array Bool) (a : Act) (w : World),
   (∀ j oj, ops[j]? = some oj → j ≠ i → listed.getD j true = false → (∀ e ∈ oj.after, Region.binds md e = true → e.on ≠ i) → oi.apart ops oj = true) →
   i ∈ Region.ready md ops listed → YieldsIf P ops (fun _ => True) oi v a → (listed.getD c true = false → S w) →
   wpAnyC P md ops Q S c fuel (listed.setIfInBounds i true) (a.put oi.dst v) w → wpAnyC P md ops Q S c (fuel + 1) listed a w := by
 have hsel := Region.noSelect_spec hs
 intro fuel
 induction fuel with
 | zero =>
   intro listed a w _ hr hy hS H
   refine ⟨fun h => (by rw [h] at hr; cases hr), fun j hj => ?_⟩
   by_cases hji : j = i
   · subst hji; exact hy.wpOp hi trivial ⟨fun e => hS (by rw [getD_set_ne true hic] at e; exact e), H⟩
   · have := ready_mono hj hji
     rw [H.1] at this
     cases this
 | succ fuel ih =>
   intro listed a w hfree hr hy hS H
   refine ⟨fun h => (by rw [h] at hr; cases hr), fun j hj => ?_⟩
   by_cases hji : j = i
   · subst hji; exact hy.wpOp hi trivial ⟨fun e => hS (by rw [getD_set_ne true hic] at e; exact e), H⟩
   · have h1 := H.2 j (ready_mono hj hji)
     obtain ⟨hjun, oj, hoj, hall⟩ := mem_ready.1 hj
     have hnot : ∀ e ∈ oj.after, Region.binds md e = true → e.on ≠ i := fun e he hb heq => by
      have h1 := hall e he hb
      have h0 := (mem_ready.1 hr).1
      rw [heq] at h1
      rcases Nat.lt_or_ge i listed.size with h' | h'
      · simp [h'] at h0 h1; rw [h0] at h1; cases h1
      · simp [Array.getElem?_eq_none h'] at h1
     have h2 := wpOp_putIf hoj (hfree j oj hoj hji hjun hnot) (fun cs b => hsel i oi cs b hi) (fun cs b => hsel j oj cs b hoj) hQ hy h1
     have hfree' : ∀ k ok, ops[k]? = some ok → k ≠ i → (listed.setIfInBounds j true).getD k true = false →
       (∀ e ∈ ok.after, Region.binds md e = true → e.on ≠ i) → oi.apart ops ok = true := fun k ok hk hki hun hno => by
      refine hfree k ok hk hki ?_ hno
      by_cases hjk : j = k
      · subst hjk; exact hjun
      · rw [getD_set_ne true hjk] at hun; exact hun
     have hcm := Array.setIfInBounds_comm (xs := listed) true true (Ne.symm hji)
     have hcc : ((listed.setIfInBounds i true).setIfInBounds j true).getD c true = (listed.setIfInBounds j true).getD c true := by rw [hcm, getD_set_ne true hic]
     refine wpOp_mono (fun a' w' h3 => ⟨fun e => h3.2.1 (by rw [hcc]; exact e), ih (listed.setIfInBounds j true) a' w' hfree' (ready_mono hr (Ne.symm hji)) h3.1 (fun e => h3.2.1 (by rw [hcc]; exact e)) ?_⟩) h2
     rw [Array.setIfInBounds_comm _ _ hji]
     exact h3.2.2
def PC.ok (md : Region.Mode) (ops : Array Oper) (c : Nat) : PC → Nat → Array Bool → Bool
 | .done, _, listed => (Region.ready md ops listed).isEmpty
 | .q _ _, 0, _ => false
 | .q i r, fuel + 1, listed => (!listed.getD c true) && (waitsB md ops c i && (Region.free md ops listed i && ((Region.ready md ops listed).contains i && PC.ok md ops c r fuel (listed.setIfInBounds i true))))
 | .qf _ _, 0, _ => false
 | .qf i r, fuel + 1, listed => (i != c) && (Region.free md ops listed i && ((Region.ready md ops listed).contains i && PC.ok md ops c r fuel (listed.setIfInBounds i true)))
 | .br _ _, 0, _ => false
 | .br l f, fuel + 1, listed => (Region.ready md ops listed == l) && ((!l.isEmpty) && l.all (fun i => PC.ok md ops c (f i) fuel (listed.setIfInBounds i true)))
 | .brc _ _, 0, _ => false
 | .brc l f, fuel + 1, listed => (Region.ready md ops listed == l) && ((!l.isEmpty) && l.all (fun i => (listed.setIfInBounds i true).getD c true && PC.ok md ops c (f i) fuel (listed.setIfInBounds i true)))
def wpTreeC (P : Program) (ops : Array Oper) (Q : Exit → Act → World → Prop) (S : World → Prop) : PC → Act → World → Prop
 | .done, a, w => Q .normal a w
 | .q i r, a, w => ∃ o v, ops[i]? = some o ∧ YieldsIf P ops S o v a ∧ wpTreeC P ops Q S r (a.put o.dst v) w
 | .qf i r, a, w => ∃ o v, ops[i]? = some o ∧ YieldsIf P ops (fun _ => True) o v a ∧ wpTreeC P ops Q S r (a.put o.dst v) w
 | .br l f, a, w => ∀ i ∈ l, ∃ o, ops[i]? = some o ∧ wpList P ops (Exit.then (fun a' w' => S w' ∧ wpTreeC P ops Q S (f i) a' w') Q) [o] a w
 | .brc l f, a, w => ∀ i ∈ l, ∃ o, ops[i]? = some o ∧ wpList P ops (Exit.then (fun a' w' => wpTreeC P ops Q S (f i) a' w') Q) [o] a w
theorem wpAnyC_all {md : Region.Mode} {c fuel : Nat} {listed : Array Bool} {a : Act} {w : World} {rs : List Nat} (hr : Region.ready md ops listed = rs) (hne : rs ≠ [])
  (h : ∀ i ∈ rs, wpOp P ops Q i (fun a' w' => ((listed.setIfInBounds i true).getD c true = false → S w') ∧ wpAnyC P md ops Q S c fuel (listed.setIfInBounds i true) a' w') a w) : wpAnyC P md ops Q S c (fuel + 1) listed a w :=
 ⟨fun h0 => absurd (hr ▸ h0) hne, hr ▸ h⟩
theorem op_list {o : Oper} {j : Nat} {a : Act} {w : World} {K K' : Act → World → Prop} (ho : ops[j]? = some o) (key : ∀ a' w', K a' w' → K' a' w') (h : wpList P ops (Exit.then K Q) [o] a w) : wpOp P ops Q j K' a w := by
 unfold wpOp
 rw [ho]
 unfold wpList at h
 simp only
 split
 · rename_i hw
   rw [if_pos hw] at h
   rcases h with h | ⟨h1, h2⟩
   · refine .inl ?_
     have h' : o.wp P a w (fun a' w' => K a' w') Q := h
     exact Oper.wp_mono key h'
   · exact .inr ⟨h1, h2⟩
 · rename_i hw
   rw [if_neg hw] at h
   exact key _ _ h
theorem treec_sound {md : Region.Mode} {c : Nat} (hs : Region.noSelect ops = true) (hQ : ∀ c a d v w, Q (.panic c) (Act.put a d v) w → Q (.panic c) a w) :
  ∀ (t : PC) (fuel : Nat) (listed : Array Bool) (a : Act) (w : World), PC.ok md ops c t fuel listed = true → (listed.getD c true = false → S w) → wpTreeC P ops Q S t a w → wpAnyC P md ops Q S c fuel listed a w
 | .done, 0, listed, a, w, hB, _, h => ⟨by simpa [PC.ok] using hB, h⟩
 | .done, fuel + 1, listed, a, w, hB, _, h => by
   have hr : Region.ready md ops listed = [] := by simpa [PC.ok] using hB
   exact ⟨fun _ => h, by rw [hr]; simp⟩
 | .q i r, 0, listed, a, w, hB, hS, h => by simp [PC.ok] at hB
 | .q i r, fuel + 1, listed, a, w, hB, hS, h => by
   obtain ⟨o, v, ho, hy, h⟩ := h
   simp only [PC.ok, Bool.and_eq_true] at hB
   obtain ⟨h1, h2, h3, h4, h5⟩ := hB
   have hc : listed.getD c true = false := by
    cases e : listed.getD c true with
    | false => rfl
    | true => rw [e] at h1; cases h1
   have hr : i ∈ Region.ready md ops listed := by simpa using h4
   exact wpAnyC_first ho hs (fun c a w => hQ c a _ _ w) h2 fuel listed a w (Region.free_spec ho h3) hr hy hc (hS hc)
    (treec_sound hs hQ r fuel _ _ _ h5 (fun _ => hS hc) h)
 | .qf i r, 0, listed, a, w, hB, hS, h => by simp [PC.ok] at hB
 | .qf i r, fuel + 1, listed, a, w, hB, hS, h => by
   obtain ⟨o, v, ho, hy, h⟩ := h
   simp only [PC.ok, Bool.and_eq_true, bne_iff_ne] at hB
   obtain ⟨h2, h3, h4, h5⟩ := hB
   have hr : i ∈ Region.ready md ops listed := by simpa using h4
   exact wpAnyC_free ho hs (fun c a w => hQ c a _ _ w) h2 fuel listed a w (Region.free_spec ho h3) hr hy hS
    (treec_sound hs hQ r fuel _ _ _ h5 (fun e => hS (by rw [getD_set_ne true h2] at e; exact e)) h)
 | .br l f, 0, listed, a, w, hB, hS, h => by simp [PC.ok] at hB
 | .br l f, fuel + 1, listed, a, w, hB, hS, h => by
   simp only [PC.ok, Bool.and_eq_true, beq_iff_eq] at hB
   refine wpAnyC_all hB.1 (by intro hn; rw [hn] at hB; simp at hB) (fun j hj => ?_)
   obtain ⟨o, ho, h⟩ := h j hj
   have hBj := List.all_eq_true.1 hB.2.2 j hj
   exact op_list ho (fun a' w' ⟨h1, h2⟩ => ⟨fun _ => h1, treec_sound hs hQ (f j) fuel _ _ _ hBj (fun _ => h1) h2⟩) h
 | .brc l f, 0, listed, a, w, hB, hS, h => by simp [PC.ok] at hB
 | .brc l f, fuel + 1, listed, a, w, hB, hS, h => by
   simp only [PC.ok, Bool.and_eq_true, beq_iff_eq] at hB
   refine wpAnyC_all hB.1 (by intro hn; rw [hn] at hB; simp at hB) (fun j hj => ?_)
   obtain ⟨o, ho, h⟩ := h j hj
   have hBj := List.all_eq_true.1 hB.2.2 j hj
   simp only [Bool.and_eq_true] at hBj
   have hn : (listed.setIfInBounds j true).getD c true = false → S w := fun e => by rw [hBj.1] at e; cases e
   exact op_list ho (fun a' w' h2 => ⟨fun e => by (rw [hBj.1] at e; cases e), treec_sound hs hQ (f j) fuel _ _ _ hBj.2 (fun e => by (rw [hBj.1] at e; cases e)) h2⟩) h
theorem then_normal {K : Act → World → Prop} {a : Act} {w : World} (h : K a w) : Exit.then K Q .normal a w := h
theorem wp_region_treec {id : Nat} {l : List Oper} {a : Act} {w : World} (c : Nat) (t : PC) (S : World → Prop) (hm : P.follows .mixedOrders = true) (hs : Region.noSelect l.toArray = true)
  (hB : PC.ok .any l.toArray c t l.toArray.size (Array.replicate l.toArray.size false) = true) (hQ : ∀ c a d v w, Q (.panic c) (Act.put a d v) w → Q (.panic c) a w)
  (hS : S w.drew) (h : wpTreeC P l.toArray Q S t a w.drew) : (Code.region id l.toArray true).wp P Q a w :=
 wp_region_any hm (wpAnyC_plain _ _ _ _ (treec_sound hs hQ t _ _ _ _ hB (fun _ => hS) h))
theorem treec_nil {a : Act} {w : World} (h : Q .normal a w) : wpTreeC P ops Q S .done a w := h
theorem treec_q {i : Nat} {r : PC} {l : List Oper} {o : Oper} {v : Value} {a : Act} {w : World} (d : Option Tmp) (ho : l[i]? = some o) (hd : o.dst = d) (hw : Region.wanted o (yielded l.toArray a.tmps) = true) (hr : ∀ w', S w' → (execOp a.eval o).run P w' = .ok (.value v) w')
  (h : wpTreeC P l.toArray Q S r (a.put d v) w) : wpTreeC P l.toArray Q S (.q i r) a w := ⟨o, v, by simpa using ho, .inl ⟨hw, hr⟩, hd ▸ h⟩
theorem treec_e {i : Nat} {r : PC} {f : Nat → PC} {l : List Oper} {o : Oper} {a : Act} {w : World} (ho : l[i]? = some o) (hf : f i = r)
  (h : wpList P l.toArray (Exit.then (fun a' w' => S w' ∧ wpTreeC P l.toArray Q S r a' w') Q) [o] a w) : wpTreeC P l.toArray Q S (.br [i] f) a w := by
 intro j hj
 rw [List.mem_singleton.1 hj]
 exact ⟨o, by simpa using ho, hf ▸ h⟩
theorem treec_f {i : Nat} {r : PC} {f : Nat → PC} {l : List Oper} {o : Oper} {a : Act} {w : World} (ho : l[i]? = some o) (hf : f i = r)
  (h : wpList P l.toArray (Exit.then (fun a' w' => wpTreeC P l.toArray Q S r a' w') Q) [o] a w) : wpTreeC P l.toArray Q S (.brc [i] f) a w := by
 intro j hj
 rw [List.mem_singleton.1 hj]
 exact ⟨o, by simpa using ho, hf ▸ h⟩
end
end Go.Proofs.KL

namespace Go.Proofs.KL
open Go.RowKit
section
variable {P : Program} {Q : Exit → Act → World → Prop} {S : World → Prop} {i : Nat} {l : List Oper} {o : Oper} {v : Value} {a : Act} {w : World}
end
end Go.Proofs.KL

namespace Go.Proofs.WV
open Go.RowKit Go.Proofs.KL Go.Proofs.WM
set_option linter.unusedVariables false

theorem RowJ.swap {M : Nat → Prop} {W W' : World} {lo : Nat} {E E' : Nat → Prop} {v : Value} {acc : List J} {X : Nat → Prop} {xs : List Value} (h : RowJ W lo E v acc X xs) (hk : Keeps M W W') (hM : ∀ b, b < W.heap.size → M b → b < lo ∨ E b) (hE : ∀ b, E' b → E b ∨ W.heap.size ≤ b) : RowJ W' lo E' v acc X xs := by
 have h' := h.keep hk hM
 refine ⟨h'.row, fun b hb => ⟨(h'.low b hb).1, fun e => ?_, (h'.low b hb).2.2⟩, fun k hk' e => ?_, h'.val⟩
 · have h1 := h.low b hb
   rcases hE b e with h2 | h2
   · exact h1.2.1 h2
   · omega
 · have h1 := row_lt h.row k hk'
   rcases hE k e with h2 | h2
   · exact h.ne k hk' h2
   · omega
theorem OwnJ.swap {M : Nat → Prop} {W W' : World} {lo : Nat} {E E' : Nat → Prop} {v : Value} {acc : List J} (h : OwnJ W lo E v acc) (hk : Keeps M W W') (hM : ∀ b, b < W.heap.size → M b → b < lo ∨ E b) (hE : ∀ b, E' b → E b ∨ W.heap.size ≤ b) : OwnJ W' lo E' v acc := by
 obtain ⟨X, xs, h⟩ := h
 exact ⟨X, xs, h.swap hk hM hE⟩
def OwnS (W : World) (lo : Nat) (v : Value) (ks : List ByteArray) : Prop := W.ownsRow lo 9 1 v ks.length (ks.map Value.string)
theorem OwnS.nil (W : World) (lo : Nat) : OwnS W lo (.slice none 0 0) [] := ⟨rfl, .inl ⟨rfl, rfl⟩⟩
theorem OwnS.lt {W : World} {lo : Nat} {v : Value} {ks : List ByteArray} (h : OwnS W lo v ks) : ∀ k, v.ownBlock = some k → lo ≤ k ∧ k < W.heap.size := fun k hk => by
 rcases h.2 with ⟨rfl, _⟩ | ⟨g, cap, cur, rfl, hb, hg, _⟩
 · cases hk
 · simp only [Value.ownBlock, Option.some.injEq] at hk; subst hk; exact ⟨hb, blk_lt hg⟩
theorem OwnS.keep {M : Nat → Prop} {W W' : World} {lo : Nat} {v : Value} {ks : List ByteArray} (h : OwnS W lo v ks) (hk : Keeps M W W') (hn : ∀ k, v.ownBlock = some k → ¬ M k) : OwnS W' lo v ks := by
 obtain ⟨hl, h⟩ := h
 refine ⟨hl, ?_⟩
 rcases h with h | ⟨g, cap, cur, rfl, hb, hg, h⟩
 · exact .inl h
 · exact .inr ⟨g, cap, cur, rfl, hb, hk.blk hg (hn g rfl), h⟩
theorem OwnS.slice {W : World} {lo : Nat} {v : Value} {ks : List ByteArray} (h : OwnS W lo v ks) : ∃ A c, v = .slice A ks.length c ∧ ks.length ≤ c := by
 rcases h.2 with ⟨rfl, h0⟩ | ⟨g, cap, cur, rfl, _, _, hc, _⟩
 · exact ⟨none, 0, by rw [h0], by omega⟩
 · exact ⟨_, cap, rfl, hc⟩
theorem OwnS.ne {W : World} {lo g : Nat} {v : Value} {ks : List ByteArray} {cs : Array Value} {t : TypeId} (h : OwnS W lo v ks) (hg : W.heap[g]? = some (.cells cs t (0, 0))) (ht : t ≠ 9) : some g ≠ v.ownBlock := fun e => by
 rcases h.2 with ⟨rfl, _⟩ | ⟨g', cap, cur, rfl, hb, hg', _⟩
 · cases e
 · simp only [Value.ownBlock, Option.some.injEq] at e
   subst e
   rw [hg] at hg'
   injection hg' with hg'
   injection hg' with _ h2 _
   exact ht h2
theorem OwnS.neMap {W : World} {lo g : Nat} {v : Value} {ks : List ByteArray} {es : Array MapEntry} {c : Nat} (h : OwnS W lo v ks) (hg : W.heap[g]? = some (.map es c)) : some g ≠ v.ownBlock := fun e => by
 rcases h.2 with ⟨rfl, _⟩ | ⟨g', cap, cur, rfl, hb, hg', _⟩
 · cases e
 · simp only [Value.ownBlock, Option.some.injEq] at e
   subst e
   rw [hg] at hg'
   injection hg' with hg'
   cases hg'
theorem OwnS.strs {W : World} {lo : Nat} {v : Value} {ks : List ByteArray} (h : OwnS W lo v ks) : StrsX W (fun b => lo ≤ b) v ks := by
 obtain ⟨hl, h⟩ := h
 rcases h with ⟨rfl, h0⟩ | ⟨g, cap, cur, rfl, hb, hg, hc, hm, hs, ht⟩
 · have e : ks = [] := List.length_eq_zero_iff.1 h0
   subst e
   exact strs_nil W _
 · refine ⟨_, cap, rfl, hc, fun i hi => ⟨g, 0, rfl, hb, ?_⟩⟩
   rw [Nat.zero_add, blk_cell hg i]
   have h1 : (cur.toList.take (ks.length * 1))[i]? = (ks.map Value.string)[i]? := by rw [ht]
   rw [List.getElem?_take, if_pos (by omega), List.getElem?_map, List.getElem?_eq_getElem hi] at h1
   rw [← Array.getElem?_toList, h1, List.getD_eq_getElem?_getD, List.getElem?_eq_getElem hi]
   rfl
end Go.Proofs.WV

namespace Go.Proofs.WV
open Go.RowKit Go.Proofs.KL Go.Proofs.WM
set_option maxRecDepth 100000
set_option linter.unusedSimpArgs false
set_option linter.unusedVariables false

def ValX (w : World) (r : Nat) (T : ByteArray) (R : R J) (e : Ending) (w' : World) : Prop := (∃ v j, e = .returned v ∧ JX w' (fun b => w.heap.size ≤ b ∧ b < w'.heap.size) v j ∧ ∀ y, R = .ok y → y.1 = j) ∧ Rf w' r T (stX R) ∧ Keeps (· = r) w w'
def inX (f d : Nat) : Except Nat Bs → R J
 | .ok s => innerF f (41 - d) s
 | .error n => .error n
def ValS (d : Nat) : Prop := ∀ (z : Int) (f : Nat) (x : Except Nat Bs) (w : World) (r : Nat) (T : ByteArray), z = (d : Int) → (∀ s, x = .ok s → 3 * s.length + 2 ≤ f) → Rf w r T x → Calls Tryd.prog 49 #[.pointer (some ⟨r, 0, none⟩), .int .i64 z] w (ValX w r T (inX f d x))
theorem RowJ.app {W w1 : World} {lo : Nat} {E : Nat → Prop} {v v' : Value} {acc : List J} {X X' : Nat → Prop} {xs : List Value} {x0 x1 x2 x3 x4 x5 : Value} {j : J} (h : RowJ W lo E v acc X xs) (hj : JX W X' (.agg #[x0, x1, x2, x3, x4, x5]) j)
  (hX' : ∀ b, X' b → lo ≤ b ∧ ¬ E b ∧ some b ≠ v.ownBlock ∧ b < W.heap.size) (hE : ∀ b, E b → b < W.heap.size) (hown : w1.ownsRow lo 25 6 v' (acc.length + 1) (xs ++ [x0, x1, x2, x3, x4, x5])) (hk1 : Keeps (fun k => some k = v.ownBlock) W w1)
  (hrow : v'.ownBlock = v.ownBlock ∨ ∃ b, v'.ownBlock = some b ∧ W.heap.size ≤ b) : RowJ w1 lo E v' (acc ++ [j]) (fun b => X b ∨ X' b) (xs ++ [x0, x1, x2, x3, x4, x5]) := by
 have hX : ∀ b, X b ∨ X' b → lo ≤ b ∧ ¬ E b ∧ some b ≠ v.ownBlock ∧ b < W.heap.size := fun b hb => hb.elim (h.low b) (hX' b)
 refine ⟨by rw [List.length_append]; exact hown, fun b hb => ?_, fun k hk he => ?_, fun i hi => ?_⟩
 · obtain ⟨h1, h2, h3, h4⟩ := hX b hb
   refine ⟨h1, h2, fun e => ?_, Nat.lt_of_lt_of_le h4 hk1.size⟩
   rcases hrow with e2 | ⟨k, e2, hk2⟩
   · exact h3 (e.trans e2)
   · rw [e2] at e; injection e with e; omega
 · rcases hrow with e2 | ⟨k2, e2, hk2⟩
   · exact h.ne k (e2 ▸ hk) he
   · rw [e2] at hk; injection hk with e; have := hE k he; omega
 · by_cases e : i < acc.length
   · rw [sixAt_append h.row.1 e, List.getD_eq_getElem?_getD, List.getElem?_append_left e, ← List.getD_eq_getElem?_getD]
     exact (h.val i e).keep hk1 (fun b _ hb e => (h.low b hb).2.2.1 e) (fun _ _ h => .inl h)
   · have e2 : i = acc.length := by simp at hi; omega
     subst e2
     rw [sixAt_last h.row.1, List.getD_eq_getElem?_getD, List.getElem?_append_right (Nat.le_refl _), Nat.sub_self]
     exact hj.keep hk1 (fun b _ hb e => (hX' b hb).2.2.1 e) (fun _ _ h => .inr h)
theorem inX_len {f d : Nat} (s : Bs) : lenX (stX (inX f d (.ok s))) ≤ s.length := by
 show lenX (stX (innerF f (41 - d) s)) ≤ _
 cases hi : innerF f (41 - d) s with
 | error n => exact Nat.zero_le _
 | ok y =>
   obtain ⟨v, r1⟩ := y
   have := ((read_ok f).2.1 _ s v r1 hi).2.1
   show r1.length + 1 ≤ _
   omega
set_option maxHeartbeats 8000000 in
theorem list86 {w : World} {r : Nat} {T : ByteArray} {q : Bs} (h : Rf w r T (.ok (91 :: q))) (d : Nat) (hd : d < 40) (f : Nat) (hf : 3 * q.length + 3 ≤ f) (hV : ValS (d + 1)) (z : Int) (hz : z = (d : Int)) :
  Calls Tryd.prog 86 #[.pointer (some ⟨r, 0, none⟩), .int .i64 z] w (ValX w r T (arrR (openL 93 (stepI (40 - d)) f [] q))) := by
 obtain ⟨i3, hi3, hs3⟩ := infoS3
 obtain ⟨i25, hi25, hs25⟩ := info25
 obtain ⟨i23, hi23, hs23⟩ := info23
 have HI := Lib.hid (And.intro (And.intro hi3 hs3) (And.intro (And.intro hi25 hs25) (And.intro hi23 hs23)))
 have Hrw := Lib.hid h.lt
 have hT := h.len
 have H83 := Lib.hid (fun W (hk : Keeps Nob w W) => take83 (h.keep hk id) ⟨#[91]⟩ (by decide))
 rw [show takeX (bl ⟨#[91]⟩) (.ok (91 :: q)) = .ok q by simp [takeX, wordB, wordB_nil, show bl ⟨#[91]⟩ = [91] from rfl]] at H83
 have hqT : q.length + 1 ≤ T.size := h.le
 obtain ⟨R0, hR0⟩ : ∃ y, openL 93 (stepI (40 - d)) f [] q = y := ⟨_, rfl⟩
 have hbeg := li_begin (close := 93) (step := stepI (40 - d)) (x0 := []) hf
 rw [hR0] at hbeg ⊢
 have Hbeg := Lib.hid hbeg
 have HV := Lib.hid hV
 have hzb : 0 ≤ z ∧ z ≤ 40 := by omega
 have Hz := Lib.hid hz
 obtain ⟨hz0, hz40⟩ := hzb
 have Hdd := Lib.hid hd
 have Hbl := Lib.hid (blanksB_le q)
 clear hi3 hs3 hi25 hs25 hi23 hs23 h hf hV hz hd hR0 hbeg
 go_enter Tryd.func86, Tryd.ntmps86
 go_upto_region 4 with (first
  | ((with_reducible refine at_dst (N := 4) rfl ?_); go_must (refine ev_alloc rfl rfl zero25 rfl ?_; intro g4 w1 hg4 hl4 hb4 hk4)
     have Hb4 := Lib.hid hb4
     have Hg4 := Lib.hid (And.intro hg4 hl4)
     have HK0 := Lib.hid hk4
     clear hb4 hk4 hg4 hl4
     (try simp only [PU]))
  | ((with_reducible refine at_dst (N := 5) rfl ?_); go_must (refine ev_alloc rfl rfl zero25 rfl ?_; intro g5 w2 hg5 hl5 hb5 hk5)
     have Hb4 := Lib.hid (hk5.blk Hb4.out id)
     have Hb5 := Lib.hid hb5
     have Hg5 := Lib.hid (show w.heap.size ≤ g4 ∧ g4 < g5 ∧ g5 < w2.heap.size from ⟨Hg4.out.1, Nat.lt_of_lt_of_le Hg4.out.2 hg5, hl5⟩)
     have HK0 := Lib.hid (HK0.out.trans hk5 (fun _ _ h => h))
     clear hb5 hk5 hg5 hl5 Hg4
     (try simp only [PU]))
  | ((with_reducible refine at_store (t := 25) (p := 5) rfl ?_); go_must (refine ev_store (cs' := #[.int .i64 5, .bool false, .int .i64 0, .string ByteArray.empty, .slice none 0 0, .slice none 0 0]) rfl rfl rfl rfl rfl rfl HI.out.2.1.1 HI.out.2.1.2 rfl Hb5.out (Nat.le_of_ble_eq_true rfl) rfl ?_; intro w3 hb3 hk3)
     have Hb4 := Lib.hid (hk3.blk Hb4.out (fun e : g4 = g5 => by have := Hg5.out; omega))
     have Hb5 := Lib.hid hb3
     have HK0 := Lib.hid (show Keeps Nob w w3 from HK0.out.trans hk3 (fun i hi e => by have := Hg5.out; omega))
     clear hb3 hk3
     (try simp only [PU]))
  | (go_at_call 83; go_must (refine (H83.out _ HK0.out).mono ?_; rintro e w4 ⟨⟨y, rfl⟩, hr4, hk4⟩)
     have Hb4 := Lib.hid (hk4.blk Hb4.out (fun e => by have := Hg5.out; have := Hrw.out; omega))
     have Hb5 := Lib.hid (hk4.blk Hb5.out (fun e => by have := Hg5.out; have := Hrw.out; omega))
     have Hr := Lib.hid hr4
     have HK := Lib.hid ((HK0.out.mono (M' := (· = r)) (fun _ _ e => e.elim)).trans hk4 (fun _ _ h => h))
     clear hr4 hk4
     (try simp only [PU]))
  | (go_at_call 48; go_must (refine (blanks48 Hr.out).mono ?_; rintro e w5 ⟨⟨y, rfl⟩, hr5, hk5⟩)
     have Hb4 := Lib.hid (hk5.blk Hb4.out (fun e => by have := Hg5.out; have := Hrw.out; omega))
     have Hb5 := Lib.hid (hk5.blk Hb5.out (fun e => by have := Hg5.out; have := Hrw.out; omega))
     have Hr := Lib.hid (show Rf w5 r T (.ok (blanksB q)) from hr5)
     have HK := Lib.hid (HK.out.trans hk5 (fun _ _ h => h))
     clear hr5 hk5
     (try simp only [PU]))
 )
 clear H83 HK0
 have Hne := Lib.hid (show ¬ g5 = r ∧ ¬ g4 = r ∧ r < w.heap.size ∧ w.heap.size ≤ g4 ∧ g4 < g5 from ⟨fun e => by have := Hg5.out; have := Hrw.out; omega, fun e => by have := Hg5.out; have := Hrw.out; omega, Hrw.out, Hg5.out.1, Hg5.out.2.1⟩)
 have Hne := Lib.hid (show ¬ g5 = r ∧ ¬ g4 = r ∧ r < w.heap.size ∧ w.heap.size ≤ g4 from ⟨Hne.out.1, Hne.out.2.1, Hne.out.2.2.1, Hne.out.2.2.2.1⟩)
 have Hnx0 := Lib.hid True.intro
 obtain ⟨q0, hq0⟩ : ∃ y, blanksB q = y := ⟨_, rfl⟩
 rw [hq0] at Hr Hbeg Hbl
 clear hq0
 have HJ := Lib.hid (show RowJ w5 w.heap.size (fun b => b = g5 ∨ b = g4) (.slice none 0 0) [] (fun _ => False) [] from ⟨⟨rfl, .inl ⟨rfl, rfl⟩⟩, fun _ h => h.elim, (fun _ h => by cases h), fun i h => absurd h (Nat.not_lt_zero _)⟩)
 by_cases hcl : headN q0 = 93
 · obtain ⟨q2, hq2⟩ := headX_close (x := .ok q0) (close := 93) hcl (by decide)
   obtain rfl : q0 = 93 :: q2 := by injection hq2
   have HR2 := Lib.hid (show R0 = .ok ([], q2) from Hbeg.out.1 q2 rfl)
   obtain ⟨a, ha, ⟨hbk, -⟩, -, hsum, hnx⟩ := Hr.out.cons
   have r1 := (blk_cell hbk 1).trans rfl
   have Hb := Lib.hid hbk
   have Hnx := Lib.hid hnx
   have hai : (a : Int) ≤ 1000000 := by omega
   obtain ⟨A, hA⟩ : ∃ A : Option Addr, A = none := ⟨_, rfl⟩
   obtain ⟨n, hn⟩ : ∃ n : Nat, n = 0 := ⟨_, rfl⟩
   obtain ⟨c, hc⟩ : ∃ n : Nat, n = 0 := ⟨_, rfl⟩
   have HJ := Lib.hid (show RowJ w5 w.heap.size (fun b => b = g5 ∨ b = g4) (.slice A n c) [] (fun _ => False) [] by rw [hA, hn, hc]; exact HJ.out)
   have Hb5 := Lib.hid (show w5.heap[g5]? = some (.cells #[.int .i64 5, .bool false, .int .i64 0, .string ByteArray.empty, .slice none 0 0, .slice A n c] 25 (0, 0)) by rw [hA, hn, hc]; exact Hb5.out)
   clear hbk hnx hsum ha hcl hq2 hA hn hc
   go_wp2_with (first
    | (go_at_call 82; go_must (refine (peek82 Hr.out).mono ?_; rintro e w6 ⟨rfl, hk6⟩; rw [show headX (.ok (93 :: q2)) = 93 from rfl])
       have Hb := Lib.hid (hk6.blk Hb.out id)
       have Hb4 := Lib.hid (hk6.blk Hb4.out id)
       have Hb5 := Lib.hid (hk6.blk Hb5.out id)
       have HJ := Lib.hid (HJ.out.keep hk6 (fun _ _ e => e.elim))
       have HK := Lib.hid (HK.out.then hk6)
       clear r1 hk6
       have r1 := (blk_cell Hb.out 1).trans rfl
       (try simp only [PU]))
    | ((with_reducible refine at_store (t := 3) rfl ?_); go_must (refine ev_store (cs' := #[.string T, .int .i64 ((a : Int) + 1), .int .i64 (-1)]) rfl rfl rfl rfl rfl rfl HI.out.1.1 HI.out.1.2 rfl Hb.out (Nat.le_of_ble_eq_true rfl) rfl ?_; intro w1 hb1 hk1)
       have Hr1 := Lib.hid (Hnx.out _ hb1)
       have Hb5 := Lib.hid (hk1.blk Hb5.out Hne.out.1)
       have Hb4 := Lib.hid (hk1.blk Hb4.out Hne.out.2.1)
       have HJ := Lib.hid (HJ.out.keep hk1 (fun b _ e => .inl (by have := Hne.out.2.2.1; omega)))
       have HK := Lib.hid (HK.out.trans hk1 (fun _ _ h => h))
       clear hb1 hk1 r1
       (try clear c0 c1 c2 c3 c4 c5)
       have c0 := (blk_cell Hb5.out 0).trans rfl
       have c1 := (blk_cell Hb5.out 1).trans rfl
       have c2 := (blk_cell Hb5.out 2).trans rfl
       have c3 := (blk_cell Hb5.out 3).trans rfl
       have c4 := (blk_cell Hb5.out 4).trans rfl
       have c5 := (blk_cell Hb5.out 5).trans rfl
       (try simp only [PU]))
    | ((with_reducible refine at_store (t := 25) (p := 4) rfl ?_); go_must (refine ev_store (cs' := #[.int .i64 5, .bool false, .int .i64 0, .string ByteArray.empty, .slice none 0 0, .slice A n c]) rfl rfl rfl rfl rfl rfl HI.out.2.1.1 HI.out.2.1.2 rfl Hb4.out (Nat.le_of_ble_eq_true rfl) rfl ?_; intro w2 hb2 hk2)
       have Hr1 := Lib.hid (Hr1.out.keep hk2 (fun e => Hne.out.2.1 e.symm))
       have Hb4 := Lib.hid hb2
       have HJ := Lib.hid (HJ.out.keep hk2 (fun b _ e => .inr (.inr e)))
       have HK := Lib.hid (show Keeps (· = r) w w2 from HK.out.trans hk2 (fun i hi e => by have := Hne.out.2.2.2; omega))
       clear hb2 hk2 c0 c1 c2 c3 c4 c5
       have d0 := (blk_cell Hb4.out 0).trans rfl
       have d1 := (blk_cell Hb4.out 1).trans rfl
       have d2 := (blk_cell Hb4.out 2).trans rfl
       have d3 := (blk_cell Hb4.out 3).trans rfl
       have d4 := (blk_cell Hb4.out 4).trans rfl
       have d5 := (blk_cell Hb4.out 5).trans rfl
       (try simp only [PU]))
   )
   refine bodyPost_ret (v := .agg #[.int .i64 5, .bool false, .int .i64 0, .string ByteArray.empty, .slice none 0 0, .slice A n c]) (by rw [results_cell1 rfl]; go_simp) rfl ?_
   refine ⟨⟨_, .mk 5 false 0 ByteArray.empty [] [], rfl, ?_, fun y hy => ?_⟩, ?_, HK.out⟩
   · refine JX.keep (M := Nob) (X := fun b => w.heap.size ≤ b) ?_ (Keeps.refl Nob _) (fun _ _ _ => id) (fun b h1 h2 => ⟨h2, h1⟩)
     exact JX.close (strs_nil _ _) (OwnJ.js ⟨_, _, HJ.out⟩)
   · rw [HR2.out] at hy; injection hy with hy; rw [← hy]
   · rw [HR2.out]; exact Hr1.out
 · skip
   have hclb : (headN q0 == 93) = false := beq_eq_false_iff_ne.2 hcl
   have HL := Lib.hid (Hbeg.out.2 (fun q2 e => hcl (by rw [e]; rfl)))
   obtain ⟨hv, hhv⟩ : ∃ y, headN q0 = y := ⟨_, rfl⟩
   rw [hhv] at hclb
   have Hhv := Lib.hid hhv
   clear hcl hhv Hbeg
   go_upto_block 0 with (first
    | (go_at_call 82; go_must (refine (peek82 Hr.out).mono ?_; rintro e w6 ⟨rfl, hk6⟩; rw [show headX (.ok q0) = headN q0 from rfl, Hhv.out])
       have Hr := Lib.hid (Hr.out.keep hk6 id)
       have Hb4 := Lib.hid (hk6.blk Hb4.out id)
       have Hb5 := Lib.hid (hk6.blk Hb5.out id)
       have HJ := Lib.hid (HJ.out.keep hk6 (fun _ _ e => e.elim))
       have HK := Lib.hid (HK.out.then hk6)
       clear hk6
       (try simp only [PU]))
   )
   go_wp2_with fail
   go_loopg [] (lenX (.ok q0)) (fun K wr => ∃ (x' : Except Nat Bs) (A : Option Addr) (c n : Nat) (acc : List J) (X : Nat → Prop) (xs : List Value), lenX x' ≤ K ∧ n + lenX x' ≤ 1000002 ∧ Hid (acc.length = n) ∧ Hid (Rf wr r T x') ∧ Hid (wr.heap[g5]? = some (.cells #[.int .i64 5, .bool false, .int .i64 0, .string ByteArray.empty, .slice none 0 0, .slice A n c] 25 (0, 0))) ∧ Hid (wr.heap[g4]? = some (.cells #[.int .i64 0, .bool false, .int .i64 0, .string ByteArray.empty, .slice none 0 0, .slice none 0 0] 25 (0, 0))) ∧ Hid (RowJ wr w.heap.size (fun b => b = g5 ∨ b = g4) (.slice A n c) acc X xs) ∧ Hid (LI 93 (stepI (40 - d)) R0 acc x') ∧ Hid (Keeps (· = r) w wr))
   case atStart => exact ⟨.ok q0, none, 0, 0, [], _, _, Nat.le_refl _, by have := Hbl.out; simp only [lenX]; omega, Lib.hid rfl, Hr, Hb5, Hb4, HJ, HL, HK⟩
   case round =>
    obtain ⟨x', A, c, n, acc, X, xs, hl, hb, Hn, Hr, Hb5, Hb4, HJ, HL, HK⟩ := hrel
    cases x' with
    | error m =>
      have HR2 := Lib.hid (show R0 = .error m from HL.out)
      obtain ⟨a, hbk, -, -, -⟩ := id Hr.out
      obtain ⟨y, hy⟩ : ∃ y, T.size - m = y := ⟨_, rfl⟩
      rw [hy] at hbk
      have r2 := (blk_cell hbk 2).trans rfl
      have hy0 : ¬ (y : Int) < 0 := by omega
      have Hr1 := Hr
      clear hbk hy hl hb
      (try clear c0 c1 c2 c3 c4 c5)
      have c0 := (blk_cell Hb5.out 0).trans rfl
      have c1 := (blk_cell Hb5.out 1).trans rfl
      have c2 := (blk_cell Hb5.out 2).trans rfl
      have c3 := (blk_cell Hb5.out 3).trans rfl
      have c4 := (blk_cell Hb5.out 4).trans rfl
      have c5 := (blk_cell Hb5.out 5).trans rfl
      go_wp2_with (first
       | ((with_reducible refine at_store (t := 3) rfl ?_); go_must (refine ev_store (cs' := #[.string T, .int .i64 ((a : Int) + 1), .int .i64 (-1)]) rfl rfl rfl rfl rfl rfl HI.out.1.1 HI.out.1.2 rfl Hb.out (Nat.le_of_ble_eq_true rfl) rfl ?_; intro w1 hb1 hk1)
          have Hr1 := Lib.hid (Hnx.out _ hb1)
          have Hb5 := Lib.hid (hk1.blk Hb5.out Hne.out.1)
          have Hb4 := Lib.hid (hk1.blk Hb4.out Hne.out.2.1)
          have HJ := Lib.hid (HJ.out.keep hk1 (fun b _ e => .inl (by have := Hne.out.2.2.1; omega)))
          have HK := Lib.hid (HK.out.trans hk1 (fun _ _ h => h))
          clear hb1 hk1 r1
          (try clear c0 c1 c2 c3 c4 c5)
          have c0 := (blk_cell Hb5.out 0).trans rfl
          have c1 := (blk_cell Hb5.out 1).trans rfl
          have c2 := (blk_cell Hb5.out 2).trans rfl
          have c3 := (blk_cell Hb5.out 3).trans rfl
          have c4 := (blk_cell Hb5.out 4).trans rfl
          have c5 := (blk_cell Hb5.out 5).trans rfl
          (try simp only [PU]))
       | ((with_reducible refine at_store (t := 25) (p := 4) rfl ?_); go_must (refine ev_store (cs' := #[.int .i64 5, .bool false, .int .i64 0, .string ByteArray.empty, .slice none 0 0, .slice A n c]) rfl rfl rfl rfl rfl rfl HI.out.2.1.1 HI.out.2.1.2 rfl Hb4.out (Nat.le_of_ble_eq_true rfl) rfl ?_; intro w2 hb2 hk2)
          have Hr1 := Lib.hid (Hr1.out.keep hk2 (fun e => Hne.out.2.1 e.symm))
          have Hb4 := Lib.hid hb2
          have HJ := Lib.hid (HJ.out.keep hk2 (fun b _ e => .inr (.inr e)))
          have HK := Lib.hid (show Keeps (· = r) w w2 from HK.out.trans hk2 (fun i hi e => by have := Hne.out.2.2.2; omega))
          clear hb2 hk2 c0 c1 c2 c3 c4 c5
          have d0 := (blk_cell Hb4.out 0).trans rfl
          have d1 := (blk_cell Hb4.out 1).trans rfl
          have d2 := (blk_cell Hb4.out 2).trans rfl
          have d3 := (blk_cell Hb4.out 3).trans rfl
          have d4 := (blk_cell Hb4.out 4).trans rfl
          have d5 := (blk_cell Hb4.out 5).trans rfl
          (try simp only [PU]))
      )
      refine bodyPost_ret (v := .agg #[.int .i64 5, .bool false, .int .i64 0, .string ByteArray.empty, .slice none 0 0, .slice A n c]) (by rw [results_cell1 rfl]; go_simp) rfl ?_
      refine ⟨⟨_, .mk 5 false 0 ByteArray.empty [] acc, rfl, ?_, fun y hy => ?_⟩, ?_, HK.out⟩
      · refine JX.keep (M := Nob) (X := fun b => w.heap.size ≤ b) ?_ (Keeps.refl Nob _) (fun _ _ _ => id) (fun b h1 h2 => ⟨h2, h1⟩)
        exact JX.close (strs_nil _ _) (OwnJ.js ⟨_, _, HJ.out⟩)
      · rw [HR2.out] at hy; cases hy
      · rw [HR2.out]; exact Hr1.out
    | ok s =>
      obtain ⟨f1, hf1, hst⟩ := li_step HL.out (fun _ _ _ _ _ h => (stepI_len h).1) (by decide)
      have Hf1 := Lib.hid hf1
      have Hst := Lib.hid hst
      have he41 := Lib.hid (show 41 - (d + 1) = 40 - d by omega)
      have Hin := Lib.hid (inX_len (f := f1) (d := d + 1) s)
      obtain ⟨R1, hR1⟩ : ∃ y, innerF f1 (40 - d) s = y := ⟨_, rfl⟩
      have Hx := Lib.hid (show inX f1 (d + 1) (.ok s) = R1 by show innerF f1 (41 - (d + 1)) s = R1; rw [he41.out]; exact hR1)
      rw [Hx.out] at Hin
      have HR1 := Lib.hid hR1
      simp only [lenX] at hl hb
      have Hl := Lib.hid (And.intro hl hb)
      have hnb : n ≤ 1000002 := by omega
      obtain ⟨a, hbk, -, -, -⟩ := Hr.out.good
      have r2 := (blk_cell hbk 2).trans rfl
      clear hf1 hst hR1 hbk hl hb
      go_upto_region 8 with fail
      clear r2
      have Hrow0 := HJ
      have HKd := Lib.hid (Keeps.refl Nob wr).drew
      have Hr := Lib.hid (Hr.out.keep HKd.out id)
      have Hb5 := Lib.hid (HKd.out.blk Hb5.out id)
      have Hb4 := Lib.hid (HKd.out.blk Hb4.out id)
      have HJ := Lib.hid (HJ.out.keep HKd.out (fun _ _ e => e.elim))
      have s5 := (blk_cell Hb5.out 5).trans rfl
      have HKr := Lib.hid (show Keeps (· = r) wr wr.drew from HKd.out.mono (fun _ _ e => e.elim))
      have Hglt := Lib.hid (show g5 < wr.heap.size ∧ g4 < wr.heap.size ∧ w.heap.size ≤ wr.heap.size from ⟨blk_lt Hb5.out, blk_lt Hb4.out, HK.out.size⟩)
      refine wp_region_treec 9 (.q 0 (.q 1 (.q 2 (.q 3 (.q 4 (.br [5] (fun k => .br [6] (fun k => .br [7] (fun k => .q 8 (.brc [9] (fun k => .done))))))))))) (fun w' => w'.cell? ⟨g5, 5, none⟩ = some (.slice A n c)) rfl (by kernel_rfl) (by kernel_rfl) (fun c a d v w h => by cases d <;> exact h) s5 ?_
      refine treec_q (v := ?v1_6) (some 27) rfl rfl rfl ?q1_6 ?h1_6; (case q1_6 => (intro w' hS; skip; first | (go_simp; done) | (go_simp; rfl))); (try simp only [PU])
      refine treec_q (v := ?v1_5) (some 28) rfl rfl rfl ?q1_5 ?h1_5; (case q1_5 => (intro w' hS; skip; first | (go_simp; done) | (go_simp; rfl))); (try simp only [PU])
      refine treec_q (v := ?v1_4) (some 29) rfl rfl rfl ?q1_4 ?h1_4; (case q1_4 => (intro w' hS; skip; first | (go_simp; done) | (go_simp; rfl))); (try simp only [PU])
      refine treec_q (v := ?v1_3) (some 30) rfl rfl rfl ?q1_3 ?h1_3; (case q1_3 => (intro w' hS; skip; first | (go_simp; done) | (go_simp; rfl))); (try simp only [PU])
      refine treec_q (v := ?v1_2) (some 31) rfl rfl rfl ?q1_2 ?h1_2; (case q1_2 => (intro w' hS; skip; first | (go_simp; done) | (go_simp; rfl))); (try simp only [PU])
      refine treec_e rfl rfl ?_
      go_wp2_with (go_at_call 49; go_must (refine (HV.out (z + 1) f1 (.ok s) _ r T (by rw [Hz.out]; rfl) (fun s' e => by injection e with e; subst e; exact Hf1.out) Hr.out).mono ?_; rw [Hx.out]; rintro e w6 ⟨⟨v6, j6, rfl, hv6, hj6⟩, hr6, hk6⟩; obtain ⟨jk, jb, jn, jt, jks, jvs, jkv, jvv, hjj, rfl, hjk, hjv⟩ := hv6.open; obtain ⟨jA, jc, rfl, -, -⟩ := hjk; obtain ⟨jB, jd, ju, rfl, -, -, -⟩ := hjv))
      have HX6 := Lib.hid (show JX w6 (fun b => wr.heap.size ≤ b ∧ b < w6.heap.size) _ j6 from hv6)
      have Hj6 := Lib.hid hj6
      have Hr := Lib.hid hr6
      have Hb5 := Lib.hid (hk6.blk Hb5.out Hne.out.1)
      have Hb4 := Lib.hid (hk6.blk Hb4.out Hne.out.2.1)
      have HJ := Lib.hid (HJ.out.keep hk6 (fun b _ e => .inl (by have := Hne.out.2.2.1; omega)))
      have HKr := Lib.hid (HKr.out.trans hk6 (fun _ _ h => h))
      clear hv6 hj6 hr6 hk6 hjj s5
      have s5 := (blk_cell Hb5.out 5).trans rfl
      generalize jks.length = jkl at *
      generalize jvs.length = jvl at *
      (try simp only [PU])
      refine ⟨s5, ?_⟩
      refine treec_e rfl rfl ?_
      go_must (refine ev_slice (cs := #[.int .i64 jk, .bool jb, .int .i64 jn, .string jt, .slice jA jkl jc, .slice jB jvl jd]) (t := 25) (n := 1) (c := 1) rfl (by first | (go_simp; done) | (go_simp; rfl)) ?_; intro gz w7 hgz hlz hbz hkz)
      (try simp only [PU])
      have Hbz := Lib.hid hbz
      have HX6 := Lib.hid (HX6.out.keep (X' := fun b => wr.heap.size ≤ b ∧ b < w7.heap.size) hkz (fun _ _ _ => id) (fun b hb h => ⟨h.1, Nat.lt_of_lt_of_le hb hkz.size⟩))
      have Hr := Lib.hid (Hr.out.keep hkz id)
      have Hb5 := Lib.hid (hkz.blk Hb5.out id)
      have Hb4 := Lib.hid (hkz.blk Hb4.out id)
      have HJ := Lib.hid (HJ.out.keep hkz (fun _ _ e => e.elim))
      have HKr := Lib.hid (HKr.out.then hkz)
      clear hgz hlz hbz hkz s5
      have s5 := (blk_cell Hb5.out 5).trans rfl
      refine wpList_nil ⟨s5, ?_⟩
      refine treec_e rfl rfl ?_
      have hrow := HJ.out.row
      rw [Hn.out] at hrow
      have Hrow := Lib.hid hrow
      clear hrow
      go_must (refine ev_append rfl rfl Tryd.underlying23 info25b rfl (by decide) (base := w.heap.size) rfl Hrow.out rfl (news := [.int .i64 jk, .bool jb, .int .i64 jn, .string jt, .slice jA jkl jc, .slice jB jvl jd]) rfl (fun _ => ⟨_, rfl, World.news_of_block Hbz.out⟩) (by simp [Value.oneCell']) (by omega) (by decide) (by have h1 := HKr.out.size; have h2 := Hglt.out.2.2; omega) ?_; intro v8 w8 hown8 hk8 hr8 hf8; obtain ⟨gv, cv, rfl⟩ := hf8 (by decide))
      (try simp only [PU])
      have HJ2 := Lib.hid (HJ.out.app HX6.out (fun b hb => ⟨by have := Hglt.out.2.2; omega, fun e => by have := Hglt.out; rcases e with e | e <;> omega, fun e => by have h1 := (row_lt Hrow0.out.row b e.symm).2; omega, hb.2⟩) (fun b e => by have h1 := Hglt.out; have h2 := HKr.out.size; rcases e with e | e <;> omega) (by rw [Hn.out]; exact hown8) hk8 hr8)
      have Hr := Lib.hid (Hr.out.keep hk8 (fun e => by have h1 := (row_lt Hrow.out r e.symm).1; have h2 := Hne.out.2.2.1; omega))
      have Hb5 := Lib.hid (hk8.blk Hb5.out (fun e => HJ.out.ne g5 e.symm (.inl rfl)))
      have Hb4 := Lib.hid (hk8.blk Hb4.out (fun e => HJ.out.ne g4 e.symm (.inr rfl)))
      have HKw := Lib.hid (show Keeps (· = r) w w8 from (HK.out.trans HKr.out (fun _ _ h => h)).trans hk8 (fun i hi e => by have := (row_lt Hrow.out i e.symm).1; omega))
      have HJ := HJ2
      clear hown8 hk8 hr8 hf8 Hbz HJ2 s5
      have s5 := (blk_cell Hb5.out 5).trans rfl
      refine wpList_nil ⟨s5, ?_⟩
      refine treec_q (v := ?v1_1) (some 35) rfl rfl rfl ?q1_1 ?h1_1; (case q1_1 => (intro w' hS; skip; first | (go_simp; done) | (go_simp; rfl))); (try simp only [PU])
      refine treec_f rfl rfl ?_
      go_must (refine ev_store (off := 5) (cs' := #[.int .i64 5, .bool false, .int .i64 0, .string ByteArray.empty, .slice none 0 0, .slice (some ⟨gv, 0, none⟩) (n + 1) cv]) rfl rfl rfl rfl rfl rfl HI.out.2.2.1 HI.out.2.2.2 rfl Hb5.out (Nat.le_of_ble_eq_true rfl) rfl ?_; intro w9 hb9 hk9)
      (try simp only [PU])
      have HJ := Lib.hid (HJ.out.keep hk9 (fun b _ e => .inr (.inl e)))
      have Hr := Lib.hid (Hr.out.keep hk9 (fun e => Hne.out.1 e.symm))
      have Hb4 := Lib.hid (hk9.blk Hb4.out (fun e : g4 = g5 => by have := Hg5.out; omega))
      have HKw := Lib.hid (show Keeps (· = r) w w9 from HKw.out.trans hk9 (fun i hi e => by have := Hg5.out; omega))
      have Hb5 := Lib.hid hb9
      clear hb9 hk9 s5
      refine wpList_nil (then_normal ?_)
      refine treec_nil ?_
      have Hst2 := Lib.hid (Hst.out (acc ++ [j6]) (fun y hy => by
       unfold stepI at hy
       rw [HR1.out] at hy
       cases hR : R1 with
       | error n => rw [hR] at hy; cases hy
       | ok y1 =>
         rw [hR] at hy
         have := Hj6.out y1 hR
         injection hy with hy
         rw [← hy, ← this]))
      have hsx : stX (stepI (40 - d) f1 acc s) = stX R1 := by
       unfold stepI
       rw [HR1.out]
       cases R1 <;> rfl
      rw [hsx] at Hst2
      obtain ⟨x1, hx1⟩ : ∃ y, stX R1 = y := ⟨_, rfl⟩
      rw [hx1] at Hst2 Hr Hin
      have HK := HKw
      clear hsx hx1 Hst Hx HR1 Hj6 HX6 HKr HKw
      go_upto_region 10 with (first
       | (go_at_call 48; go_must (refine (blanks48 Hr.out).mono ?_; rintro e w10 ⟨⟨y, rfl⟩, hr6, hk6⟩)
          have Hr := Lib.hid hr6
          have Hb5 := Lib.hid (Keeps.blk hk6 Hb5.out Hne.out.1)
          have Hb4 := Lib.hid (Keeps.blk hk6 Hb4.out Hne.out.2.1)
          have HJ := Lib.hid (HJ.out.keep hk6 (fun b _ e => .inl (by have := Hne.out.2.2.1; omega)))
          have HK := Lib.hid (HK.out.trans hk6 (fun _ _ h => h))
          clear hr6 hk6
          (try simp only [PU]))
      )
      obtain ⟨hx, hhx⟩ : ∃ y, headX (blanksX x1) = y := ⟨_, rfl⟩
      have Hhx := Lib.hid hhx
      by_cases hc : hx = 93
      · obtain ⟨q2, hq2⟩ := headX_close (x := blanksX x1) (close := 93) (by rw [hhx, hc]; rfl) (by decide)
        have HR2 := Lib.hid (show R0 = .ok (acc ++ [j6], q2) from Hst2.out.1 q2 hq2)
        rw [hq2] at Hr
        obtain ⟨a, ha, ⟨hbk, -⟩, -, hsum, hnx⟩ := Hr.out.cons
        have r1 := (blk_cell hbk 1).trans rfl
        have Hb := Lib.hid hbk
        have Hnx := Lib.hid hnx
        have hai : (a : Int) ≤ 1000000 := by omega
        subst hc
        clear hbk hnx hsum ha hhx hq2 Hst2 Hin
        go_wp2_with (first
         | (go_at_call 82; go_must (refine (peek82 Hr.out).mono ?_; rintro e w11 ⟨rfl, hk6⟩; rw [show headX (.ok (93 :: q2)) = 93 from rfl])
            have Hb := Lib.hid (hk6.blk Hb.out id)
            have Hb4 := Lib.hid (hk6.blk Hb4.out id)
            have Hb5 := Lib.hid (hk6.blk Hb5.out id)
            have HJ := Lib.hid (HJ.out.keep hk6 (fun _ _ e => e.elim))
            have HK := Lib.hid (HK.out.then hk6)
            clear r1 hk6
            have r1 := (blk_cell Hb.out 1).trans rfl
            (try simp only [PU]))
         | ((with_reducible refine at_store (t := 3) rfl ?_); go_must (refine ev_store (cs' := #[.string T, .int .i64 ((a : Int) + 1), .int .i64 (-1)]) rfl rfl rfl rfl rfl rfl HI.out.1.1 HI.out.1.2 rfl Hb.out (Nat.le_of_ble_eq_true rfl) rfl ?_; intro w1 hb1 hk1)
            have Hr1 := Lib.hid (Hnx.out _ hb1)
            have Hb5 := Lib.hid (hk1.blk Hb5.out Hne.out.1)
            have Hb4 := Lib.hid (hk1.blk Hb4.out Hne.out.2.1)
            have HJ := Lib.hid (HJ.out.keep hk1 (fun b _ e => .inl (by have := Hne.out.2.2.1; omega)))
            have HK := Lib.hid (HK.out.trans hk1 (fun _ _ h => h))
            clear hb1 hk1 r1
            (try clear c0 c1 c2 c3 c4 c5)
            have c0 := (blk_cell Hb5.out 0).trans rfl
            have c1 := (blk_cell Hb5.out 1).trans rfl
            have c2 := (blk_cell Hb5.out 2).trans rfl
            have c3 := (blk_cell Hb5.out 3).trans rfl
            have c4 := (blk_cell Hb5.out 4).trans rfl
            have c5 := (blk_cell Hb5.out 5).trans rfl
            (try simp only [PU]))
         | ((with_reducible refine at_store (t := 25) (p := 4) rfl ?_); go_must (refine ev_store (cs' := #[.int .i64 5, .bool false, .int .i64 0, .string ByteArray.empty, .slice none 0 0, .slice (some ⟨gv, 0, none⟩) (n + 1) cv]) rfl rfl rfl rfl rfl rfl HI.out.2.1.1 HI.out.2.1.2 rfl Hb4.out (Nat.le_of_ble_eq_true rfl) rfl ?_; intro w2 hb2 hk2)
            have Hr1 := Lib.hid (Hr1.out.keep hk2 (fun e => Hne.out.2.1 e.symm))
            have Hb4 := Lib.hid hb2
            have HJ := Lib.hid (HJ.out.keep hk2 (fun b _ e => .inr (.inr e)))
            have HK := Lib.hid (show Keeps (· = r) w w2 from HK.out.trans hk2 (fun i hi e => by have := Hne.out.2.2.2; omega))
            clear hb2 hk2 c0 c1 c2 c3 c4 c5
            have d0 := (blk_cell Hb4.out 0).trans rfl
            have d1 := (blk_cell Hb4.out 1).trans rfl
            have d2 := (blk_cell Hb4.out 2).trans rfl
            have d3 := (blk_cell Hb4.out 3).trans rfl
            have d4 := (blk_cell Hb4.out 4).trans rfl
            have d5 := (blk_cell Hb4.out 5).trans rfl
            (try simp only [PU]))
        )
        refine bodyPost_ret (v := .agg #[.int .i64 5, .bool false, .int .i64 0, .string ByteArray.empty, .slice none 0 0, .slice (some ⟨gv, 0, none⟩) (n + 1) cv]) (by rw [results_cell1 rfl]; go_simp) rfl ?_
        refine ⟨⟨_, .mk 5 false 0 ByteArray.empty [] (acc ++ [j6]), rfl, ?_, fun y hy => ?_⟩, ?_, HK.out⟩
        · refine JX.keep (M := Nob) (X := fun b => w.heap.size ≤ b) ?_ (Keeps.refl Nob _) (fun _ _ _ => id) (fun b h1 h2 => ⟨h2, h1⟩)
          exact JX.close (strs_nil _ _) (OwnJ.js ⟨_, _, HJ.out⟩)
        · rw [HR2.out] at hy; injection hy with hy; rw [← hy]
        · rw [HR2.out]; exact Hr1.out
      · have hcb : (hx == 93) = false := beq_eq_false_iff_ne.2 hc
        have HL2 := Lib.hid (show LI 93 (stepI (40 - d)) R0 (acc ++ [j6]) (behind x1) from Hst2.out.2 (fun q2 e => hc (by rw [← hhx, e]; rfl)))
        have Hbe := Lib.hid (show lenX (behind x1) ≤ s.length ∧ n + 1 + lenX (behind x1) ≤ 1000002 from by have h1 := behind_len x1; have h2 := Hin.out; have h3 := Hl.out; omega)
        clear hc hhx Hst2 Hin
        go_wp2_with (first
         | (go_at_call 82; go_must (refine (peek82 Hr.out).mono ?_; rintro e w11 ⟨rfl, hk6⟩; rw [Hhx.out])
            have Hr := Lib.hid (Hr.out.keep hk6 id)
            have Hb4 := Lib.hid (hk6.blk Hb4.out id)
            have Hb5 := Lib.hid (hk6.blk Hb5.out id)
            have HJ := Lib.hid (HJ.out.keep hk6 (fun _ _ e => e.elim))
            have HK := Lib.hid (HK.out.then hk6)
            clear hk6
            (try simp only [PU]))
         | (go_at_call 83; go_must (refine (take83 Hr.out ⟨#[44]⟩ (by decide)).mono ?_; rintro e w12 ⟨⟨y, rfl⟩, hr6, hk6⟩)
            have Hr := Lib.hid (show Rf w12 r T (takeX [44] (blanksX x1)) from hr6)
            have Hb5 := Lib.hid (Keeps.blk hk6 Hb5.out Hne.out.1)
            have Hb4 := Lib.hid (Keeps.blk hk6 Hb4.out Hne.out.2.1)
            have HJ := Lib.hid (HJ.out.keep hk6 (fun b _ e => .inl (by have := Hne.out.2.2.1; omega)))
            have HK := Lib.hid (HK.out.trans hk6 (fun _ _ h => h))
            clear hr6 hk6
            (try simp only [PU]))
         | (go_at_call 48; go_must (refine (blanks48 Hr.out).mono ?_; rintro e w10 ⟨⟨y, rfl⟩, hr6, hk6⟩)
            have Hr := Lib.hid hr6
            have Hb5 := Lib.hid (Keeps.blk hk6 Hb5.out Hne.out.1)
            have Hb4 := Lib.hid (Keeps.blk hk6 Hb4.out Hne.out.2.1)
            have HJ := Lib.hid (HJ.out.keep hk6 (fun b _ e => .inl (by have := Hne.out.2.2.1; omega)))
            have HK := Lib.hid (HK.out.trans hk6 (fun _ _ h => h))
            clear hr6 hk6
            (try simp only [PU]))
        )
        go_roundg (lenX (behind x1))
        case measure => have := Hl.out.1; have := Hbe.out.1; omega
        case rel => exact ⟨behind x1, some ⟨gv, 0, none⟩, cv, n + 1, acc ++ [j6], _, _, Nat.le_refl _, Hbe.out.2, Lib.hid (by rw [List.length_append, Hn.out]; rfl), Hr, Hb5, Hb4, HJ, HL2, HK⟩
end Go.Proofs.WV

namespace Go.Proofs.WV
open Go.RowKit Go.Proofs.KL Go.Proofs.WM
set_option maxRecDepth 100000
set_option linter.unusedSimpArgs false
set_option linter.unusedVariables false

def PairsInv (r g2 gS g5 g3 gm base : Nat) (deep : Int) (x : List ByteArray × List J) (W : World) : Prop :=
 (W.heap[g2]? = some (.cells #[.pointer (some ⟨r, 0, none⟩)] 78 (0, 0)) ∧ W.heap[gS]? = some (.cells #[.map (some gm)] 98 (0, 0)) ∧ W.heap[g3]? = some (.cells #[.int .i64 deep] 3 (0, 0))) ∧ (∃ es c, W.heap[gm]? = some (.map es c) ∧ StrSet es.toList x.1) ∧
   ∃ kv vv, W.heap[g5]? = some (.cells #[.int .i64 6, .bool false, .int .i64 0, .string ByteArray.empty, kv, vv] 25 (0, 0)) ∧ OwnS W base kv x.1 ∧ OwnJ W base (fun b => b = g5 ∨ b = gm ∨ some b = kv.ownBlock) vv x.2
set_option maxHeartbeats 2000000 in
theorem key103s {W : World} {r g2 gS g5 g3 gm base : Nat} {deep : Int} {T : ByteArray} {s : Bs} {x : List ByteArray × List J} {m : Nat} (hr : Rd W r T s) (hI : PairsInv r g2 gS g5 g3 gm base deep x W) (hs : strB s = .error m) :
  Calls Tryd.prog 103 #[.pointer (some ⟨g2, 0, none⟩), .pointer (some ⟨gS, 0, none⟩), .pointer (some ⟨g5, 0, none⟩), .pointer (some ⟨g3, 0, none⟩)] W (PartOut W r T base (PairsInv r g2 gS g5 g3 gm base deep) (.error m)) := by
 have Hr := Lib.hid hr
 have Hs := Lib.hid hs
 have c2 := (blk_cell hI.1.1 0).trans rfl
 clear hr hI hs
 go_enter Tryd.func103, Tryd.ntmps103
 go_wp2_with (first
  | (go_at_call 75; go_must (have hc := str75 Hr.out; rw [Hs.out] at hc; refine hc.mono ?_; rintro e w6 ⟨rfl, hk6⟩); have HK6 := Lib.hid hk6; clear hk6; unfold stopAt; (try simp only [PU]))
 )
 exact ⟨rfl, rfl, keepsMR HK6.out⟩
set_option maxHeartbeats 2000000 in
theorem key103d {W : World} {r g2 gS g5 g3 gm base : Nat} {deep : Int} {T : ByteArray} {s t r1 : Bs} {x : List ByteArray × List J} (hr : Rd W r T s) (hI : PairsInv r g2 gS g5 g3 gm base deep x W) (hd : ¬ g2 = r ∧ ¬ gS = r ∧ ¬ gm = r) (hs : strB s = .ok (t, r1)) (hk : hasKey x.1 (mkB t) = true) :
  Calls Tryd.prog 103 #[.pointer (some ⟨g2, 0, none⟩), .pointer (some ⟨gS, 0, none⟩), .pointer (some ⟨g5, 0, none⟩), .pointer (some ⟨g3, 0, none⟩)] W (PartOut W r T base (PairsInv r g2 gS g5 g3 gm base deep) (.error (r1.length + 1))) := by
 have Hr := Lib.hid hr
 have Hs := Lib.hid hs
 have HI := Lib.hid hI
 have Hd := Lib.hid hd
 have Hk := Lib.hid hk
 have hlen := (strB_len hs).1
 have hle := hr.le
 have hT := hr.len
 have c2 := (blk_cell hI.1.1 0).trans rfl
 obtain ⟨es, ec, hmap, hset⟩ := hI.2.1
 have Hm := Lib.hid (And.intro hmap hset)
 obtain ⟨a, ha⟩ : ∃ a, T.size - r1.length = a := ⟨_, rfl⟩
 have ha1 : 1 ≤ a := by omega
 have ha2 : a ≤ 1000000 := by omega
 have Hfail := Lib.hid (fun w (h : Rd w r T r1) => by
  have hc := fail47 h (r1.length + 1) (by omega)
  rw [show ((T.size - (r1.length + 1) : Nat) : Int) = (a : Int) - 1 by omega] at hc
  exact hc)
 have Ha := Lib.hid ha
 obtain ⟨key, hkey⟩ : ∃ y, mkB t = y := ⟨_, rfl⟩
 have Hkey := Lib.hid hkey
 clear hr hI hd hs hk hlen hle hmap hset ha hkey
 go_enter Tryd.func103, Tryd.ntmps103
 go_wp2_with (first
  | (go_at_call 75; go_must (have hc := str75 Hr.out; rw [Hs.out] at hc; refine hc.mono ?_; rintro e w6 ⟨rfl, hr6, hk6⟩)
     simp only [Hkey.out]
     have HK6 := Lib.hid hk6
     have Hr6 := Lib.hid hr6
     have b2 := hk6.blk HI.out.1.1 Hd.out.1
     have bS := hk6.blk HI.out.1.2.1 Hd.out.2.1
     have Hm6 := Lib.hid (hk6.blk Hm.out.1 Hd.out.2.2)
     clear c2
     have c2 := (blk_cell b2 0).trans rfl
     have cS := (blk_cell bS 0).trans rfl
     have q1 := (blk_cell hr6.blk 1).trans rfl
     rw [Ha.out] at q1
     clear hr6 hk6 b2 bS
     (try simp only [PU]))
  | ((with_reducible refine at_dst (N := 9) rfl ?_); go_must (refine ev_lookup_set (q := key) rfl rfl Tryd.underlying98 Tryd.underlying9 zero98 rfl rfl Hm6.out Hm.out.2 ?_; rw [← Hkey.out, Hk.out]); (try simp only [PU]))
 )
 refine wp_region_perm [(0, true), (1, true), (2, true), (3, true), (4, true), (5, true), (6, false)] (fun w' => w'.cell? ⟨g2, 0, none⟩ = some (.pointer (some ⟨r, 0, none⟩)) ∧ w'.cell? ⟨r, 1, none⟩ = some (.int .i64 a)) rfl (by kernel_rfl) (by kernel_rfl) (by decide) (fun c a d v w h => by cases d <;> exact h) ⟨c2, q1⟩ ?_
 refine pq (some 10) ?_; (try simp only [PU])
 refine pq (some 11) ?_; (try simp only [PU])
 refine pq (some 12) ?_; (try simp only [PU])
 refine pq (some 13) ?_; (try simp only [PU])
 refine pq (some 14) ?_; (try simp only [PU])
 refine pq (some 15) ?_; (try simp only [PU])
 refine perm_e rfl ?_
 go_wp2_with (go_at_call 47; go_must (refine (Hfail.out _ (Hr6.out.keep (Keeps.refl Nob w6).drew id)).mono ?_; rintro e w7 ⟨rfl, rfl⟩); unfold stopAt)
 exact ⟨rfl, rfl, keepsMR (HK6.out.then (Keeps.refl Nob w6).drew)⟩
end Go.Proofs.WV

namespace Go.Proofs.WV
open Go.RowKit Go.Proofs.KL Go.Proofs.WM
set_option maxRecDepth 100000
set_option linter.unusedSimpArgs false
set_option linter.unusedVariables false

set_option maxHeartbeats 2000000 in
theorem key103w {W : World} {r g2 gS g5 g3 gm base : Nat} {deep : Int} {T : ByteArray} {s t r1 : Bs} {m : Nat} {x : List ByteArray × List J} (hr : Rd W r T s) (hI : PairsInv r g2 gS g5 g3 gm base deep x W) (hd : ¬ g2 = r ∧ ¬ gS = r ∧ ¬ gm = r) (hgm : base ≤ gm) (hs : strB s = .ok (t, r1)) (hk : hasKey x.1 (mkB t) = false) (hw : wordB [58] (blanksB r1) = .error m) :
  Calls Tryd.prog 103 #[.pointer (some ⟨g2, 0, none⟩), .pointer (some ⟨gS, 0, none⟩), .pointer (some ⟨g5, 0, none⟩), .pointer (some ⟨g3, 0, none⟩)] W (PartOut W r T base (PairsInv r g2 gS g5 g3 gm base deep) (.error m)) := by
 have Hr := Lib.hid hr
 have Hs := Lib.hid hs
 have HI := Lib.hid hI
 have Hd := Lib.hid hd
 have c2 := (blk_cell hI.1.1 0).trans rfl
 obtain ⟨es, ec, hmap, hset⟩ := hI.2.1
 have Hm := Lib.hid (And.intro hmap hset)
 obtain ⟨key, hkey⟩ : ∃ y, mkB t = y := ⟨_, rfl⟩
 have Hkey := Lib.hid hkey
 rw [hkey] at hk
 have Hk := Lib.hid hk
 have Hw := Lib.hid hw
 have Hgm := Lib.hid hgm
 clear hr hI hd hs hk hmap hset hkey hw hgm
 go_enter Tryd.func103, Tryd.ntmps103
 go_wp2_with (first
  | (go_at_call 75; go_must (have hc := str75 Hr.out; rw [Hs.out] at hc; refine hc.mono ?_; rintro e w6 ⟨rfl, hr6, hk6⟩)
     simp only [Hkey.out]
     have HK6 := Lib.hid hk6
     have Hr6 := Lib.hid hr6
     have B2 := Lib.hid (hk6.blk HI.out.1.1 Hd.out.1)
     have BS := Lib.hid (hk6.blk HI.out.1.2.1 Hd.out.2.1)
     have Hm6 := Lib.hid (hk6.blk Hm.out.1 Hd.out.2.2)
     clear c2
     have c2 := (blk_cell B2.out 0).trans rfl
     have cS := (blk_cell BS.out 0).trans rfl
     clear hr6 hk6
     (try simp only [PU]))
  | ((with_reducible refine at_dst (N := 9) rfl ?_); go_must (refine ev_lookup_set (q := key) rfl rfl Tryd.underlying98 Tryd.underlying9 zero98 rfl rfl Hm6.out Hm.out.2 ?_; rw [Hk.out]); (try simp only [PU]))
  | (refine at_update rfl ?_; go_must (refine ev_mapUpdate_set (q := key) rfl rfl rfl Tryd.underlying98 Tryd.underlying9 rfl rfl rfl Hm6.out Hm.out.2 Hk.out ?_; intro es7 c7 w7 hb7 hs7 hk7)
     have HM7 := Lib.hid (And.intro hb7 hs7)
     have Hk7 := Lib.hid hk7
     have B2 := Lib.hid (hk7.blk B2.out (fun e : g2 = gm => by have h1 := B2.out; rw [e, Hm6.out] at h1; cases h1))
     have BS := Lib.hid (hk7.blk BS.out (fun e : gS = gm => by have h1 := BS.out; rw [e, Hm6.out] at h1; cases h1))
     have Hr7 := Lib.hid (Hr6.out.keep hk7 (fun e : r = gm => Hd.out.2.2 e.symm))
     clear c2 cS hb7 hs7 hk7
     have c2 := (blk_cell B2.out 0).trans rfl
     (try simp only [PU]))
  | (go_at_call 45; go_must (refine (blanks45 Hr7.out).mono ?_; rintro e w8 ⟨⟨y8, rfl⟩, hr8, hk8⟩)
     have Hr8 := Lib.hid hr8
     have B2 := Lib.hid (hk8.blk B2.out Hd.out.1)
     have Hk8 := Lib.hid hk8
     clear c2 hr8 hk8
     have c2 := (blk_cell B2.out 0).trans rfl
     (try simp only [PU]))
  | (go_at_call 74; go_must (have h74 := word74 Hr8.out ⟨#[58]⟩ (by decide) (nz1 58 (by decide)); rw [show bl ⟨#[58]⟩ = [58] from rfl, Hw.out] at h74; refine h74.mono ?_; rintro e w9 ⟨rfl, hk9⟩); have Hk9 := Lib.hid hk9; clear hk9; unfold stopAt; (try simp only [PU]))
 )
 exact ⟨rfl, rfl, (((keepsMR HK6.out).trans Hk7.out (fun i _ e => .inr (by rw [e]; exact Hgm.out))).trans (keepsMR Hk8.out) (fun _ _ h => h)).trans (keepsMR Hk9.out) (fun _ _ h => h)⟩
end Go.Proofs.WV

namespace Go.Proofs.WV
open Go.RowKit Go.Proofs.KL Go.Proofs.WM
set_option maxRecDepth 100000
set_option linter.unusedSimpArgs false
set_option linter.unusedVariables false

theorem info9b : (Tryd.prog.info? 9).map (fun i => (i.zero, i.size, i.bytes)) = some (some (.string ByteArray.empty), 1, 16) := by kernel_rfl
theorem info22 : ∃ i, Tryd.prog.info? 22 = some i ∧ i.size = 1 := by
 have h : (Tryd.prog.info? 22).map (·.size) = some 1 := by kernel_rfl
 obtain ⟨i, hi, hs⟩ := Option.map_eq_some_iff.1 h
 exact ⟨i, hi, hs⟩
theorem map_ne {w : World} {g gm : Nat} {cs : Array Value} {t : TypeId} {es : Array MapEntry} {c : Nat} (h : w.heap[g]? = some (.cells cs t (0, 0))) (hm : w.heap[gm]? = some (.map es c)) : ¬ g = gm := fun e => by
 subst e
 rw [h] at hm
 injection hm with hm
 cases hm
theorem PairsInv.apart {r g2 gS g5 g3 gm base : Nat} {deep : Int} {x : List ByteArray × List J} {W : World} (h : PairsInv r g2 gS g5 g3 gm base deep x W) : (¬ g2 = gm ∧ ¬ gS = gm ∧ ¬ g3 = gm ∧ ¬ g5 = gm) ∧ (¬ g2 = g5 ∧ ¬ gS = g5 ∧ ¬ g3 = g5) := by
 obtain ⟨⟨h2, hS, h3⟩, ⟨es, c, hm, -⟩, kv, vv, h5, -, -⟩ := h
 exact ⟨⟨map_ne h2 hm, map_ne hS hm, map_ne h3 hm, map_ne h5 hm⟩, blk_type h2 h5 (by decide), blk_type hS h5 (by decide), blk_type h3 h5 (by decide)⟩
set_option maxHeartbeats 4000000 in
theorem key103e {W : World} {r g2 gS g5 g3 gm base : Nat} {deep : Int} {T : ByteArray} {s t r1 r2 : Bs} {m : Nat} {x : List ByteArray × List J} (hr : Rd W r T s) (hI : PairsInv r g2 gS g5 g3 gm base deep x W)
  (hd : r < base ∧ ¬ g2 = r ∧ ¬ gS = r ∧ ¬ g3 = r ∧ ¬ gm = r ∧ ¬ g5 = r ∧ base ≤ gm ∧ base ≤ g5 ∧ base ≤ W.heap.size) (hn : x.1.length ≤ 1000000 ∧ x.2.length ≤ 1000000) (hs : strB s = .ok (t, r1)) (hk : hasKey x.1 (mkB t) = false) (hw : wordB [58] (blanksB r1) = .ok r2)
  (hin : ∀ W', Rd W' r T (blanksB r2) → Calls Tryd.prog 80 #[.pointer (some ⟨r, 0, none⟩), .int .i64 deep] W' (ValOut W' r T (.error m))) :
  Calls Tryd.prog 103 #[.pointer (some ⟨g2, 0, none⟩), .pointer (some ⟨gS, 0, none⟩), .pointer (some ⟨g5, 0, none⟩), .pointer (some ⟨g3, 0, none⟩)] W (PartOut W r T base (PairsInv r g2 gS g5 g3 gm base deep) (.error m)) := by
 have Hr := Lib.hid hr
 have Hs := Lib.hid hs
 have Hap := Lib.hid hI.apart
 obtain ⟨⟨h2, hS, h3⟩, ⟨es, ec, hmap, hset⟩, kv, vv, h5, hks, hvs⟩ := hI
 obtain ⟨kA, kc, rfl, hkc⟩ := hks.slice
 obtain ⟨vA, vc, rfl, hvc⟩ : ∃ A c, vv = .slice A x.2.length c ∧ x.2.length ≤ c := by obtain ⟨X, xs, hrow⟩ := id hvs; exact row_slice hrow.row
 have H2 := Lib.hid h2
 have HS := Lib.hid hS
 have H3 := Lib.hid h3
 have H5 := Lib.hid h5
 have HKS := Lib.hid hks
 have HVS := Lib.hid hvs
 have Hm := Lib.hid (And.intro hmap hset)
 have Hd := Lib.hid hd
 have c2 := (blk_cell h2 0).trans rfl
 obtain ⟨key, hkey⟩ : ∃ y, mkB t = y := ⟨_, rfl⟩
 have Hkey := Lib.hid hkey
 rw [hkey] at hk
 have Hk := Lib.hid hk
 have Hw := Lib.hid hw
 clear hr hs h2 hS h3 h5 hks hvs hmap hset hd hkey hk hw
 have Hin := Lib.hid hin
 clear hin
 obtain ⟨hn1, hn2⟩ := hn
 go_enter Tryd.func103, Tryd.ntmps103
 go_upto_region 7 with (first
  | (go_at_call 75; go_must (have hc := str75 Hr.out; rw [Hs.out] at hc; refine hc.mono ?_; rintro e w6 ⟨rfl, hr6, hk6⟩)
     simp only [Hkey.out]
     have HK := Lib.hid (show Keeps (fun k => k = r ∨ k = gm) W w6 from hk6.mono (fun _ _ e => .inl e))
     have HR := Lib.hid hr6
     have Hm6 := Lib.hid (hk6.blk Hm.out.1 Hd.out.2.2.2.2.1)
     clear c2 hr6 hk6
     have c2 := (blk_cell (HK.out.blk H2.out (fun e => e.elim Hd.out.2.1 Hap.out.1.1)) 0).trans rfl
     have cS := (blk_cell (HK.out.blk HS.out (fun e => e.elim Hd.out.2.2.1 Hap.out.1.2.1)) 0).trans rfl
     (try simp only [PU]))
  | ((with_reducible refine at_dst (N := 9) rfl ?_); go_must (refine ev_lookup_set (q := key) rfl rfl Tryd.underlying98 Tryd.underlying9 zero98 rfl rfl Hm6.out Hm.out.2 ?_; rw [Hk.out]); (try simp only [PU]))
  | (refine at_update rfl ?_; go_must (refine ev_mapUpdate_set (q := key) rfl rfl rfl Tryd.underlying98 Tryd.underlying9 rfl rfl rfl Hm6.out Hm.out.2 Hk.out ?_; intro es7 c7 w7 hb7 hs7 hk7)
     have HM7 := Lib.hid (And.intro hb7 hs7)
     have HR := Lib.hid (HR.out.keep hk7 (fun e : r = gm => Hd.out.2.2.2.2.1 e.symm))
     have HK := Lib.hid (HK.out.trans hk7 (fun _ _ e => .inr e))
     clear c2 cS hb7 hs7 hk7
     have c2 := (blk_cell (HK.out.blk H2.out (fun e => e.elim Hd.out.2.1 Hap.out.1.1)) 0).trans rfl
     (try simp only [PU]))
  | (go_at_call 45; go_must (refine (blanks45 HR.out).mono ?_; rintro e w8 ⟨⟨y8, rfl⟩, hr8, hk8⟩)
     have HR := Lib.hid hr8
     have HM7 := Lib.hid (And.intro (hk8.blk HM7.out.1 Hd.out.2.2.2.2.1) HM7.out.2)
     have HK := Lib.hid (HK.out.trans hk8 (fun _ _ e => .inl e))
     clear c2 hr8 hk8
     have c2 := (blk_cell (HK.out.blk H2.out (fun e => e.elim Hd.out.2.1 Hap.out.1.1)) 0).trans rfl
     have c5 := (blk_cell (HK.out.blk H5.out (fun e => e.elim Hd.out.2.2.2.2.2.1 Hap.out.1.2.2.2)) 4).trans rfl
     (try simp only [PU]))
  | (go_at_call 74; go_must (have h74 := word74 HR.out ⟨#[58]⟩ (by decide) (nz1 58 (by decide)); rw [show bl ⟨#[58]⟩ = [58] from rfl, Hw.out] at h74; refine h74.mono ?_; rintro e w9 ⟨⟨y9, rfl⟩, hr9, hk9⟩)
     have HR := Lib.hid hr9
     have HM7 := Lib.hid (And.intro (hk9.blk HM7.out.1 Hd.out.2.2.2.2.1) HM7.out.2)
     have HK := Lib.hid (HK.out.trans hk9 (fun _ _ e => .inl e))
     clear c2 hr9 hk9
     have c2 := (blk_cell (HK.out.blk H2.out (fun e => e.elim Hd.out.2.1 Hap.out.1.1)) 0).trans rfl
     (try simp only [PU]))
 )
 obtain ⟨i22, hi22, hs22⟩ := info22
 have HI22 := Lib.hid (And.intro hi22 hs22)
 clear hi22 hs22
 go_upto_region 8 with (first
  | ((with_reducible refine at_dst (N := 28) rfl ?_); go_must (refine ev_slice (cs := #[.string key]) (t := 9) (n := 1) (c := 1) rfl (by first | (go_simp; done) | (go_simp; rfl)) ?_; intro gk w10 hgk hlk hbk hkk)
     have Hbk := Lib.hid hbk
     have HKS1 := Lib.hid ((HKS.out.keep HK.out (fun k hk' e => e.elim (fun e => by have h1 := (HKS.out.lt k hk').1; have := Hd.out.1; omega) (fun e => by rw [e] at hk'; exact HKS.out.neMap Hm.out.1 hk'.symm))).keep hkk (fun _ _ => id))
     have HR1 := Lib.hid (HR.out.keep hkk id)
     have HM7 := Lib.hid (And.intro (hkk.blk HM7.out.1 id) HM7.out.2)
     have HK1 := Lib.hid (HK.out.then hkk)
     clear hbk hkk
     (try simp only [PU]))
  | ((with_reducible refine at_dst (N := 29) rfl ?_); go_must (refine ev_append rfl rfl Tryd.underlying22 info9b rfl (by decide) (base := base) rfl HKS1.out rfl (news := [Value.string key]) rfl (fun _ => ⟨_, rfl, World.news_of_block Hbk.out⟩) (by simp [Value.oneCell']) (by omega) (by decide) (by have := HK1.out.size; have := Hd.out.2.2.2.2.2.2.2.2; omega) ?_; intro v9 w11 hown9 hk11 hr11 hf11; obtain ⟨gq, cq, rfl⟩ := hf11 (by decide))
     have Hown := Lib.hid hown9
     have Hk11 := Lib.hid hk11
     have Hr11 := Lib.hid hr11
     have H5a := Lib.hid (hk11.blk (HK1.out.blk H5.out (fun e => e.elim Hd.out.2.2.2.2.2.1 Hap.out.1.2.2.2)) (HKS1.out.ne (HK1.out.blk H5.out (fun e => e.elim Hd.out.2.2.2.2.2.1 Hap.out.1.2.2.2)) (by decide)))
     clear hown9 hk11 hr11 hf11 c5
     (try simp only [PU]))
  | ((with_reducible refine at_store (t := 22) rfl ?_); go_must (refine ev_store (cs' := #[.int .i64 6, .bool false, .int .i64 0, .string ByteArray.empty, .slice (some ⟨gq, 0, none⟩) (x.1.length + 1) cq, .slice vA x.2.length vc]) rfl rfl rfl rfl rfl rfl HI22.out.1 HI22.out.2 rfl H5a.out (Nat.le_of_ble_eq_true rfl) rfl ?_; intro w12 hb12 hk12)
     have H5b := Lib.hid hb12
     have Hk12 := Lib.hid hk12
     clear hb12 hk12
     (try simp only [PU]))
 )
 have hbg : base ≤ W.heap.size := Hd.out.2.2.2.2.2.2.2.2
 have H2c := Lib.hid (Hk12.out.blk (Hk11.out.blk (HK1.out.blk H2.out (fun e => e.elim Hd.out.2.1 Hap.out.1.1)) (HKS1.out.ne (HK1.out.blk H2.out (fun e => e.elim Hd.out.2.1 Hap.out.1.1)) (by decide))) Hap.out.2.1)
 have H3c := Lib.hid (Hk12.out.blk (Hk11.out.blk (HK1.out.blk H3.out (fun e => e.elim Hd.out.2.2.2.1 Hap.out.1.2.2.1)) (HKS1.out.ne (HK1.out.blk H3.out (fun e => e.elim Hd.out.2.2.2.1 Hap.out.1.2.2.1)) (by decide))) Hap.out.2.2.2)
 have HSc := Lib.hid (Hk12.out.blk (Hk11.out.blk (HK1.out.blk HS.out (fun e => e.elim Hd.out.2.2.1 Hap.out.1.2.1)) (HKS1.out.ne (HK1.out.blk HS.out (fun e => e.elim Hd.out.2.2.1 Hap.out.1.2.1)) (by decide))) Hap.out.2.2.1)
 have HRc := Lib.hid ((HR1.out.keep Hk11.out (HKS1.out.ne HR1.out.blk (by decide))).keep Hk12.out (fun e => Hd.out.2.2.2.2.2.1 e.symm))
 have HMc := Lib.hid (And.intro (Hk12.out.blk (Hk11.out.blk HM7.out.1 (HKS1.out.neMap HM7.out.1)) (fun e => Hap.out.1.2.2.2 e.symm)) HM7.out.2)
 have hos : OwnS w11 base (.slice (some ⟨gq, 0, none⟩) (x.1.length + 1) cq) (x.1 ++ [key]) := by
  have h := Hown.out
  unfold OwnS
  rw [List.length_append, List.map_append]
  exact h
 have HOS := Lib.hid (hos.keep Hk12.out (fun k hk e => by rw [e] at hk; exact hos.ne H5a.out (by decide) hk.symm))
 have hkt : Keeps (fun k => k = r ∨ k = gm ∨ some k = (Value.slice kA x.1.length kc).ownBlock ∨ k = g5) W w12 := ((HK1.out.mono (M' := fun k => k = r ∨ k = gm ∨ some k = (Value.slice kA x.1.length kc).ownBlock ∨ k = g5) (fun _ _ e => e.elim .inl (fun e => .inr (.inl e)))).trans Hk11.out (fun _ _ e => .inr (.inr (.inl e)))).trans Hk12.out (fun _ _ e => .inr (.inr (.inr e)))
 have HOJ := Lib.hid (HVS.out.swap (E' := fun b => b = g5 ∨ b = gm ∨ some b = (Value.slice (some ⟨gq, 0, none⟩) (x.1.length + 1) cq).ownBlock) hkt (fun b _ e => by
   rcases e with e | e | e | e
   · exact .inl (by rw [e]; exact Hd.out.1)
   · exact .inr (.inr (.inl e))
   · exact .inr (.inr (.inr e))
   · exact .inr (.inl e)) (fun b e => by
   rcases e with e | e | e
   · exact .inl (.inl e)
   · exact .inl (.inr (.inl e))
   · rcases Hr11.out with h | ⟨k, h, hk⟩
     · exact .inl (.inr (.inr (e.trans h)))
     · rw [h] at e; injection e with e; exact .inr (by have := HK1.out.size; omega)))
 have HKT := Lib.hid hkt
 clear hkt hos
 have c2 := (blk_cell H2c.out 0).trans rfl
 have c3 := (blk_cell H3c.out 0).trans rfl
 have c5' : w12.cell? ⟨g5, 5, none⟩ = some (.slice vA x.2.length vc) := (blk_cell H5b.out 5).trans rfl
 have N := Lib.hid (show ¬ g2 = r ∧ ¬ g3 = r ∧ ¬ g5 = r from ⟨Hd.out.2.1, Hd.out.2.2.2.1, Hd.out.2.2.2.2.2.1⟩)
 have HKr := Lib.hid ((Keeps.refl (· = r) w12).drew)
 have Hr0 := Lib.hid (HRc.out.keep (Keeps.refl Nob w12).drew id)
 refine wp_region_tree (.q 0 (.q 2 (.q 3 (.br [1, 4, 6] (fun k => bif Nat.beq k 1 then .q 5 (.br [4, 6] (fun k => bif Nat.beq k 4 then .br [6] (fun k => .br [7] (fun k => .q 8 (.q 10 (.br [9, 11] (fun k => bif Nat.beq k 9 then .br [11] (fun k => .done) else .br [9] (fun k => .done)))))) else .br [4] (fun k => .br [7] (fun k => .q 8 (.q 10 (.br [9, 11] (fun k => bif Nat.beq k 9 then .br [11] (fun k => .done) else .br [9] (fun k => .done)))))))) else bif Nat.beq k 4 then .br [1, 6] (fun k => bif Nat.beq k 1 then .q 5 (.br [6] (fun k => .br [7] (fun k => .q 8 (.q 10 (.br [9, 11] (fun k => bif Nat.beq k 9 then .br [11] (fun k => .done) else .br [9] (fun k => .done))))))) else .br [1] (fun k => .q 5 (.br [7] (fun k => .q 8 (.q 10 (.br [9, 11] (fun k => bif Nat.beq k 9 then .br [11] (fun k => .done) else .br [9] (fun k => .done)))))))) else .br [1, 4] (fun k => bif Nat.beq k 1 then .q 5 (.br [4] (fun k => .br [7] (fun k => .q 8 (.q 10 (.br [9, 11] (fun k => bif Nat.beq k 9 then .br [11] (fun k => .done) else .br [9] (fun k => .done))))))) else .br [1] (fun k => .q 5 (.br [7] (fun k => .q 8 (.q 10 (.br [9, 11] (fun k => bif Nat.beq k 9 then .br [11] (fun k => .done) else .br [9] (fun k => .done))))))))))))) (fun w' => w'.cell? ⟨g2, 0, none⟩ = some (.pointer (some ⟨r, 0, none⟩)) ∧ w'.cell? ⟨g3, 0, none⟩ = some (.int .i64 deep)) rfl (by kernel_rfl) (by kernel_rfl) (fun c a d v w h => by cases d <;> exact h) ⟨c2, c3⟩ ?_
 refine tq (some 31) ?_; (try simp only [PU])
 refine tq (some 33) ?_; (try simp only [PU])
 refine tq (some 34) ?_; (try simp only [PU])
 refine tree_b rfl rfl ?b1_12 ?nb1_12
 case' b1_12 =>
  have c6 := HKr.out.cell c5' N.out.2.2
  go_wp2_with fail
  clear c6
  (try refine ⟨⟨HKr.out.cell c2 N.out.1, HKr.out.cell c3 N.out.2.1⟩, ?_⟩)
  refine tq (some 36) ?_; (try simp only [PU])
  refine tree_b rfl rfl ?b1_5 ?nb1_5
  case' b1_5 =>
   go_wp2_with (go_at_call 80; go_must (refine (Hin.out _ Hr0.out).mono ?_; rintro e w1 ⟨rfl, hk1⟩); unfold stopAt)
   exact ⟨rfl, rfl, (HKT.out.mono (M' := MR r base) (fun i _ e => by
    rcases e with e | e | e | e
    · exact .inl e
    · exact .inr (by rw [e]; exact Hd.out.2.2.2.2.2.2.1)
    · exact .inr (HKS.out.lt i e.symm).1
    · exact .inr (by rw [e]; exact Hd.out.2.2.2.2.2.2.2.1))).trans (HKr.out.trans hk1 (fun _ _ h => h)) (fun _ _ e => .inl e)⟩
  case' nb1_5 =>
   refine tree_e rfl rfl ?b1_10
   case' b1_10 =>
    go_must (refine ev_slice (cs := #[.int .i64 0, .bool false, .int .i64 0, .string ByteArray.empty, .slice none 0 0, .slice none 0 0]) (t := 25) (n := 1) (c := 1) rfl (by first | (go_simp; done) | (go_simp; rfl)) ?_; intro gz wz hgz hlz hbz hkz)
    (try simp only [PU])
    have Hr0 := Lib.hid (Hr0.out.keep hkz id)
    have HKr := Lib.hid (HKr.out.then hkz)
    clear hbz hkz
    refine wpList_nil ⟨⟨HKr.out.cell c2 N.out.1, HKr.out.cell c3 N.out.2.1⟩, ?_⟩
    refine tree_e rfl rfl ?_
    go_wp2_with (go_at_call 80; go_must (refine (Hin.out _ Hr0.out).mono ?_; rintro e w1 ⟨rfl, hk1⟩); unfold stopAt)
    exact ⟨rfl, rfl, (HKT.out.mono (M' := MR r base) (fun i _ e => by
     rcases e with e | e | e | e
     · exact .inl e
     · exact .inr (by rw [e]; exact Hd.out.2.2.2.2.2.2.1)
     · exact .inr (HKS.out.lt i e.symm).1
     · exact .inr (by rw [e]; exact Hd.out.2.2.2.2.2.2.2.1))).trans (HKr.out.trans hk1 (fun _ _ h => h)) (fun _ _ e => .inl e)⟩
 case' nb1_12 =>
  refine tree_b rfl rfl ?b1_25 ?nb1_25
  case' b1_25 =>
   go_wp2_with (go_at_call 80; go_must (refine (Hin.out _ Hr0.out).mono ?_; rintro e w1 ⟨rfl, hk1⟩); unfold stopAt)
   exact ⟨rfl, rfl, (HKT.out.mono (M' := MR r base) (fun i _ e => by
    rcases e with e | e | e | e
    · exact .inl e
    · exact .inr (by rw [e]; exact Hd.out.2.2.2.2.2.2.1)
    · exact .inr (HKS.out.lt i e.symm).1
    · exact .inr (by rw [e]; exact Hd.out.2.2.2.2.2.2.2.1))).trans (HKr.out.trans hk1 (fun _ _ h => h)) (fun _ _ e => .inl e)⟩
  case' nb1_25 =>
   refine tree_e rfl rfl ?b1_38
   case' b1_38 =>
    go_must (refine ev_slice (cs := #[.int .i64 0, .bool false, .int .i64 0, .string ByteArray.empty, .slice none 0 0, .slice none 0 0]) (t := 25) (n := 1) (c := 1) rfl (by first | (go_simp; done) | (go_simp; rfl)) ?_; intro gz wz hgz hlz hbz hkz)
    (try simp only [PU])
    have Hr0 := Lib.hid (Hr0.out.keep hkz id)
    have HKr := Lib.hid (HKr.out.then hkz)
    clear hbz hkz
    refine wpList_nil ⟨⟨HKr.out.cell c2 N.out.1, HKr.out.cell c3 N.out.2.1⟩, ?_⟩
    refine tree_b rfl rfl ?b1_31 ?nb1_31
    case' b1_31 =>
     have c6 := HKr.out.cell c5' N.out.2.2
     go_wp2_with fail
     clear c6
     (try refine ⟨⟨HKr.out.cell c2 N.out.1, HKr.out.cell c3 N.out.2.1⟩, ?_⟩)
     refine tq (some 36) ?_; (try simp only [PU])
     refine tree_e rfl rfl ?_
     go_wp2_with (go_at_call 80; go_must (refine (Hin.out _ Hr0.out).mono ?_; rintro e w1 ⟨rfl, hk1⟩); unfold stopAt)
     exact ⟨rfl, rfl, (HKT.out.mono (M' := MR r base) (fun i _ e => by
      rcases e with e | e | e | e
      · exact .inl e
      · exact .inr (by rw [e]; exact Hd.out.2.2.2.2.2.2.1)
      · exact .inr (HKS.out.lt i e.symm).1
      · exact .inr (by rw [e]; exact Hd.out.2.2.2.2.2.2.2.1))).trans (HKr.out.trans hk1 (fun _ _ h => h)) (fun _ _ e => .inl e)⟩
    case' nb1_31 =>
     refine tree_e rfl rfl ?b1_37
     case' b1_37 =>
      go_wp2_with (go_at_call 80; go_must (refine (Hin.out _ Hr0.out).mono ?_; rintro e w1 ⟨rfl, hk1⟩); unfold stopAt)
      exact ⟨rfl, rfl, (HKT.out.mono (M' := MR r base) (fun i _ e => by
       rcases e with e | e | e | e
       · exact .inl e
       · exact .inr (by rw [e]; exact Hd.out.2.2.2.2.2.2.1)
       · exact .inr (HKS.out.lt i e.symm).1
       · exact .inr (by rw [e]; exact Hd.out.2.2.2.2.2.2.2.1))).trans (HKr.out.trans hk1 (fun _ _ h => h)) (fun _ _ e => .inl e)⟩
end Go.Proofs.WV

namespace Go.Proofs.WV
open Go.RowKit Go.Proofs.KL Go.Proofs.WM
set_option maxRecDepth 100000
set_option linter.unusedSimpArgs false
set_option linter.unusedVariables false

theorem OwnS.cells {W : World} {lo g n c : Nat} {ks : List ByteArray} (h : OwnS W lo (.slice (some ⟨g, 0, none⟩) n c) ks) : ∃ cur, W.heap[g]? = some (.cells cur 9 (0, 0)) := by
 rcases h.2 with ⟨e, _⟩ | ⟨g', cap, cur, e, hb, hg, _⟩
 · cases e
 · injection e with e1 e2 e3
   injection e1 with e1
   injection e1 with e1
   subst e1
   exact ⟨cur, hg⟩
theorem row_neMap {W : World} {lo g : Nat} {v : Value} {n : Nat} {xs : List Value} {es : Array MapEntry} {c : Nat} (h : W.ownsRow lo 25 6 v n xs) (hg : W.heap[g]? = some (.map es c)) : some g ≠ v.ownBlock := fun e => by
 rcases h.2 with ⟨rfl, _⟩ | ⟨g', cap, cur, rfl, hb, hg', _⟩
 · cases e
 · simp only [Value.ownBlock, Option.some.injEq] at e
   subst e
   rw [hg] at hg'
   injection hg' with hg'
   cases hg'
set_option maxHeartbeats 8000000 in
theorem key103o {W : World} {r g2 gS g5 g3 gm base : Nat} {deep : Int} {T : ByteArray} {s t r1 r2 : Bs} {j : J} {s' : Bs} {x : List ByteArray × List J} (hr : Rd W r T s) (hI : PairsInv r g2 gS g5 g3 gm base deep x W)
  (hd : r < base ∧ ¬ g2 = r ∧ ¬ gS = r ∧ ¬ g3 = r ∧ ¬ gm = r ∧ ¬ g5 = r ∧ base ≤ gm ∧ base ≤ g5 ∧ base ≤ W.heap.size) (hn : x.1.length ≤ 1000000 ∧ x.2.length ≤ 1000000) (hs : strB s = .ok (t, r1)) (hk : hasKey x.1 (mkB t) = false) (hw : wordB [58] (blanksB r1) = .ok r2)
  (hin : ∀ W', Rd W' r T (blanksB r2) → Calls Tryd.prog 80 #[.pointer (some ⟨r, 0, none⟩), .int .i64 deep] W' (ValOut W' r T (.ok (j, s')))) :
  Calls Tryd.prog 103 #[.pointer (some ⟨g2, 0, none⟩), .pointer (some ⟨gS, 0, none⟩), .pointer (some ⟨g5, 0, none⟩), .pointer (some ⟨g3, 0, none⟩)] W (PartOut W r T base (PairsInv r g2 gS g5 g3 gm base deep) (.ok ((x.1 ++ [mkB t], x.2 ++ [j]), s'))) := by
 have Hr := Lib.hid hr
 have Hs := Lib.hid hs
 have Hap := Lib.hid hI.apart
 obtain ⟨⟨h2, hS, h3⟩, ⟨es, ec, hmap, hset⟩, kv, vv, h5, hks, hvs⟩ := hI
 obtain ⟨kA, kc, rfl, hkc⟩ := hks.slice
 obtain ⟨vA, vc, rfl, hvc⟩ : ∃ A c, vv = .slice A x.2.length c ∧ x.2.length ≤ c := by obtain ⟨X, xs, hrow⟩ := id hvs; exact row_slice hrow.row
 have H2 := Lib.hid h2
 have HS := Lib.hid hS
 have H3 := Lib.hid h3
 have H5 := Lib.hid h5
 have HKS := Lib.hid hks
 have HVS := Lib.hid hvs
 have Hm := Lib.hid (And.intro hmap hset)
 have Hd := Lib.hid hd
 have c2 := (blk_cell h2 0).trans rfl
 obtain ⟨key, hkey⟩ : ∃ y, mkB t = y := ⟨_, rfl⟩
 have Hkey := Lib.hid hkey
 rw [hkey] at hk
 have Hk := Lib.hid hk
 have Hw := Lib.hid hw
 clear hr hs h2 hS h3 h5 hks hvs hmap hset hd hkey hk hw
 have Hin := Lib.hid hin
 clear hin
 obtain ⟨hn1, hn2⟩ := hn
 rw [Hkey.out]
 go_enter Tryd.func103, Tryd.ntmps103
 go_upto_region 7 with (first
  | (go_at_call 75; go_must (have hc := str75 Hr.out; rw [Hs.out] at hc; refine hc.mono ?_; rintro e w6 ⟨rfl, hr6, hk6⟩)
     simp only [Hkey.out]
     have HK := Lib.hid (show Keeps (fun k => k = r ∨ k = gm) W w6 from hk6.mono (fun _ _ e => .inl e))
     have HR := Lib.hid hr6
     have Hm6 := Lib.hid (hk6.blk Hm.out.1 Hd.out.2.2.2.2.1)
     clear c2 hr6 hk6
     have c2 := (blk_cell (HK.out.blk H2.out (fun e => e.elim Hd.out.2.1 Hap.out.1.1)) 0).trans rfl
     have cS := (blk_cell (HK.out.blk HS.out (fun e => e.elim Hd.out.2.2.1 Hap.out.1.2.1)) 0).trans rfl
     (try simp only [PU]))
  | ((with_reducible refine at_dst (N := 9) rfl ?_); go_must (refine ev_lookup_set (q := key) rfl rfl Tryd.underlying98 Tryd.underlying9 zero98 rfl rfl Hm6.out Hm.out.2 ?_; rw [Hk.out]); (try simp only [PU]))
  | (refine at_update rfl ?_; go_must (refine ev_mapUpdate_set (q := key) rfl rfl rfl Tryd.underlying98 Tryd.underlying9 rfl rfl rfl Hm6.out Hm.out.2 Hk.out ?_; intro es7 c7 w7 hb7 hs7 hk7)
     have HM7 := Lib.hid (And.intro hb7 hs7)
     have HR := Lib.hid (HR.out.keep hk7 (fun e : r = gm => Hd.out.2.2.2.2.1 e.symm))
     have HK := Lib.hid (HK.out.trans hk7 (fun _ _ e => .inr e))
     clear c2 cS hb7 hs7 hk7
     have c2 := (blk_cell (HK.out.blk H2.out (fun e => e.elim Hd.out.2.1 Hap.out.1.1)) 0).trans rfl
     (try simp only [PU]))
  | (go_at_call 45; go_must (refine (blanks45 HR.out).mono ?_; rintro e w8 ⟨⟨y8, rfl⟩, hr8, hk8⟩)
     have HR := Lib.hid hr8
     have HM7 := Lib.hid (And.intro (hk8.blk HM7.out.1 Hd.out.2.2.2.2.1) HM7.out.2)
     have HK := Lib.hid (HK.out.trans hk8 (fun _ _ e => .inl e))
     clear c2 hr8 hk8
     have c2 := (blk_cell (HK.out.blk H2.out (fun e => e.elim Hd.out.2.1 Hap.out.1.1)) 0).trans rfl
     have c5 := (blk_cell (HK.out.blk H5.out (fun e => e.elim Hd.out.2.2.2.2.2.1 Hap.out.1.2.2.2)) 4).trans rfl
     (try simp only [PU]))
  | (go_at_call 74; go_must (have h74 := word74 HR.out ⟨#[58]⟩ (by decide) (nz1 58 (by decide)); rw [show bl ⟨#[58]⟩ = [58] from rfl, Hw.out] at h74; refine h74.mono ?_; rintro e w9 ⟨⟨y9, rfl⟩, hr9, hk9⟩)
     have HR := Lib.hid hr9
     have HM7 := Lib.hid (And.intro (hk9.blk HM7.out.1 Hd.out.2.2.2.2.1) HM7.out.2)
     have HK := Lib.hid (HK.out.trans hk9 (fun _ _ e => .inl e))
     clear c2 hr9 hk9
     have c2 := (blk_cell (HK.out.blk H2.out (fun e => e.elim Hd.out.2.1 Hap.out.1.1)) 0).trans rfl
     (try simp only [PU]))
 )
 obtain ⟨i22, hi22, hs22⟩ := info22
 have HI22 := Lib.hid (And.intro hi22 hs22)
 clear hi22 hs22
 go_upto_region 8 with (first
  | ((with_reducible refine at_dst (N := 28) rfl ?_); go_must (refine ev_slice (cs := #[.string key]) (t := 9) (n := 1) (c := 1) rfl (by first | (go_simp; done) | (go_simp; rfl)) ?_; intro gk w10 hgk hlk hbk hkk)
     have Hbk := Lib.hid hbk
     have HKS1 := Lib.hid ((HKS.out.keep HK.out (fun k hk' e => e.elim (fun e => by have h1 := (HKS.out.lt k hk').1; have := Hd.out.1; omega) (fun e => by rw [e] at hk'; exact HKS.out.neMap Hm.out.1 hk'.symm))).keep hkk (fun _ _ => id))
     have HR1 := Lib.hid (HR.out.keep hkk id)
     have HM7 := Lib.hid (And.intro (hkk.blk HM7.out.1 id) HM7.out.2)
     have HK1 := Lib.hid (HK.out.then hkk)
     clear hbk hkk
     (try simp only [PU]))
  | ((with_reducible refine at_dst (N := 29) rfl ?_); go_must (refine ev_append rfl rfl Tryd.underlying22 info9b rfl (by decide) (base := base) rfl HKS1.out rfl (news := [Value.string key]) rfl (fun _ => ⟨_, rfl, World.news_of_block Hbk.out⟩) (by simp [Value.oneCell']) (by omega) (by decide) (by have := HK1.out.size; have := Hd.out.2.2.2.2.2.2.2.2; omega) ?_; intro v9 w11 hown9 hk11 hr11 hf11; obtain ⟨gq, cq, rfl⟩ := hf11 (by decide))
     have Hown := Lib.hid hown9
     have Hk11 := Lib.hid hk11
     have Hr11 := Lib.hid hr11
     have H5a := Lib.hid (hk11.blk (HK1.out.blk H5.out (fun e => e.elim Hd.out.2.2.2.2.2.1 Hap.out.1.2.2.2)) (HKS1.out.ne (HK1.out.blk H5.out (fun e => e.elim Hd.out.2.2.2.2.2.1 Hap.out.1.2.2.2)) (by decide)))
     clear hown9 hk11 hr11 hf11 c5
     (try simp only [PU]))
  | ((with_reducible refine at_store (t := 22) rfl ?_); go_must (refine ev_store (cs' := #[.int .i64 6, .bool false, .int .i64 0, .string ByteArray.empty, .slice (some ⟨gq, 0, none⟩) (x.1.length + 1) cq, .slice vA x.2.length vc]) rfl rfl rfl rfl rfl rfl HI22.out.1 HI22.out.2 rfl H5a.out (Nat.le_of_ble_eq_true rfl) rfl ?_; intro w12 hb12 hk12)
     have H5b := Lib.hid hb12
     have Hk12 := Lib.hid hk12
     clear hb12 hk12
     (try simp only [PU]))
 )
 have hbg : base ≤ W.heap.size := Hd.out.2.2.2.2.2.2.2.2
 have H2c := Lib.hid (Hk12.out.blk (Hk11.out.blk (HK1.out.blk H2.out (fun e => e.elim Hd.out.2.1 Hap.out.1.1)) (HKS1.out.ne (HK1.out.blk H2.out (fun e => e.elim Hd.out.2.1 Hap.out.1.1)) (by decide))) Hap.out.2.1)
 have H3c := Lib.hid (Hk12.out.blk (Hk11.out.blk (HK1.out.blk H3.out (fun e => e.elim Hd.out.2.2.2.1 Hap.out.1.2.2.1)) (HKS1.out.ne (HK1.out.blk H3.out (fun e => e.elim Hd.out.2.2.2.1 Hap.out.1.2.2.1)) (by decide))) Hap.out.2.2.2)
 have HSc := Lib.hid (Hk12.out.blk (Hk11.out.blk (HK1.out.blk HS.out (fun e => e.elim Hd.out.2.2.1 Hap.out.1.2.1)) (HKS1.out.ne (HK1.out.blk HS.out (fun e => e.elim Hd.out.2.2.1 Hap.out.1.2.1)) (by decide))) Hap.out.2.2.1)
 have HRc := Lib.hid ((HR1.out.keep Hk11.out (HKS1.out.ne HR1.out.blk (by decide))).keep Hk12.out (fun e => Hd.out.2.2.2.2.2.1 e.symm))
 have HMc := Lib.hid (And.intro (Hk12.out.blk (Hk11.out.blk HM7.out.1 (HKS1.out.neMap HM7.out.1)) (fun e => Hap.out.1.2.2.2 e.symm)) HM7.out.2)
 have hos : OwnS w11 base (.slice (some ⟨gq, 0, none⟩) (x.1.length + 1) cq) (x.1 ++ [key]) := by
  have h := Hown.out
  unfold OwnS
  rw [List.length_append, List.map_append]
  exact h
 have HOS := Lib.hid (hos.keep Hk12.out (fun k hk e => by rw [e] at hk; exact hos.ne H5a.out (by decide) hk.symm))
 have hkt : Keeps (fun k => k = r ∨ k = gm ∨ some k = (Value.slice kA x.1.length kc).ownBlock ∨ k = g5) W w12 := ((HK1.out.mono (M' := fun k => k = r ∨ k = gm ∨ some k = (Value.slice kA x.1.length kc).ownBlock ∨ k = g5) (fun _ _ e => e.elim .inl (fun e => .inr (.inl e)))).trans Hk11.out (fun _ _ e => .inr (.inr (.inl e)))).trans Hk12.out (fun _ _ e => .inr (.inr (.inr e)))
 have HOJ := Lib.hid (HVS.out.swap (E' := fun b => b = g5 ∨ b = gm ∨ some b = (Value.slice (some ⟨gq, 0, none⟩) (x.1.length + 1) cq).ownBlock) hkt (fun b _ e => by
   rcases e with e | e | e | e
   · exact .inl (by rw [e]; exact Hd.out.1)
   · exact .inr (.inr (.inl e))
   · exact .inr (.inr (.inr e))
   · exact .inr (.inl e)) (fun b e => by
   rcases e with e | e | e
   · exact .inl (.inl e)
   · exact .inl (.inr (.inl e))
   · rcases Hr11.out with h | ⟨k, h, hk⟩
     · exact .inl (.inr (.inr (e.trans h)))
     · rw [h] at e; injection e with e; exact .inr (by have := HK1.out.size; omega)))
 have HKT := Lib.hid hkt
 clear hkt hos
 obtain ⟨X, xs, HJ⟩ : ∃ X xs, Hid (RowJ w12 base (fun b => b = g5 ∨ b = gm ∨ some b = (Value.slice (some ⟨gq, 0, none⟩) (x.1.length + 1) cq).ownBlock) (.slice vA x.2.length vc) x.2 X xs) := by
  obtain ⟨X, xs, h⟩ := HOJ.out
  exact ⟨X, xs, Lib.hid h⟩
 have HE := Lib.hid (show ∀ b, (b = g5 ∨ b = gm ∨ some b = (Value.slice (some ⟨gq, 0, none⟩) (x.1.length + 1) cq).ownBlock) → b < w12.heap.size from fun b e => by
  rcases e with e | e | e
  · rw [e]; exact blk_lt H5b.out
  · rw [e]; exact blk_lt HMc.out.1
  · exact (HOS.out.lt b e.symm).2)
 clear HVS HOJ HKS1 HK1 HR1
 obtain ⟨n, hnn⟩ : ∃ y, x.2.length = y := ⟨_, rfl⟩
 have Hnn := Lib.hid hnn
 rw [hnn] at hn2 H5b HJ
 have HDD := Lib.hid (show r < base ∧ base ≤ w12.heap.size ∧ base ≤ g5 from ⟨Hd.out.1, Nat.le_trans hbg HKT.out.size, Hd.out.2.2.2.2.2.2.2.1⟩)
 have HKM := Lib.hid (HKT.out.mono (M' := MR r base) (fun i _ e => by
   rcases e with e | e | e | e
   · exact .inl e
   · exact .inr (by rw [e]; exact Hd.out.2.2.2.2.2.2.1)
   · exact .inr (HKS.out.lt i e.symm).1
   · exact .inr (by rw [e]; exact Hd.out.2.2.2.2.2.2.2.1)))
 clear HKT HKS hnn hbg
 have c2 := (blk_cell H2c.out 0).trans rfl
 have c3 := (blk_cell H3c.out 0).trans rfl
 have c5' : w12.cell? ⟨g5, 5, none⟩ = some (.slice vA n vc) := (blk_cell H5b.out 5).trans rfl
 have N := Lib.hid (show ¬ g2 = r ∧ ¬ g3 = r ∧ ¬ g5 = r from ⟨Hd.out.2.1, Hd.out.2.2.2.1, Hd.out.2.2.2.2.2.1⟩)
 have NS := Lib.hid (show ¬ gS = r ∧ ¬ gm = r from ⟨Hd.out.2.2.1, Hd.out.2.2.2.2.1⟩)
 have HKr := Lib.hid ((Keeps.refl (· = r) w12).drew)
 have Hr0 := Lib.hid (HRc.out.keep (Keeps.refl Nob w12).drew id)
 obtain ⟨i25, hi25, hs25⟩ := info25
 obtain ⟨i23, hi23, hs23⟩ := info23
 have HI := Lib.hid (And.intro (And.intro hi25 hs25) (And.intro hi23 hs23))
 clear hi25 hs25 hi23 hs23
 refine wp_region_tree (.q 0 (.q 2 (.q 3 (.br [1, 4, 6] (fun k => bif Nat.beq k 1 then .q 5 (.br [4, 6] (fun k => bif Nat.beq k 4 then .br [6] (fun k => .br [7] (fun k => .q 8 (.q 10 (.br [9, 11] (fun k => bif Nat.beq k 9 then .br [11] (fun k => .done) else .br [9] (fun k => .done)))))) else .br [4] (fun k => .br [7] (fun k => .q 8 (.q 10 (.br [9, 11] (fun k => bif Nat.beq k 9 then .br [11] (fun k => .done) else .br [9] (fun k => .done)))))))) else bif Nat.beq k 4 then .br [1, 6] (fun k => bif Nat.beq k 1 then .q 5 (.br [6] (fun k => .br [7] (fun k => .q 8 (.q 10 (.br [9, 11] (fun k => bif Nat.beq k 9 then .br [11] (fun k => .done) else .br [9] (fun k => .done))))))) else .br [1] (fun k => .q 5 (.br [7] (fun k => .q 8 (.q 10 (.br [9, 11] (fun k => bif Nat.beq k 9 then .br [11] (fun k => .done) else .br [9] (fun k => .done)))))))) else .br [1, 4] (fun k => bif Nat.beq k 1 then .q 5 (.br [4] (fun k => .br [7] (fun k => .q 8 (.q 10 (.br [9, 11] (fun k => bif Nat.beq k 9 then .br [11] (fun k => .done) else .br [9] (fun k => .done))))))) else .br [1] (fun k => .q 5 (.br [7] (fun k => .q 8 (.q 10 (.br [9, 11] (fun k => bif Nat.beq k 9 then .br [11] (fun k => .done) else .br [9] (fun k => .done))))))))))))) (fun w' => w'.cell? ⟨g2, 0, none⟩ = some (.pointer (some ⟨r, 0, none⟩)) ∧ w'.cell? ⟨g3, 0, none⟩ = some (.int .i64 deep)) rfl (by kernel_rfl) (by kernel_rfl) (fun c a d v w h => by cases d <;> exact h) ⟨c2, c3⟩ ?_
 refine tq (some 31) ?_; (try simp only [PU])
 refine tq (some 33) ?_; (try simp only [PU])
 refine tq (some 34) ?_; (try simp only [PU])
 refine tree_b rfl rfl ?b1_12 ?nb1_12
 case' b1_12 =>
  have c6 := HKr.out.cell c5' N.out.2.2
  go_wp2_with fail
  clear c6
  (try refine ⟨⟨HKr.out.cell c2 N.out.1, HKr.out.cell c3 N.out.2.1⟩, ?_⟩)
  refine tq (some 36) ?_; (try simp only [PU])
  refine tree_b rfl rfl ?b1_5 ?nb1_5
  case' b1_5 =>
   go_wp2_with (go_at_call 80; go_must (refine (Hin.out _ Hr0.out).mono ?_; rintro e w1 ⟨⟨v1, rfl, hv1⟩, hr1, hk1⟩; obtain ⟨jk, jb, jn, jt, jks, jvs, jkv, jvv, hjj, rfl, hjk, hjv⟩ := hv1.open; obtain ⟨kA', kc', rfl, -, -⟩ := hjk; obtain ⟨jA, jc, ju, rfl, -, -, -⟩ := hjv); have hw0 := HKr.out.size; have HV := Lib.hid (hv1.keep (X' := fun b => w12.heap.size ≤ b ∧ b < w1.heap.size) (Keeps.refl Nob w1) (fun _ _ _ => id) (fun b hb hx => ⟨Nat.le_trans hw0 hx, hb⟩)); have Hr1 := Lib.hid hr1; have Hk1 := Lib.hid hk1; have HKr := Lib.hid (HKr.out.trans hk1 (fun _ _ h => h)); clear hv1 hr1 hjj hw0 hk1; generalize jks.length = kl at *; generalize jvs.length = vl at *; (try simp only [PU]))
   (try have Hbz := Lib.hid (Hk1.out.blk Hbz.out (fun e : gz = r => by have h1 : w12.heap.size ≤ gz := Hgz.out; have h2 := HDD.out; omega)))
   refine ⟨⟨HKr.out.cell c2 N.out.1, HKr.out.cell c3 N.out.2.1⟩, ?_⟩
   refine tree_e rfl rfl ?_
   go_must (refine ev_slice (cs := #[.int .i64 0, .bool false, .int .i64 0, .string ByteArray.empty, .slice none 0 0, .slice none 0 0]) (t := 25) (n := 1) (c := 1) rfl (by first | (go_simp; done) | (go_simp; rfl)) ?_; intro gz wz hgz hlz hbz hkz)
   (try simp only [PU])
   have Hgz := Lib.hid (Nat.le_trans HKr.out.size hgz)
   have Hbz := Lib.hid hbz
   (try have Hr1 := Lib.hid (Hr1.out.keep hkz id))
   (try have HV := Lib.hid (HV.out.keep (X' := fun b => w12.heap.size ≤ b ∧ b < wz.heap.size) hkz (fun _ _ _ => id) (fun b hb h => ⟨h.1, Nat.lt_of_lt_of_le h.2 hkz.size⟩)))
   (try have Hr0 := Lib.hid (Rd.keep (M := Nob) Hr0.out hkz id))
   have HKr := Lib.hid (HKr.out.then hkz)
   clear hbz hkz hgz
   refine wpList_nil ⟨⟨HKr.out.cell c2 N.out.1, HKr.out.cell c3 N.out.2.1⟩, ?_⟩
   refine tree_e rfl rfl ?_
   have HJc := Lib.hid (HJ.out.keep HKr.out (fun b _ e => .inl (by have := HDD.out; omega)))
   have hrow7 := HJc.out.row
   rw [Hnn.out] at hrow7
   have Hrow7 := Lib.hid hrow7
   clear hrow7
   go_must (refine ev_append rfl rfl Tryd.underlying23 info25b rfl (by decide) (base := base) rfl Hrow7.out rfl (news := [.int .i64 0, .bool false, .int .i64 0, .string ByteArray.empty, .slice none 0 0, .slice none 0 0]) rfl (fun _ => ⟨_, rfl, World.news_of_block Hbz.out⟩) (by simp [Value.oneCell']) (by omega) (by decide) (by have := HKr.out.size; have := HDD.out; omega) ?_; intro v6 w6 hown6 hk6 hr6 hf6; obtain ⟨gr, cap, rfl⟩ := hf6 (by decide))
   have Hr6 := Lib.hid hr6
   (try simp only [PU])
   have b2 := HKr.out.blk H2c.out N.out.1
   have b3 := HKr.out.blk H3c.out N.out.2.1
   have b6 := HKr.out.blk H5b.out N.out.2.2
   have bS := HKr.out.blk HSc.out NS.out.1
   have bm := HKr.out.blk HMc.out.1 NS.out.2
   have bk := HOS.out.keep HKr.out (fun k hk' e => by have h1 := (HOS.out.lt k hk').1; have := HDD.out; omega)
   have H2k := Lib.hid (hk6.blk b2 (row_ne Hrow7.out b2 (by decide)))
   have H3k := Lib.hid (hk6.blk b3 (row_ne Hrow7.out b3 (by decide)))
   have HSk := Lib.hid (hk6.blk bS (row_ne Hrow7.out bS (by decide)))
   have HMk := Lib.hid (hk6.blk bm (row_neMap Hrow7.out bm))
   have HOk := Lib.hid (bk.keep hk6 (fun k hk' e => HJc.out.ne k e.symm (.inr (.inr hk'.symm))))
   have H6k := Lib.hid (hk6.blk b6 (fun e => HJc.out.ne g5 e.symm (.inl rfl)))
   have Hrk := Lib.hid (Hr1.out.keep hk6 (row_ne Hrow7.out Hr1.out.blk (by decide)))
   obtain ⟨cur, hcur⟩ : ∃ cur, w6.heap[gr]? = some (.cells cur 25 (0, 0)) ∧ n + 1 ≤ cap ∧ cur.size = cap * 6 ∧ base ≤ gr := by
    rcases hown6.2 with ⟨e, _⟩ | ⟨g', cap', cur, e, hb, hg', hc, hm, hs, ht⟩
    · cases e
    · injection e with e1 e2 e3
      injection e1 with e1
      injection e1 with e1
      subst e1; subst e3
      exact ⟨cur, hg', hc, hs, hb⟩
   have Hcf := Lib.hid hcur.2
   have Hcur := Lib.hid hcur.1
   have Hg6r := Lib.hid (row_notin (fun e => HJc.out.ne g5 e (.inl rfl)) (blk_lt H5b.out) HKr.out.size hr6)
   have Hrowk := Lib.hid hown6
   have HKo := Lib.hid (hk6.mono (M' := fun k => some k = (Value.slice vA n vc).ownBlock ∨ (k = g5 ∨ k = gm ∨ some k = (Value.slice (some ⟨gq, 0, none⟩) (x.1.length + 1) cq).ownBlock)) (fun _ _ e => .inl e))
   have HKall := Lib.hid ((HKM.out.trans (keepsMR HKr.out) (fun _ _ h => h)).trans hk6 (fun i hi e => .inr (row_lt HJ.out.row i e.symm).1))
   have HWc := Lib.hid HKr.out.size
   have hlt1 : (n : Int) < (n : Int) + 1 := by omega
   clear hown6 hk6 hr6 hf6 b2 b3 b6 bS bm bk hcur
   refine wpList_nil ⟨⟨(blk_cell H2k.out 0).trans rfl, (blk_cell H3k.out 0).trans rfl⟩, ?_⟩
   refine tq (some 39) ?_; (try simp only [PU])
   refine tq (some 40) ?_; (try simp only [PU])
   refine tree_b rfl rfl ?b1_1 ?nb1_1
   case' b1_1 =>
    have hfit : n * 6 + 6 ≤ cur.size := by have h1 := Hcf.out.1; have h2 := Hcf.out.2.1; omega
    go_must (refine ev_store (x := .agg #[.int .i64 jk, .bool jb, .int .i64 jn, .string jt, .slice kA' kl kc', .slice jA vl jc]) (vs := [.int .i64 jk, .bool jb, .int .i64 jn, .string jt, .slice kA' kl kc', .slice jA vl jc]) (off := n * 6) (cs' := List.toArray (cur.toList.take (n * 6) ++ ([Value.int .i64 jk, Value.bool jb, Value.int .i64 jn, Value.string jt, Value.slice kA' kl kc', Value.slice jA vl jc] : List Value) ++ cur.toList.drop (n * 6 + 6))) rfl rfl rfl rfl rfl rfl HI.out.1.1 HI.out.1.2 rfl Hcur.out hfit rfl ?_; intro w7 hb7 hk7)
    (try simp only [PU])
    have Hown9 := Lib.hid (RowJ.push HJc.out HV.out (fun b hb => ⟨by have := HDD.out; have := hb.1; omega, fun e => by have := HE.out b e; have := hb.1; omega, fun e => by have := (row_lt HJ.out.row b e.symm).2; have := hb.1; omega, hb.2⟩) (fun b e => Nat.lt_of_lt_of_le (HE.out b e) HWc.out) rfl (by rw [Hnn.out]; exact Hrowk.out) HKo.out Hr6.out (by rw [Hnn.out]) Hcur.out (by rw [Hnn.out]; exact hb7) hk7)
    have H2k := Lib.hid (hk7.blk H2k.out (blk_type H2k.out Hcur.out (by decide)))
    have H3k := Lib.hid (hk7.blk H3k.out (blk_type H3k.out Hcur.out (by decide)))
    have HSk := Lib.hid (hk7.blk HSk.out (blk_type HSk.out Hcur.out (by decide)))
    have HMk := Lib.hid (hk7.blk HMk.out (fun e => map_ne Hcur.out HMk.out e.symm))
    have HOk := Lib.hid (HOk.out.keep hk7 (fun k hk' e => HOk.out.ne Hcur.out (by decide) (by rw [hk', e])))
    have H6k := Lib.hid (hk7.blk H6k.out Hg6r.out)
    have Hrk := Lib.hid (Hrk.out.keep hk7 (blk_type Hrk.out.blk Hcur.out (by decide)))
    have HKall := Lib.hid (HKall.out.trans hk7 (fun i _ e => .inr (by rw [e]; exact Hcf.out.2.2)))
    clear hb7 hk7 hfit
    refine wpList_nil ⟨⟨(blk_cell H2k.out 0).trans rfl, (blk_cell H3k.out 0).trans rfl⟩, ?_⟩
    refine tree_e rfl rfl ?_
    go_must (refine ev_store (cs' := #[.int .i64 6, .bool false, .int .i64 0, .string ByteArray.empty, .slice (some ⟨gq, 0, none⟩) (x.1.length + 1) cq, .slice (some ⟨gr, 0, none⟩) (n + 1) cap]) rfl rfl rfl rfl rfl rfl HI.out.2.1 HI.out.2.2 rfl H6k.out (Nat.le_of_ble_eq_true rfl) rfl ?_; intro w8 hb8 hk8)
    (try simp only [PU])
    have Hb8 := Lib.hid hb8
    (try have Hown9 := Lib.hid (Hown9.out.keep hk8 (fun b _ e => .inr (.inl e))))
    (try have HKo := Lib.hid (HKo.out.trans hk8 (fun _ _ e => .inr (.inl e))))
    (try have Hrowk := Lib.hid (row_keep Hrowk.out hk8 (fun k hk e => Hg6r.out (by rw [← e]; exact (Option.some.inj hk).symm))))
    (try have Hcur := Lib.hid (hk8.blk Hcur.out (fun e => Hg6r.out e.symm)))
    have H2k := Lib.hid (hk8.blk H2k.out (blk_type H2k.out H6k.out (by decide)))
    have H3k := Lib.hid (hk8.blk H3k.out (blk_type H3k.out H6k.out (by decide)))
    have HSk := Lib.hid (hk8.blk HSk.out (blk_type HSk.out H6k.out (by decide)))
    have HMk := Lib.hid (hk8.blk HMk.out (fun e => map_ne H6k.out HMk.out e.symm))
    have HOk := Lib.hid (HOk.out.keep hk8 (fun k hk' e => HOk.out.ne H6k.out (by decide) (by rw [hk', e])))
    have Hrk := Lib.hid (Hrk.out.keep hk8 (fun e => N.out.2.2 e.symm))
    have HKall := Lib.hid (HKall.out.trans hk8 (fun i _ e => .inr (by rw [e]; exact HDD.out.2.2)))
    have H6k := Hb8
    clear hb8 hk8
    refine wpList_nil ⟨⟨(blk_cell H2k.out 0).trans rfl, (blk_cell H3k.out 0).trans rfl⟩, ?_⟩
    refine tree_nil ?_
   case' nb1_1 =>
    refine tree_e rfl rfl ?b1_2
    case' b1_2 =>
     go_must (refine ev_store (cs' := #[.int .i64 6, .bool false, .int .i64 0, .string ByteArray.empty, .slice (some ⟨gq, 0, none⟩) (x.1.length + 1) cq, .slice (some ⟨gr, 0, none⟩) (n + 1) cap]) rfl rfl rfl rfl rfl rfl HI.out.2.1 HI.out.2.2 rfl H6k.out (Nat.le_of_ble_eq_true rfl) rfl ?_; intro w8 hb8 hk8)
     (try simp only [PU])
     have Hb8 := Lib.hid hb8
     (try have Hown9 := Lib.hid (Hown9.out.keep hk8 (fun b _ e => .inr (.inl e))))
     (try have HKo := Lib.hid (HKo.out.trans hk8 (fun _ _ e => .inr (.inl e))))
     (try have Hrowk := Lib.hid (row_keep Hrowk.out hk8 (fun k hk e => Hg6r.out (by rw [← e]; exact (Option.some.inj hk).symm))))
     (try have Hcur := Lib.hid (hk8.blk Hcur.out (fun e => Hg6r.out e.symm)))
     have H2k := Lib.hid (hk8.blk H2k.out (blk_type H2k.out H6k.out (by decide)))
     have H3k := Lib.hid (hk8.blk H3k.out (blk_type H3k.out H6k.out (by decide)))
     have HSk := Lib.hid (hk8.blk HSk.out (blk_type HSk.out H6k.out (by decide)))
     have HMk := Lib.hid (hk8.blk HMk.out (fun e => map_ne H6k.out HMk.out e.symm))
     have HOk := Lib.hid (HOk.out.keep hk8 (fun k hk' e => HOk.out.ne H6k.out (by decide) (by rw [hk', e])))
     have Hrk := Lib.hid (Hrk.out.keep hk8 (fun e => N.out.2.2 e.symm))
     have HKall := Lib.hid (HKall.out.trans hk8 (fun i _ e => .inr (by rw [e]; exact HDD.out.2.2)))
     have H6k := Hb8
     clear hb8 hk8
     refine wpList_nil ⟨⟨(blk_cell H2k.out 0).trans rfl, (blk_cell H3k.out 0).trans rfl⟩, ?_⟩
     refine tree_e rfl rfl ?_
     have hfit : n * 6 + 6 ≤ cur.size := by have h1 := Hcf.out.1; have h2 := Hcf.out.2.1; omega
     go_must (refine ev_store (x := .agg #[.int .i64 jk, .bool jb, .int .i64 jn, .string jt, .slice kA' kl kc', .slice jA vl jc]) (vs := [.int .i64 jk, .bool jb, .int .i64 jn, .string jt, .slice kA' kl kc', .slice jA vl jc]) (off := n * 6) (cs' := List.toArray (cur.toList.take (n * 6) ++ ([Value.int .i64 jk, Value.bool jb, Value.int .i64 jn, Value.string jt, Value.slice kA' kl kc', Value.slice jA vl jc] : List Value) ++ cur.toList.drop (n * 6 + 6))) rfl rfl rfl rfl rfl rfl HI.out.1.1 HI.out.1.2 rfl Hcur.out hfit rfl ?_; intro w7 hb7 hk7)
     (try simp only [PU])
     have Hown9 := Lib.hid (RowJ.push HJc.out HV.out (fun b hb => ⟨by have := HDD.out; have := hb.1; omega, fun e => by have := HE.out b e; have := hb.1; omega, fun e => by have := (row_lt HJ.out.row b e.symm).2; have := hb.1; omega, hb.2⟩) (fun b e => Nat.lt_of_lt_of_le (HE.out b e) HWc.out) rfl (by rw [Hnn.out]; exact Hrowk.out) HKo.out Hr6.out (by rw [Hnn.out]) Hcur.out (by rw [Hnn.out]; exact hb7) hk7)
     have H2k := Lib.hid (hk7.blk H2k.out (blk_type H2k.out Hcur.out (by decide)))
     have H3k := Lib.hid (hk7.blk H3k.out (blk_type H3k.out Hcur.out (by decide)))
     have HSk := Lib.hid (hk7.blk HSk.out (blk_type HSk.out Hcur.out (by decide)))
     have HMk := Lib.hid (hk7.blk HMk.out (fun e => map_ne Hcur.out HMk.out e.symm))
     have HOk := Lib.hid (HOk.out.keep hk7 (fun k hk' e => HOk.out.ne Hcur.out (by decide) (by rw [hk', e])))
     have H6k := Lib.hid (hk7.blk H6k.out Hg6r.out)
     have Hrk := Lib.hid (Hrk.out.keep hk7 (blk_type Hrk.out.blk Hcur.out (by decide)))
     have HKall := Lib.hid (HKall.out.trans hk7 (fun i _ e => .inr (by rw [e]; exact Hcf.out.2.2)))
     clear hb7 hk7 hfit
     refine wpList_nil ⟨⟨(blk_cell H2k.out 0).trans rfl, (blk_cell H3k.out 0).trans rfl⟩, ?_⟩
     refine tree_nil ?_
  case' nb1_5 =>
   refine tree_e rfl rfl ?b1_10
   case' b1_10 =>
    go_must (refine ev_slice (cs := #[.int .i64 0, .bool false, .int .i64 0, .string ByteArray.empty, .slice none 0 0, .slice none 0 0]) (t := 25) (n := 1) (c := 1) rfl (by first | (go_simp; done) | (go_simp; rfl)) ?_; intro gz wz hgz hlz hbz hkz)
    (try simp only [PU])
    have Hgz := Lib.hid (Nat.le_trans HKr.out.size hgz)
    have Hbz := Lib.hid hbz
    (try have Hr1 := Lib.hid (Hr1.out.keep hkz id))
    (try have HV := Lib.hid (HV.out.keep (X' := fun b => w12.heap.size ≤ b ∧ b < wz.heap.size) hkz (fun _ _ _ => id) (fun b hb h => ⟨h.1, Nat.lt_of_lt_of_le h.2 hkz.size⟩)))
    (try have Hr0 := Lib.hid (Rd.keep (M := Nob) Hr0.out hkz id))
    have HKr := Lib.hid (HKr.out.then hkz)
    clear hbz hkz hgz
    refine wpList_nil ⟨⟨HKr.out.cell c2 N.out.1, HKr.out.cell c3 N.out.2.1⟩, ?_⟩
    refine tree_e rfl rfl ?_
    go_wp2_with (go_at_call 80; go_must (refine (Hin.out _ Hr0.out).mono ?_; rintro e w1 ⟨⟨v1, rfl, hv1⟩, hr1, hk1⟩; obtain ⟨jk, jb, jn, jt, jks, jvs, jkv, jvv, hjj, rfl, hjk, hjv⟩ := hv1.open; obtain ⟨kA', kc', rfl, -, -⟩ := hjk; obtain ⟨jA, jc, ju, rfl, -, -, -⟩ := hjv); have hw0 := HKr.out.size; have HV := Lib.hid (hv1.keep (X' := fun b => w12.heap.size ≤ b ∧ b < w1.heap.size) (Keeps.refl Nob w1) (fun _ _ _ => id) (fun b hb hx => ⟨Nat.le_trans hw0 hx, hb⟩)); have Hr1 := Lib.hid hr1; have Hk1 := Lib.hid hk1; have HKr := Lib.hid (HKr.out.trans hk1 (fun _ _ h => h)); clear hv1 hr1 hjj hw0 hk1; generalize jks.length = kl at *; generalize jvs.length = vl at *; (try simp only [PU]))
    (try have Hbz := Lib.hid (Hk1.out.blk Hbz.out (fun e : gz = r => by have h1 : w12.heap.size ≤ gz := Hgz.out; have h2 := HDD.out; omega)))
    refine ⟨⟨HKr.out.cell c2 N.out.1, HKr.out.cell c3 N.out.2.1⟩, ?_⟩
    refine tree_e rfl rfl ?_
    have HJc := Lib.hid (HJ.out.keep HKr.out (fun b _ e => .inl (by have := HDD.out; omega)))
    have hrow7 := HJc.out.row
    rw [Hnn.out] at hrow7
    have Hrow7 := Lib.hid hrow7
    clear hrow7
    go_must (refine ev_append rfl rfl Tryd.underlying23 info25b rfl (by decide) (base := base) rfl Hrow7.out rfl (news := [.int .i64 0, .bool false, .int .i64 0, .string ByteArray.empty, .slice none 0 0, .slice none 0 0]) rfl (fun _ => ⟨_, rfl, World.news_of_block Hbz.out⟩) (by simp [Value.oneCell']) (by omega) (by decide) (by have := HKr.out.size; have := HDD.out; omega) ?_; intro v6 w6 hown6 hk6 hr6 hf6; obtain ⟨gr, cap, rfl⟩ := hf6 (by decide))
    have Hr6 := Lib.hid hr6
    (try simp only [PU])
    have b2 := HKr.out.blk H2c.out N.out.1
    have b3 := HKr.out.blk H3c.out N.out.2.1
    have b6 := HKr.out.blk H5b.out N.out.2.2
    have bS := HKr.out.blk HSc.out NS.out.1
    have bm := HKr.out.blk HMc.out.1 NS.out.2
    have bk := HOS.out.keep HKr.out (fun k hk' e => by have h1 := (HOS.out.lt k hk').1; have := HDD.out; omega)
    have H2k := Lib.hid (hk6.blk b2 (row_ne Hrow7.out b2 (by decide)))
    have H3k := Lib.hid (hk6.blk b3 (row_ne Hrow7.out b3 (by decide)))
    have HSk := Lib.hid (hk6.blk bS (row_ne Hrow7.out bS (by decide)))
    have HMk := Lib.hid (hk6.blk bm (row_neMap Hrow7.out bm))
    have HOk := Lib.hid (bk.keep hk6 (fun k hk' e => HJc.out.ne k e.symm (.inr (.inr hk'.symm))))
    have H6k := Lib.hid (hk6.blk b6 (fun e => HJc.out.ne g5 e.symm (.inl rfl)))
    have Hrk := Lib.hid (Hr1.out.keep hk6 (row_ne Hrow7.out Hr1.out.blk (by decide)))
    obtain ⟨cur, hcur⟩ : ∃ cur, w6.heap[gr]? = some (.cells cur 25 (0, 0)) ∧ n + 1 ≤ cap ∧ cur.size = cap * 6 ∧ base ≤ gr := by
     rcases hown6.2 with ⟨e, _⟩ | ⟨g', cap', cur, e, hb, hg', hc, hm, hs, ht⟩
     · cases e
     · injection e with e1 e2 e3
       injection e1 with e1
       injection e1 with e1
       subst e1; subst e3
       exact ⟨cur, hg', hc, hs, hb⟩
    have Hcf := Lib.hid hcur.2
    have Hcur := Lib.hid hcur.1
    have Hg6r := Lib.hid (row_notin (fun e => HJc.out.ne g5 e (.inl rfl)) (blk_lt H5b.out) HKr.out.size hr6)
    have Hrowk := Lib.hid hown6
    have HKo := Lib.hid (hk6.mono (M' := fun k => some k = (Value.slice vA n vc).ownBlock ∨ (k = g5 ∨ k = gm ∨ some k = (Value.slice (some ⟨gq, 0, none⟩) (x.1.length + 1) cq).ownBlock)) (fun _ _ e => .inl e))
    have HKall := Lib.hid ((HKM.out.trans (keepsMR HKr.out) (fun _ _ h => h)).trans hk6 (fun i hi e => .inr (row_lt HJ.out.row i e.symm).1))
    have HWc := Lib.hid HKr.out.size
    have hlt1 : (n : Int) < (n : Int) + 1 := by omega
    clear hown6 hk6 hr6 hf6 b2 b3 b6 bS bm bk hcur
    refine wpList_nil ⟨⟨(blk_cell H2k.out 0).trans rfl, (blk_cell H3k.out 0).trans rfl⟩, ?_⟩
    refine tq (some 39) ?_; (try simp only [PU])
    refine tq (some 40) ?_; (try simp only [PU])
    refine tree_b rfl rfl ?b1_6 ?nb1_6
    case' b1_6 =>
     have hfit : n * 6 + 6 ≤ cur.size := by have h1 := Hcf.out.1; have h2 := Hcf.out.2.1; omega
     go_must (refine ev_store (x := .agg #[.int .i64 jk, .bool jb, .int .i64 jn, .string jt, .slice kA' kl kc', .slice jA vl jc]) (vs := [.int .i64 jk, .bool jb, .int .i64 jn, .string jt, .slice kA' kl kc', .slice jA vl jc]) (off := n * 6) (cs' := List.toArray (cur.toList.take (n * 6) ++ ([Value.int .i64 jk, Value.bool jb, Value.int .i64 jn, Value.string jt, Value.slice kA' kl kc', Value.slice jA vl jc] : List Value) ++ cur.toList.drop (n * 6 + 6))) rfl rfl rfl rfl rfl rfl HI.out.1.1 HI.out.1.2 rfl Hcur.out hfit rfl ?_; intro w7 hb7 hk7)
     (try simp only [PU])
     have Hown9 := Lib.hid (RowJ.push HJc.out HV.out (fun b hb => ⟨by have := HDD.out; have := hb.1; omega, fun e => by have := HE.out b e; have := hb.1; omega, fun e => by have := (row_lt HJ.out.row b e.symm).2; have := hb.1; omega, hb.2⟩) (fun b e => Nat.lt_of_lt_of_le (HE.out b e) HWc.out) rfl (by rw [Hnn.out]; exact Hrowk.out) HKo.out Hr6.out (by rw [Hnn.out]) Hcur.out (by rw [Hnn.out]; exact hb7) hk7)
     have H2k := Lib.hid (hk7.blk H2k.out (blk_type H2k.out Hcur.out (by decide)))
     have H3k := Lib.hid (hk7.blk H3k.out (blk_type H3k.out Hcur.out (by decide)))
     have HSk := Lib.hid (hk7.blk HSk.out (blk_type HSk.out Hcur.out (by decide)))
     have HMk := Lib.hid (hk7.blk HMk.out (fun e => map_ne Hcur.out HMk.out e.symm))
     have HOk := Lib.hid (HOk.out.keep hk7 (fun k hk' e => HOk.out.ne Hcur.out (by decide) (by rw [hk', e])))
     have H6k := Lib.hid (hk7.blk H6k.out Hg6r.out)
     have Hrk := Lib.hid (Hrk.out.keep hk7 (blk_type Hrk.out.blk Hcur.out (by decide)))
     have HKall := Lib.hid (HKall.out.trans hk7 (fun i _ e => .inr (by rw [e]; exact Hcf.out.2.2)))
     clear hb7 hk7 hfit
     refine wpList_nil ⟨⟨(blk_cell H2k.out 0).trans rfl, (blk_cell H3k.out 0).trans rfl⟩, ?_⟩
     refine tree_e rfl rfl ?_
     go_must (refine ev_store (cs' := #[.int .i64 6, .bool false, .int .i64 0, .string ByteArray.empty, .slice (some ⟨gq, 0, none⟩) (x.1.length + 1) cq, .slice (some ⟨gr, 0, none⟩) (n + 1) cap]) rfl rfl rfl rfl rfl rfl HI.out.2.1 HI.out.2.2 rfl H6k.out (Nat.le_of_ble_eq_true rfl) rfl ?_; intro w8 hb8 hk8)
     (try simp only [PU])
     have Hb8 := Lib.hid hb8
     (try have Hown9 := Lib.hid (Hown9.out.keep hk8 (fun b _ e => .inr (.inl e))))
     (try have HKo := Lib.hid (HKo.out.trans hk8 (fun _ _ e => .inr (.inl e))))
     (try have Hrowk := Lib.hid (row_keep Hrowk.out hk8 (fun k hk e => Hg6r.out (by rw [← e]; exact (Option.some.inj hk).symm))))
     (try have Hcur := Lib.hid (hk8.blk Hcur.out (fun e => Hg6r.out e.symm)))
     have H2k := Lib.hid (hk8.blk H2k.out (blk_type H2k.out H6k.out (by decide)))
     have H3k := Lib.hid (hk8.blk H3k.out (blk_type H3k.out H6k.out (by decide)))
     have HSk := Lib.hid (hk8.blk HSk.out (blk_type HSk.out H6k.out (by decide)))
     have HMk := Lib.hid (hk8.blk HMk.out (fun e => map_ne H6k.out HMk.out e.symm))
     have HOk := Lib.hid (HOk.out.keep hk8 (fun k hk' e => HOk.out.ne H6k.out (by decide) (by rw [hk', e])))
     have Hrk := Lib.hid (Hrk.out.keep hk8 (fun e => N.out.2.2 e.symm))
     have HKall := Lib.hid (HKall.out.trans hk8 (fun i _ e => .inr (by rw [e]; exact HDD.out.2.2)))
     have H6k := Hb8
     clear hb8 hk8
     refine wpList_nil ⟨⟨(blk_cell H2k.out 0).trans rfl, (blk_cell H3k.out 0).trans rfl⟩, ?_⟩
     refine tree_nil ?_
    case' nb1_6 =>
     refine tree_e rfl rfl ?b1_7
     case' b1_7 =>
      go_must (refine ev_store (cs' := #[.int .i64 6, .bool false, .int .i64 0, .string ByteArray.empty, .slice (some ⟨gq, 0, none⟩) (x.1.length + 1) cq, .slice (some ⟨gr, 0, none⟩) (n + 1) cap]) rfl rfl rfl rfl rfl rfl HI.out.2.1 HI.out.2.2 rfl H6k.out (Nat.le_of_ble_eq_true rfl) rfl ?_; intro w8 hb8 hk8)
      (try simp only [PU])
      have Hb8 := Lib.hid hb8
      (try have Hown9 := Lib.hid (Hown9.out.keep hk8 (fun b _ e => .inr (.inl e))))
      (try have HKo := Lib.hid (HKo.out.trans hk8 (fun _ _ e => .inr (.inl e))))
      (try have Hrowk := Lib.hid (row_keep Hrowk.out hk8 (fun k hk e => Hg6r.out (by rw [← e]; exact (Option.some.inj hk).symm))))
      (try have Hcur := Lib.hid (hk8.blk Hcur.out (fun e => Hg6r.out e.symm)))
      have H2k := Lib.hid (hk8.blk H2k.out (blk_type H2k.out H6k.out (by decide)))
      have H3k := Lib.hid (hk8.blk H3k.out (blk_type H3k.out H6k.out (by decide)))
      have HSk := Lib.hid (hk8.blk HSk.out (blk_type HSk.out H6k.out (by decide)))
      have HMk := Lib.hid (hk8.blk HMk.out (fun e => map_ne H6k.out HMk.out e.symm))
      have HOk := Lib.hid (HOk.out.keep hk8 (fun k hk' e => HOk.out.ne H6k.out (by decide) (by rw [hk', e])))
      have Hrk := Lib.hid (Hrk.out.keep hk8 (fun e => N.out.2.2 e.symm))
      have HKall := Lib.hid (HKall.out.trans hk8 (fun i _ e => .inr (by rw [e]; exact HDD.out.2.2)))
      have H6k := Hb8
      clear hb8 hk8
      refine wpList_nil ⟨⟨(blk_cell H2k.out 0).trans rfl, (blk_cell H3k.out 0).trans rfl⟩, ?_⟩
      refine tree_e rfl rfl ?_
      have hfit : n * 6 + 6 ≤ cur.size := by have h1 := Hcf.out.1; have h2 := Hcf.out.2.1; omega
      go_must (refine ev_store (x := .agg #[.int .i64 jk, .bool jb, .int .i64 jn, .string jt, .slice kA' kl kc', .slice jA vl jc]) (vs := [.int .i64 jk, .bool jb, .int .i64 jn, .string jt, .slice kA' kl kc', .slice jA vl jc]) (off := n * 6) (cs' := List.toArray (cur.toList.take (n * 6) ++ ([Value.int .i64 jk, Value.bool jb, Value.int .i64 jn, Value.string jt, Value.slice kA' kl kc', Value.slice jA vl jc] : List Value) ++ cur.toList.drop (n * 6 + 6))) rfl rfl rfl rfl rfl rfl HI.out.1.1 HI.out.1.2 rfl Hcur.out hfit rfl ?_; intro w7 hb7 hk7)
      (try simp only [PU])
      have Hown9 := Lib.hid (RowJ.push HJc.out HV.out (fun b hb => ⟨by have := HDD.out; have := hb.1; omega, fun e => by have := HE.out b e; have := hb.1; omega, fun e => by have := (row_lt HJ.out.row b e.symm).2; have := hb.1; omega, hb.2⟩) (fun b e => Nat.lt_of_lt_of_le (HE.out b e) HWc.out) rfl (by rw [Hnn.out]; exact Hrowk.out) HKo.out Hr6.out (by rw [Hnn.out]) Hcur.out (by rw [Hnn.out]; exact hb7) hk7)
      have H2k := Lib.hid (hk7.blk H2k.out (blk_type H2k.out Hcur.out (by decide)))
      have H3k := Lib.hid (hk7.blk H3k.out (blk_type H3k.out Hcur.out (by decide)))
      have HSk := Lib.hid (hk7.blk HSk.out (blk_type HSk.out Hcur.out (by decide)))
      have HMk := Lib.hid (hk7.blk HMk.out (fun e => map_ne Hcur.out HMk.out e.symm))
      have HOk := Lib.hid (HOk.out.keep hk7 (fun k hk' e => HOk.out.ne Hcur.out (by decide) (by rw [hk', e])))
      have H6k := Lib.hid (hk7.blk H6k.out Hg6r.out)
      have Hrk := Lib.hid (Hrk.out.keep hk7 (blk_type Hrk.out.blk Hcur.out (by decide)))
      have HKall := Lib.hid (HKall.out.trans hk7 (fun i _ e => .inr (by rw [e]; exact Hcf.out.2.2)))
      clear hb7 hk7 hfit
      refine wpList_nil ⟨⟨(blk_cell H2k.out 0).trans rfl, (blk_cell H3k.out 0).trans rfl⟩, ?_⟩
      refine tree_nil ?_
 case' nb1_12 =>
  refine tree_b rfl rfl ?b1_25 ?nb1_25
  case' b1_25 =>
   go_wp2_with (go_at_call 80; go_must (refine (Hin.out _ Hr0.out).mono ?_; rintro e w1 ⟨⟨v1, rfl, hv1⟩, hr1, hk1⟩; obtain ⟨jk, jb, jn, jt, jks, jvs, jkv, jvv, hjj, rfl, hjk, hjv⟩ := hv1.open; obtain ⟨kA', kc', rfl, -, -⟩ := hjk; obtain ⟨jA, jc, ju, rfl, -, -, -⟩ := hjv); have hw0 := HKr.out.size; have HV := Lib.hid (hv1.keep (X' := fun b => w12.heap.size ≤ b ∧ b < w1.heap.size) (Keeps.refl Nob w1) (fun _ _ _ => id) (fun b hb hx => ⟨Nat.le_trans hw0 hx, hb⟩)); have Hr1 := Lib.hid hr1; have Hk1 := Lib.hid hk1; have HKr := Lib.hid (HKr.out.trans hk1 (fun _ _ h => h)); clear hv1 hr1 hjj hw0 hk1; generalize jks.length = kl at *; generalize jvs.length = vl at *; (try simp only [PU]))
   (try have Hbz := Lib.hid (Hk1.out.blk Hbz.out (fun e : gz = r => by have h1 : w12.heap.size ≤ gz := Hgz.out; have h2 := HDD.out; omega)))
   refine ⟨⟨HKr.out.cell c2 N.out.1, HKr.out.cell c3 N.out.2.1⟩, ?_⟩
   refine tree_b rfl rfl ?b1_18 ?nb1_18
   case' b1_18 =>
    have c6 := HKr.out.cell c5' N.out.2.2
    go_wp2_with fail
    clear c6
    (try refine ⟨⟨HKr.out.cell c2 N.out.1, HKr.out.cell c3 N.out.2.1⟩, ?_⟩)
    refine tq (some 36) ?_; (try simp only [PU])
    refine tree_e rfl rfl ?_
    go_must (refine ev_slice (cs := #[.int .i64 0, .bool false, .int .i64 0, .string ByteArray.empty, .slice none 0 0, .slice none 0 0]) (t := 25) (n := 1) (c := 1) rfl (by first | (go_simp; done) | (go_simp; rfl)) ?_; intro gz wz hgz hlz hbz hkz)
    (try simp only [PU])
    have Hgz := Lib.hid (Nat.le_trans HKr.out.size hgz)
    have Hbz := Lib.hid hbz
    (try have Hr1 := Lib.hid (Hr1.out.keep hkz id))
    (try have HV := Lib.hid (HV.out.keep (X' := fun b => w12.heap.size ≤ b ∧ b < wz.heap.size) hkz (fun _ _ _ => id) (fun b hb h => ⟨h.1, Nat.lt_of_lt_of_le h.2 hkz.size⟩)))
    (try have Hr0 := Lib.hid (Rd.keep (M := Nob) Hr0.out hkz id))
    have HKr := Lib.hid (HKr.out.then hkz)
    clear hbz hkz hgz
    refine wpList_nil ⟨⟨HKr.out.cell c2 N.out.1, HKr.out.cell c3 N.out.2.1⟩, ?_⟩
    refine tree_e rfl rfl ?_
    have HJc := Lib.hid (HJ.out.keep HKr.out (fun b _ e => .inl (by have := HDD.out; omega)))
    have hrow7 := HJc.out.row
    rw [Hnn.out] at hrow7
    have Hrow7 := Lib.hid hrow7
    clear hrow7
    go_must (refine ev_append rfl rfl Tryd.underlying23 info25b rfl (by decide) (base := base) rfl Hrow7.out rfl (news := [.int .i64 0, .bool false, .int .i64 0, .string ByteArray.empty, .slice none 0 0, .slice none 0 0]) rfl (fun _ => ⟨_, rfl, World.news_of_block Hbz.out⟩) (by simp [Value.oneCell']) (by omega) (by decide) (by have := HKr.out.size; have := HDD.out; omega) ?_; intro v6 w6 hown6 hk6 hr6 hf6; obtain ⟨gr, cap, rfl⟩ := hf6 (by decide))
    have Hr6 := Lib.hid hr6
    (try simp only [PU])
    have b2 := HKr.out.blk H2c.out N.out.1
    have b3 := HKr.out.blk H3c.out N.out.2.1
    have b6 := HKr.out.blk H5b.out N.out.2.2
    have bS := HKr.out.blk HSc.out NS.out.1
    have bm := HKr.out.blk HMc.out.1 NS.out.2
    have bk := HOS.out.keep HKr.out (fun k hk' e => by have h1 := (HOS.out.lt k hk').1; have := HDD.out; omega)
    have H2k := Lib.hid (hk6.blk b2 (row_ne Hrow7.out b2 (by decide)))
    have H3k := Lib.hid (hk6.blk b3 (row_ne Hrow7.out b3 (by decide)))
    have HSk := Lib.hid (hk6.blk bS (row_ne Hrow7.out bS (by decide)))
    have HMk := Lib.hid (hk6.blk bm (row_neMap Hrow7.out bm))
    have HOk := Lib.hid (bk.keep hk6 (fun k hk' e => HJc.out.ne k e.symm (.inr (.inr hk'.symm))))
    have H6k := Lib.hid (hk6.blk b6 (fun e => HJc.out.ne g5 e.symm (.inl rfl)))
    have Hrk := Lib.hid (Hr1.out.keep hk6 (row_ne Hrow7.out Hr1.out.blk (by decide)))
    obtain ⟨cur, hcur⟩ : ∃ cur, w6.heap[gr]? = some (.cells cur 25 (0, 0)) ∧ n + 1 ≤ cap ∧ cur.size = cap * 6 ∧ base ≤ gr := by
     rcases hown6.2 with ⟨e, _⟩ | ⟨g', cap', cur, e, hb, hg', hc, hm, hs, ht⟩
     · cases e
     · injection e with e1 e2 e3
       injection e1 with e1
       injection e1 with e1
       subst e1; subst e3
       exact ⟨cur, hg', hc, hs, hb⟩
    have Hcf := Lib.hid hcur.2
    have Hcur := Lib.hid hcur.1
    have Hg6r := Lib.hid (row_notin (fun e => HJc.out.ne g5 e (.inl rfl)) (blk_lt H5b.out) HKr.out.size hr6)
    have Hrowk := Lib.hid hown6
    have HKo := Lib.hid (hk6.mono (M' := fun k => some k = (Value.slice vA n vc).ownBlock ∨ (k = g5 ∨ k = gm ∨ some k = (Value.slice (some ⟨gq, 0, none⟩) (x.1.length + 1) cq).ownBlock)) (fun _ _ e => .inl e))
    have HKall := Lib.hid ((HKM.out.trans (keepsMR HKr.out) (fun _ _ h => h)).trans hk6 (fun i hi e => .inr (row_lt HJ.out.row i e.symm).1))
    have HWc := Lib.hid HKr.out.size
    have hlt1 : (n : Int) < (n : Int) + 1 := by omega
    clear hown6 hk6 hr6 hf6 b2 b3 b6 bS bm bk hcur
    refine wpList_nil ⟨⟨(blk_cell H2k.out 0).trans rfl, (blk_cell H3k.out 0).trans rfl⟩, ?_⟩
    refine tq (some 39) ?_; (try simp only [PU])
    refine tq (some 40) ?_; (try simp only [PU])
    refine tree_b rfl rfl ?b1_13 ?nb1_13
    case' b1_13 =>
     have hfit : n * 6 + 6 ≤ cur.size := by have h1 := Hcf.out.1; have h2 := Hcf.out.2.1; omega
     go_must (refine ev_store (x := .agg #[.int .i64 jk, .bool jb, .int .i64 jn, .string jt, .slice kA' kl kc', .slice jA vl jc]) (vs := [.int .i64 jk, .bool jb, .int .i64 jn, .string jt, .slice kA' kl kc', .slice jA vl jc]) (off := n * 6) (cs' := List.toArray (cur.toList.take (n * 6) ++ ([Value.int .i64 jk, Value.bool jb, Value.int .i64 jn, Value.string jt, Value.slice kA' kl kc', Value.slice jA vl jc] : List Value) ++ cur.toList.drop (n * 6 + 6))) rfl rfl rfl rfl rfl rfl HI.out.1.1 HI.out.1.2 rfl Hcur.out hfit rfl ?_; intro w7 hb7 hk7)
     (try simp only [PU])
     have Hown9 := Lib.hid (RowJ.push HJc.out HV.out (fun b hb => ⟨by have := HDD.out; have := hb.1; omega, fun e => by have := HE.out b e; have := hb.1; omega, fun e => by have := (row_lt HJ.out.row b e.symm).2; have := hb.1; omega, hb.2⟩) (fun b e => Nat.lt_of_lt_of_le (HE.out b e) HWc.out) rfl (by rw [Hnn.out]; exact Hrowk.out) HKo.out Hr6.out (by rw [Hnn.out]) Hcur.out (by rw [Hnn.out]; exact hb7) hk7)
     have H2k := Lib.hid (hk7.blk H2k.out (blk_type H2k.out Hcur.out (by decide)))
     have H3k := Lib.hid (hk7.blk H3k.out (blk_type H3k.out Hcur.out (by decide)))
     have HSk := Lib.hid (hk7.blk HSk.out (blk_type HSk.out Hcur.out (by decide)))
     have HMk := Lib.hid (hk7.blk HMk.out (fun e => map_ne Hcur.out HMk.out e.symm))
     have HOk := Lib.hid (HOk.out.keep hk7 (fun k hk' e => HOk.out.ne Hcur.out (by decide) (by rw [hk', e])))
     have H6k := Lib.hid (hk7.blk H6k.out Hg6r.out)
     have Hrk := Lib.hid (Hrk.out.keep hk7 (blk_type Hrk.out.blk Hcur.out (by decide)))
     have HKall := Lib.hid (HKall.out.trans hk7 (fun i _ e => .inr (by rw [e]; exact Hcf.out.2.2)))
     clear hb7 hk7 hfit
     refine wpList_nil ⟨⟨(blk_cell H2k.out 0).trans rfl, (blk_cell H3k.out 0).trans rfl⟩, ?_⟩
     refine tree_e rfl rfl ?_
     go_must (refine ev_store (cs' := #[.int .i64 6, .bool false, .int .i64 0, .string ByteArray.empty, .slice (some ⟨gq, 0, none⟩) (x.1.length + 1) cq, .slice (some ⟨gr, 0, none⟩) (n + 1) cap]) rfl rfl rfl rfl rfl rfl HI.out.2.1 HI.out.2.2 rfl H6k.out (Nat.le_of_ble_eq_true rfl) rfl ?_; intro w8 hb8 hk8)
     (try simp only [PU])
     have Hb8 := Lib.hid hb8
     (try have Hown9 := Lib.hid (Hown9.out.keep hk8 (fun b _ e => .inr (.inl e))))
     (try have HKo := Lib.hid (HKo.out.trans hk8 (fun _ _ e => .inr (.inl e))))
     (try have Hrowk := Lib.hid (row_keep Hrowk.out hk8 (fun k hk e => Hg6r.out (by rw [← e]; exact (Option.some.inj hk).symm))))
     (try have Hcur := Lib.hid (hk8.blk Hcur.out (fun e => Hg6r.out e.symm)))
     have H2k := Lib.hid (hk8.blk H2k.out (blk_type H2k.out H6k.out (by decide)))
     have H3k := Lib.hid (hk8.blk H3k.out (blk_type H3k.out H6k.out (by decide)))
     have HSk := Lib.hid (hk8.blk HSk.out (blk_type HSk.out H6k.out (by decide)))
     have HMk := Lib.hid (hk8.blk HMk.out (fun e => map_ne H6k.out HMk.out e.symm))
     have HOk := Lib.hid (HOk.out.keep hk8 (fun k hk' e => HOk.out.ne H6k.out (by decide) (by rw [hk', e])))
     have Hrk := Lib.hid (Hrk.out.keep hk8 (fun e => N.out.2.2 e.symm))
     have HKall := Lib.hid (HKall.out.trans hk8 (fun i _ e => .inr (by rw [e]; exact HDD.out.2.2)))
     have H6k := Hb8
     clear hb8 hk8
     refine wpList_nil ⟨⟨(blk_cell H2k.out 0).trans rfl, (blk_cell H3k.out 0).trans rfl⟩, ?_⟩
     refine tree_nil ?_
    case' nb1_13 =>
     refine tree_e rfl rfl ?b1_14
     case' b1_14 =>
      go_must (refine ev_store (cs' := #[.int .i64 6, .bool false, .int .i64 0, .string ByteArray.empty, .slice (some ⟨gq, 0, none⟩) (x.1.length + 1) cq, .slice (some ⟨gr, 0, none⟩) (n + 1) cap]) rfl rfl rfl rfl rfl rfl HI.out.2.1 HI.out.2.2 rfl H6k.out (Nat.le_of_ble_eq_true rfl) rfl ?_; intro w8 hb8 hk8)
      (try simp only [PU])
      have Hb8 := Lib.hid hb8
      (try have Hown9 := Lib.hid (Hown9.out.keep hk8 (fun b _ e => .inr (.inl e))))
      (try have HKo := Lib.hid (HKo.out.trans hk8 (fun _ _ e => .inr (.inl e))))
      (try have Hrowk := Lib.hid (row_keep Hrowk.out hk8 (fun k hk e => Hg6r.out (by rw [← e]; exact (Option.some.inj hk).symm))))
      (try have Hcur := Lib.hid (hk8.blk Hcur.out (fun e => Hg6r.out e.symm)))
      have H2k := Lib.hid (hk8.blk H2k.out (blk_type H2k.out H6k.out (by decide)))
      have H3k := Lib.hid (hk8.blk H3k.out (blk_type H3k.out H6k.out (by decide)))
      have HSk := Lib.hid (hk8.blk HSk.out (blk_type HSk.out H6k.out (by decide)))
      have HMk := Lib.hid (hk8.blk HMk.out (fun e => map_ne H6k.out HMk.out e.symm))
      have HOk := Lib.hid (HOk.out.keep hk8 (fun k hk' e => HOk.out.ne H6k.out (by decide) (by rw [hk', e])))
      have Hrk := Lib.hid (Hrk.out.keep hk8 (fun e => N.out.2.2 e.symm))
      have HKall := Lib.hid (HKall.out.trans hk8 (fun i _ e => .inr (by rw [e]; exact HDD.out.2.2)))
      have H6k := Hb8
      clear hb8 hk8
      refine wpList_nil ⟨⟨(blk_cell H2k.out 0).trans rfl, (blk_cell H3k.out 0).trans rfl⟩, ?_⟩
      refine tree_e rfl rfl ?_
      have hfit : n * 6 + 6 ≤ cur.size := by have h1 := Hcf.out.1; have h2 := Hcf.out.2.1; omega
      go_must (refine ev_store (x := .agg #[.int .i64 jk, .bool jb, .int .i64 jn, .string jt, .slice kA' kl kc', .slice jA vl jc]) (vs := [.int .i64 jk, .bool jb, .int .i64 jn, .string jt, .slice kA' kl kc', .slice jA vl jc]) (off := n * 6) (cs' := List.toArray (cur.toList.take (n * 6) ++ ([Value.int .i64 jk, Value.bool jb, Value.int .i64 jn, Value.string jt, Value.slice kA' kl kc', Value.slice jA vl jc] : List Value) ++ cur.toList.drop (n * 6 + 6))) rfl rfl rfl rfl rfl rfl HI.out.1.1 HI.out.1.2 rfl Hcur.out hfit rfl ?_; intro w7 hb7 hk7)
      (try simp only [PU])
      have Hown9 := Lib.hid (RowJ.push HJc.out HV.out (fun b hb => ⟨by have := HDD.out; have := hb.1; omega, fun e => by have := HE.out b e; have := hb.1; omega, fun e => by have := (row_lt HJ.out.row b e.symm).2; have := hb.1; omega, hb.2⟩) (fun b e => Nat.lt_of_lt_of_le (HE.out b e) HWc.out) rfl (by rw [Hnn.out]; exact Hrowk.out) HKo.out Hr6.out (by rw [Hnn.out]) Hcur.out (by rw [Hnn.out]; exact hb7) hk7)
      have H2k := Lib.hid (hk7.blk H2k.out (blk_type H2k.out Hcur.out (by decide)))
      have H3k := Lib.hid (hk7.blk H3k.out (blk_type H3k.out Hcur.out (by decide)))
      have HSk := Lib.hid (hk7.blk HSk.out (blk_type HSk.out Hcur.out (by decide)))
      have HMk := Lib.hid (hk7.blk HMk.out (fun e => map_ne Hcur.out HMk.out e.symm))
      have HOk := Lib.hid (HOk.out.keep hk7 (fun k hk' e => HOk.out.ne Hcur.out (by decide) (by rw [hk', e])))
      have H6k := Lib.hid (hk7.blk H6k.out Hg6r.out)
      have Hrk := Lib.hid (Hrk.out.keep hk7 (blk_type Hrk.out.blk Hcur.out (by decide)))
      have HKall := Lib.hid (HKall.out.trans hk7 (fun i _ e => .inr (by rw [e]; exact Hcf.out.2.2)))
      clear hb7 hk7 hfit
      refine wpList_nil ⟨⟨(blk_cell H2k.out 0).trans rfl, (blk_cell H3k.out 0).trans rfl⟩, ?_⟩
      refine tree_nil ?_
   case' nb1_18 =>
    refine tree_e rfl rfl ?b1_24
    case' b1_24 =>
     go_must (refine ev_slice (cs := #[.int .i64 0, .bool false, .int .i64 0, .string ByteArray.empty, .slice none 0 0, .slice none 0 0]) (t := 25) (n := 1) (c := 1) rfl (by first | (go_simp; done) | (go_simp; rfl)) ?_; intro gz wz hgz hlz hbz hkz)
     (try simp only [PU])
     have Hgz := Lib.hid (Nat.le_trans HKr.out.size hgz)
     have Hbz := Lib.hid hbz
     (try have Hr1 := Lib.hid (Hr1.out.keep hkz id))
     (try have HV := Lib.hid (HV.out.keep (X' := fun b => w12.heap.size ≤ b ∧ b < wz.heap.size) hkz (fun _ _ _ => id) (fun b hb h => ⟨h.1, Nat.lt_of_lt_of_le h.2 hkz.size⟩)))
     (try have Hr0 := Lib.hid (Rd.keep (M := Nob) Hr0.out hkz id))
     have HKr := Lib.hid (HKr.out.then hkz)
     clear hbz hkz hgz
     refine wpList_nil ⟨⟨HKr.out.cell c2 N.out.1, HKr.out.cell c3 N.out.2.1⟩, ?_⟩
     refine tree_e rfl rfl ?_
     have c6 := HKr.out.cell c5' N.out.2.2
     go_wp2_with fail
     clear c6
     (try refine ⟨⟨HKr.out.cell c2 N.out.1, HKr.out.cell c3 N.out.2.1⟩, ?_⟩)
     refine tq (some 36) ?_; (try simp only [PU])
     refine tree_e rfl rfl ?_
     have HJc := Lib.hid (HJ.out.keep HKr.out (fun b _ e => .inl (by have := HDD.out; omega)))
     have hrow7 := HJc.out.row
     rw [Hnn.out] at hrow7
     have Hrow7 := Lib.hid hrow7
     clear hrow7
     go_must (refine ev_append rfl rfl Tryd.underlying23 info25b rfl (by decide) (base := base) rfl Hrow7.out rfl (news := [.int .i64 0, .bool false, .int .i64 0, .string ByteArray.empty, .slice none 0 0, .slice none 0 0]) rfl (fun _ => ⟨_, rfl, World.news_of_block Hbz.out⟩) (by simp [Value.oneCell']) (by omega) (by decide) (by have := HKr.out.size; have := HDD.out; omega) ?_; intro v6 w6 hown6 hk6 hr6 hf6; obtain ⟨gr, cap, rfl⟩ := hf6 (by decide))
     have Hr6 := Lib.hid hr6
     (try simp only [PU])
     have b2 := HKr.out.blk H2c.out N.out.1
     have b3 := HKr.out.blk H3c.out N.out.2.1
     have b6 := HKr.out.blk H5b.out N.out.2.2
     have bS := HKr.out.blk HSc.out NS.out.1
     have bm := HKr.out.blk HMc.out.1 NS.out.2
     have bk := HOS.out.keep HKr.out (fun k hk' e => by have h1 := (HOS.out.lt k hk').1; have := HDD.out; omega)
     have H2k := Lib.hid (hk6.blk b2 (row_ne Hrow7.out b2 (by decide)))
     have H3k := Lib.hid (hk6.blk b3 (row_ne Hrow7.out b3 (by decide)))
     have HSk := Lib.hid (hk6.blk bS (row_ne Hrow7.out bS (by decide)))
     have HMk := Lib.hid (hk6.blk bm (row_neMap Hrow7.out bm))
     have HOk := Lib.hid (bk.keep hk6 (fun k hk' e => HJc.out.ne k e.symm (.inr (.inr hk'.symm))))
     have H6k := Lib.hid (hk6.blk b6 (fun e => HJc.out.ne g5 e.symm (.inl rfl)))
     have Hrk := Lib.hid (Hr1.out.keep hk6 (row_ne Hrow7.out Hr1.out.blk (by decide)))
     obtain ⟨cur, hcur⟩ : ∃ cur, w6.heap[gr]? = some (.cells cur 25 (0, 0)) ∧ n + 1 ≤ cap ∧ cur.size = cap * 6 ∧ base ≤ gr := by
      rcases hown6.2 with ⟨e, _⟩ | ⟨g', cap', cur, e, hb, hg', hc, hm, hs, ht⟩
      · cases e
      · injection e with e1 e2 e3
        injection e1 with e1
        injection e1 with e1
        subst e1; subst e3
        exact ⟨cur, hg', hc, hs, hb⟩
     have Hcf := Lib.hid hcur.2
     have Hcur := Lib.hid hcur.1
     have Hg6r := Lib.hid (row_notin (fun e => HJc.out.ne g5 e (.inl rfl)) (blk_lt H5b.out) HKr.out.size hr6)
     have Hrowk := Lib.hid hown6
     have HKo := Lib.hid (hk6.mono (M' := fun k => some k = (Value.slice vA n vc).ownBlock ∨ (k = g5 ∨ k = gm ∨ some k = (Value.slice (some ⟨gq, 0, none⟩) (x.1.length + 1) cq).ownBlock)) (fun _ _ e => .inl e))
     have HKall := Lib.hid ((HKM.out.trans (keepsMR HKr.out) (fun _ _ h => h)).trans hk6 (fun i hi e => .inr (row_lt HJ.out.row i e.symm).1))
     have HWc := Lib.hid HKr.out.size
     have hlt1 : (n : Int) < (n : Int) + 1 := by omega
     clear hown6 hk6 hr6 hf6 b2 b3 b6 bS bm bk hcur
     refine wpList_nil ⟨⟨(blk_cell H2k.out 0).trans rfl, (blk_cell H3k.out 0).trans rfl⟩, ?_⟩
     refine tq (some 39) ?_; (try simp only [PU])
     refine tq (some 40) ?_; (try simp only [PU])
     refine tree_b rfl rfl ?b1_19 ?nb1_19
     case' b1_19 =>
      have hfit : n * 6 + 6 ≤ cur.size := by have h1 := Hcf.out.1; have h2 := Hcf.out.2.1; omega
      go_must (refine ev_store (x := .agg #[.int .i64 jk, .bool jb, .int .i64 jn, .string jt, .slice kA' kl kc', .slice jA vl jc]) (vs := [.int .i64 jk, .bool jb, .int .i64 jn, .string jt, .slice kA' kl kc', .slice jA vl jc]) (off := n * 6) (cs' := List.toArray (cur.toList.take (n * 6) ++ ([Value.int .i64 jk, Value.bool jb, Value.int .i64 jn, Value.string jt, Value.slice kA' kl kc', Value.slice jA vl jc] : List Value) ++ cur.toList.drop (n * 6 + 6))) rfl rfl rfl rfl rfl rfl HI.out.1.1 HI.out.1.2 rfl Hcur.out hfit rfl ?_; intro w7 hb7 hk7)
      (try simp only [PU])
      have Hown9 := Lib.hid (RowJ.push HJc.out HV.out (fun b hb => ⟨by have := HDD.out; have := hb.1; omega, fun e => by have := HE.out b e; have := hb.1; omega, fun e => by have := (row_lt HJ.out.row b e.symm).2; have := hb.1; omega, hb.2⟩) (fun b e => Nat.lt_of_lt_of_le (HE.out b e) HWc.out) rfl (by rw [Hnn.out]; exact Hrowk.out) HKo.out Hr6.out (by rw [Hnn.out]) Hcur.out (by rw [Hnn.out]; exact hb7) hk7)
      have H2k := Lib.hid (hk7.blk H2k.out (blk_type H2k.out Hcur.out (by decide)))
      have H3k := Lib.hid (hk7.blk H3k.out (blk_type H3k.out Hcur.out (by decide)))
      have HSk := Lib.hid (hk7.blk HSk.out (blk_type HSk.out Hcur.out (by decide)))
      have HMk := Lib.hid (hk7.blk HMk.out (fun e => map_ne Hcur.out HMk.out e.symm))
      have HOk := Lib.hid (HOk.out.keep hk7 (fun k hk' e => HOk.out.ne Hcur.out (by decide) (by rw [hk', e])))
      have H6k := Lib.hid (hk7.blk H6k.out Hg6r.out)
      have Hrk := Lib.hid (Hrk.out.keep hk7 (blk_type Hrk.out.blk Hcur.out (by decide)))
      have HKall := Lib.hid (HKall.out.trans hk7 (fun i _ e => .inr (by rw [e]; exact Hcf.out.2.2)))
      clear hb7 hk7 hfit
      refine wpList_nil ⟨⟨(blk_cell H2k.out 0).trans rfl, (blk_cell H3k.out 0).trans rfl⟩, ?_⟩
      refine tree_e rfl rfl ?_
      go_must (refine ev_store (cs' := #[.int .i64 6, .bool false, .int .i64 0, .string ByteArray.empty, .slice (some ⟨gq, 0, none⟩) (x.1.length + 1) cq, .slice (some ⟨gr, 0, none⟩) (n + 1) cap]) rfl rfl rfl rfl rfl rfl HI.out.2.1 HI.out.2.2 rfl H6k.out (Nat.le_of_ble_eq_true rfl) rfl ?_; intro w8 hb8 hk8)
      (try simp only [PU])
      have Hb8 := Lib.hid hb8
      (try have Hown9 := Lib.hid (Hown9.out.keep hk8 (fun b _ e => .inr (.inl e))))
      (try have HKo := Lib.hid (HKo.out.trans hk8 (fun _ _ e => .inr (.inl e))))
      (try have Hrowk := Lib.hid (row_keep Hrowk.out hk8 (fun k hk e => Hg6r.out (by rw [← e]; exact (Option.some.inj hk).symm))))
      (try have Hcur := Lib.hid (hk8.blk Hcur.out (fun e => Hg6r.out e.symm)))
      have H2k := Lib.hid (hk8.blk H2k.out (blk_type H2k.out H6k.out (by decide)))
      have H3k := Lib.hid (hk8.blk H3k.out (blk_type H3k.out H6k.out (by decide)))
      have HSk := Lib.hid (hk8.blk HSk.out (blk_type HSk.out H6k.out (by decide)))
      have HMk := Lib.hid (hk8.blk HMk.out (fun e => map_ne H6k.out HMk.out e.symm))
      have HOk := Lib.hid (HOk.out.keep hk8 (fun k hk' e => HOk.out.ne H6k.out (by decide) (by rw [hk', e])))
      have Hrk := Lib.hid (Hrk.out.keep hk8 (fun e => N.out.2.2 e.symm))
      have HKall := Lib.hid (HKall.out.trans hk8 (fun i _ e => .inr (by rw [e]; exact HDD.out.2.2)))
      have H6k := Hb8
      clear hb8 hk8
      refine wpList_nil ⟨⟨(blk_cell H2k.out 0).trans rfl, (blk_cell H3k.out 0).trans rfl⟩, ?_⟩
      refine tree_nil ?_
     case' nb1_19 =>
      refine tree_e rfl rfl ?b1_20
      case' b1_20 =>
       go_must (refine ev_store (cs' := #[.int .i64 6, .bool false, .int .i64 0, .string ByteArray.empty, .slice (some ⟨gq, 0, none⟩) (x.1.length + 1) cq, .slice (some ⟨gr, 0, none⟩) (n + 1) cap]) rfl rfl rfl rfl rfl rfl HI.out.2.1 HI.out.2.2 rfl H6k.out (Nat.le_of_ble_eq_true rfl) rfl ?_; intro w8 hb8 hk8)
       (try simp only [PU])
       have Hb8 := Lib.hid hb8
       (try have Hown9 := Lib.hid (Hown9.out.keep hk8 (fun b _ e => .inr (.inl e))))
       (try have HKo := Lib.hid (HKo.out.trans hk8 (fun _ _ e => .inr (.inl e))))
       (try have Hrowk := Lib.hid (row_keep Hrowk.out hk8 (fun k hk e => Hg6r.out (by rw [← e]; exact (Option.some.inj hk).symm))))
       (try have Hcur := Lib.hid (hk8.blk Hcur.out (fun e => Hg6r.out e.symm)))
       have H2k := Lib.hid (hk8.blk H2k.out (blk_type H2k.out H6k.out (by decide)))
       have H3k := Lib.hid (hk8.blk H3k.out (blk_type H3k.out H6k.out (by decide)))
       have HSk := Lib.hid (hk8.blk HSk.out (blk_type HSk.out H6k.out (by decide)))
       have HMk := Lib.hid (hk8.blk HMk.out (fun e => map_ne H6k.out HMk.out e.symm))
       have HOk := Lib.hid (HOk.out.keep hk8 (fun k hk' e => HOk.out.ne H6k.out (by decide) (by rw [hk', e])))
       have Hrk := Lib.hid (Hrk.out.keep hk8 (fun e => N.out.2.2 e.symm))
       have HKall := Lib.hid (HKall.out.trans hk8 (fun i _ e => .inr (by rw [e]; exact HDD.out.2.2)))
       have H6k := Hb8
       clear hb8 hk8
       refine wpList_nil ⟨⟨(blk_cell H2k.out 0).trans rfl, (blk_cell H3k.out 0).trans rfl⟩, ?_⟩
       refine tree_e rfl rfl ?_
       have hfit : n * 6 + 6 ≤ cur.size := by have h1 := Hcf.out.1; have h2 := Hcf.out.2.1; omega
       go_must (refine ev_store (x := .agg #[.int .i64 jk, .bool jb, .int .i64 jn, .string jt, .slice kA' kl kc', .slice jA vl jc]) (vs := [.int .i64 jk, .bool jb, .int .i64 jn, .string jt, .slice kA' kl kc', .slice jA vl jc]) (off := n * 6) (cs' := List.toArray (cur.toList.take (n * 6) ++ ([Value.int .i64 jk, Value.bool jb, Value.int .i64 jn, Value.string jt, Value.slice kA' kl kc', Value.slice jA vl jc] : List Value) ++ cur.toList.drop (n * 6 + 6))) rfl rfl rfl rfl rfl rfl HI.out.1.1 HI.out.1.2 rfl Hcur.out hfit rfl ?_; intro w7 hb7 hk7)
       (try simp only [PU])
       have Hown9 := Lib.hid (RowJ.push HJc.out HV.out (fun b hb => ⟨by have := HDD.out; have := hb.1; omega, fun e => by have := HE.out b e; have := hb.1; omega, fun e => by have := (row_lt HJ.out.row b e.symm).2; have := hb.1; omega, hb.2⟩) (fun b e => Nat.lt_of_lt_of_le (HE.out b e) HWc.out) rfl (by rw [Hnn.out]; exact Hrowk.out) HKo.out Hr6.out (by rw [Hnn.out]) Hcur.out (by rw [Hnn.out]; exact hb7) hk7)
       have H2k := Lib.hid (hk7.blk H2k.out (blk_type H2k.out Hcur.out (by decide)))
       have H3k := Lib.hid (hk7.blk H3k.out (blk_type H3k.out Hcur.out (by decide)))
       have HSk := Lib.hid (hk7.blk HSk.out (blk_type HSk.out Hcur.out (by decide)))
       have HMk := Lib.hid (hk7.blk HMk.out (fun e => map_ne Hcur.out HMk.out e.symm))
       have HOk := Lib.hid (HOk.out.keep hk7 (fun k hk' e => HOk.out.ne Hcur.out (by decide) (by rw [hk', e])))
       have H6k := Lib.hid (hk7.blk H6k.out Hg6r.out)
       have Hrk := Lib.hid (Hrk.out.keep hk7 (blk_type Hrk.out.blk Hcur.out (by decide)))
       have HKall := Lib.hid (HKall.out.trans hk7 (fun i _ e => .inr (by rw [e]; exact Hcf.out.2.2)))
       clear hb7 hk7 hfit
       refine wpList_nil ⟨⟨(blk_cell H2k.out 0).trans rfl, (blk_cell H3k.out 0).trans rfl⟩, ?_⟩
       refine tree_nil ?_
  case' nb1_25 =>
   refine tree_e rfl rfl ?b1_38
   case' b1_38 =>
    go_must (refine ev_slice (cs := #[.int .i64 0, .bool false, .int .i64 0, .string ByteArray.empty, .slice none 0 0, .slice none 0 0]) (t := 25) (n := 1) (c := 1) rfl (by first | (go_simp; done) | (go_simp; rfl)) ?_; intro gz wz hgz hlz hbz hkz)
    (try simp only [PU])
    have Hgz := Lib.hid (Nat.le_trans HKr.out.size hgz)
    have Hbz := Lib.hid hbz
    (try have Hr1 := Lib.hid (Hr1.out.keep hkz id))
    (try have HV := Lib.hid (HV.out.keep (X' := fun b => w12.heap.size ≤ b ∧ b < wz.heap.size) hkz (fun _ _ _ => id) (fun b hb h => ⟨h.1, Nat.lt_of_lt_of_le h.2 hkz.size⟩)))
    (try have Hr0 := Lib.hid (Rd.keep (M := Nob) Hr0.out hkz id))
    have HKr := Lib.hid (HKr.out.then hkz)
    clear hbz hkz hgz
    refine wpList_nil ⟨⟨HKr.out.cell c2 N.out.1, HKr.out.cell c3 N.out.2.1⟩, ?_⟩
    refine tree_b rfl rfl ?b1_31 ?nb1_31
    case' b1_31 =>
     have c6 := HKr.out.cell c5' N.out.2.2
     go_wp2_with fail
     clear c6
     (try refine ⟨⟨HKr.out.cell c2 N.out.1, HKr.out.cell c3 N.out.2.1⟩, ?_⟩)
     refine tq (some 36) ?_; (try simp only [PU])
     refine tree_e rfl rfl ?_
     go_wp2_with (go_at_call 80; go_must (refine (Hin.out _ Hr0.out).mono ?_; rintro e w1 ⟨⟨v1, rfl, hv1⟩, hr1, hk1⟩; obtain ⟨jk, jb, jn, jt, jks, jvs, jkv, jvv, hjj, rfl, hjk, hjv⟩ := hv1.open; obtain ⟨kA', kc', rfl, -, -⟩ := hjk; obtain ⟨jA, jc, ju, rfl, -, -, -⟩ := hjv); have hw0 := HKr.out.size; have HV := Lib.hid (hv1.keep (X' := fun b => w12.heap.size ≤ b ∧ b < w1.heap.size) (Keeps.refl Nob w1) (fun _ _ _ => id) (fun b hb hx => ⟨Nat.le_trans hw0 hx, hb⟩)); have Hr1 := Lib.hid hr1; have Hk1 := Lib.hid hk1; have HKr := Lib.hid (HKr.out.trans hk1 (fun _ _ h => h)); clear hv1 hr1 hjj hw0 hk1; generalize jks.length = kl at *; generalize jvs.length = vl at *; (try simp only [PU]))
     (try have Hbz := Lib.hid (Hk1.out.blk Hbz.out (fun e : gz = r => by have h1 : w12.heap.size ≤ gz := Hgz.out; have h2 := HDD.out; omega)))
     refine ⟨⟨HKr.out.cell c2 N.out.1, HKr.out.cell c3 N.out.2.1⟩, ?_⟩
     refine tree_e rfl rfl ?_
     have HJc := Lib.hid (HJ.out.keep HKr.out (fun b _ e => .inl (by have := HDD.out; omega)))
     have hrow7 := HJc.out.row
     rw [Hnn.out] at hrow7
     have Hrow7 := Lib.hid hrow7
     clear hrow7
     go_must (refine ev_append rfl rfl Tryd.underlying23 info25b rfl (by decide) (base := base) rfl Hrow7.out rfl (news := [.int .i64 0, .bool false, .int .i64 0, .string ByteArray.empty, .slice none 0 0, .slice none 0 0]) rfl (fun _ => ⟨_, rfl, World.news_of_block Hbz.out⟩) (by simp [Value.oneCell']) (by omega) (by decide) (by have := HKr.out.size; have := HDD.out; omega) ?_; intro v6 w6 hown6 hk6 hr6 hf6; obtain ⟨gr, cap, rfl⟩ := hf6 (by decide))
     have Hr6 := Lib.hid hr6
     (try simp only [PU])
     have b2 := HKr.out.blk H2c.out N.out.1
     have b3 := HKr.out.blk H3c.out N.out.2.1
     have b6 := HKr.out.blk H5b.out N.out.2.2
     have bS := HKr.out.blk HSc.out NS.out.1
     have bm := HKr.out.blk HMc.out.1 NS.out.2
     have bk := HOS.out.keep HKr.out (fun k hk' e => by have h1 := (HOS.out.lt k hk').1; have := HDD.out; omega)
     have H2k := Lib.hid (hk6.blk b2 (row_ne Hrow7.out b2 (by decide)))
     have H3k := Lib.hid (hk6.blk b3 (row_ne Hrow7.out b3 (by decide)))
     have HSk := Lib.hid (hk6.blk bS (row_ne Hrow7.out bS (by decide)))
     have HMk := Lib.hid (hk6.blk bm (row_neMap Hrow7.out bm))
     have HOk := Lib.hid (bk.keep hk6 (fun k hk' e => HJc.out.ne k e.symm (.inr (.inr hk'.symm))))
     have H6k := Lib.hid (hk6.blk b6 (fun e => HJc.out.ne g5 e.symm (.inl rfl)))
     have Hrk := Lib.hid (Hr1.out.keep hk6 (row_ne Hrow7.out Hr1.out.blk (by decide)))
     obtain ⟨cur, hcur⟩ : ∃ cur, w6.heap[gr]? = some (.cells cur 25 (0, 0)) ∧ n + 1 ≤ cap ∧ cur.size = cap * 6 ∧ base ≤ gr := by
      rcases hown6.2 with ⟨e, _⟩ | ⟨g', cap', cur, e, hb, hg', hc, hm, hs, ht⟩
      · cases e
      · injection e with e1 e2 e3
        injection e1 with e1
        injection e1 with e1
        subst e1; subst e3
        exact ⟨cur, hg', hc, hs, hb⟩
     have Hcf := Lib.hid hcur.2
     have Hcur := Lib.hid hcur.1
     have Hg6r := Lib.hid (row_notin (fun e => HJc.out.ne g5 e (.inl rfl)) (blk_lt H5b.out) HKr.out.size hr6)
     have Hrowk := Lib.hid hown6
     have HKo := Lib.hid (hk6.mono (M' := fun k => some k = (Value.slice vA n vc).ownBlock ∨ (k = g5 ∨ k = gm ∨ some k = (Value.slice (some ⟨gq, 0, none⟩) (x.1.length + 1) cq).ownBlock)) (fun _ _ e => .inl e))
     have HKall := Lib.hid ((HKM.out.trans (keepsMR HKr.out) (fun _ _ h => h)).trans hk6 (fun i hi e => .inr (row_lt HJ.out.row i e.symm).1))
     have HWc := Lib.hid HKr.out.size
     have hlt1 : (n : Int) < (n : Int) + 1 := by omega
     clear hown6 hk6 hr6 hf6 b2 b3 b6 bS bm bk hcur
     refine wpList_nil ⟨⟨(blk_cell H2k.out 0).trans rfl, (blk_cell H3k.out 0).trans rfl⟩, ?_⟩
     refine tq (some 39) ?_; (try simp only [PU])
     refine tq (some 40) ?_; (try simp only [PU])
     refine tree_b rfl rfl ?b1_26 ?nb1_26
     case' b1_26 =>
      have hfit : n * 6 + 6 ≤ cur.size := by have h1 := Hcf.out.1; have h2 := Hcf.out.2.1; omega
      go_must (refine ev_store (x := .agg #[.int .i64 jk, .bool jb, .int .i64 jn, .string jt, .slice kA' kl kc', .slice jA vl jc]) (vs := [.int .i64 jk, .bool jb, .int .i64 jn, .string jt, .slice kA' kl kc', .slice jA vl jc]) (off := n * 6) (cs' := List.toArray (cur.toList.take (n * 6) ++ ([Value.int .i64 jk, Value.bool jb, Value.int .i64 jn, Value.string jt, Value.slice kA' kl kc', Value.slice jA vl jc] : List Value) ++ cur.toList.drop (n * 6 + 6))) rfl rfl rfl rfl rfl rfl HI.out.1.1 HI.out.1.2 rfl Hcur.out hfit rfl ?_; intro w7 hb7 hk7)
      (try simp only [PU])
      have Hown9 := Lib.hid (RowJ.push HJc.out HV.out (fun b hb => ⟨by have := HDD.out; have := hb.1; omega, fun e => by have := HE.out b e; have := hb.1; omega, fun e => by have := (row_lt HJ.out.row b e.symm).2; have := hb.1; omega, hb.2⟩) (fun b e => Nat.lt_of_lt_of_le (HE.out b e) HWc.out) rfl (by rw [Hnn.out]; exact Hrowk.out) HKo.out Hr6.out (by rw [Hnn.out]) Hcur.out (by rw [Hnn.out]; exact hb7) hk7)
      have H2k := Lib.hid (hk7.blk H2k.out (blk_type H2k.out Hcur.out (by decide)))
      have H3k := Lib.hid (hk7.blk H3k.out (blk_type H3k.out Hcur.out (by decide)))
      have HSk := Lib.hid (hk7.blk HSk.out (blk_type HSk.out Hcur.out (by decide)))
      have HMk := Lib.hid (hk7.blk HMk.out (fun e => map_ne Hcur.out HMk.out e.symm))
      have HOk := Lib.hid (HOk.out.keep hk7 (fun k hk' e => HOk.out.ne Hcur.out (by decide) (by rw [hk', e])))
      have H6k := Lib.hid (hk7.blk H6k.out Hg6r.out)
      have Hrk := Lib.hid (Hrk.out.keep hk7 (blk_type Hrk.out.blk Hcur.out (by decide)))
      have HKall := Lib.hid (HKall.out.trans hk7 (fun i _ e => .inr (by rw [e]; exact Hcf.out.2.2)))
      clear hb7 hk7 hfit
      refine wpList_nil ⟨⟨(blk_cell H2k.out 0).trans rfl, (blk_cell H3k.out 0).trans rfl⟩, ?_⟩
      refine tree_e rfl rfl ?_
      go_must (refine ev_store (cs' := #[.int .i64 6, .bool false, .int .i64 0, .string ByteArray.empty, .slice (some ⟨gq, 0, none⟩) (x.1.length + 1) cq, .slice (some ⟨gr, 0, none⟩) (n + 1) cap]) rfl rfl rfl rfl rfl rfl HI.out.2.1 HI.out.2.2 rfl H6k.out (Nat.le_of_ble_eq_true rfl) rfl ?_; intro w8 hb8 hk8)
      (try simp only [PU])
      have Hb8 := Lib.hid hb8
      (try have Hown9 := Lib.hid (Hown9.out.keep hk8 (fun b _ e => .inr (.inl e))))
      (try have HKo := Lib.hid (HKo.out.trans hk8 (fun _ _ e => .inr (.inl e))))
      (try have Hrowk := Lib.hid (row_keep Hrowk.out hk8 (fun k hk e => Hg6r.out (by rw [← e]; exact (Option.some.inj hk).symm))))
      (try have Hcur := Lib.hid (hk8.blk Hcur.out (fun e => Hg6r.out e.symm)))
      have H2k := Lib.hid (hk8.blk H2k.out (blk_type H2k.out H6k.out (by decide)))
      have H3k := Lib.hid (hk8.blk H3k.out (blk_type H3k.out H6k.out (by decide)))
      have HSk := Lib.hid (hk8.blk HSk.out (blk_type HSk.out H6k.out (by decide)))
      have HMk := Lib.hid (hk8.blk HMk.out (fun e => map_ne H6k.out HMk.out e.symm))
      have HOk := Lib.hid (HOk.out.keep hk8 (fun k hk' e => HOk.out.ne H6k.out (by decide) (by rw [hk', e])))
      have Hrk := Lib.hid (Hrk.out.keep hk8 (fun e => N.out.2.2 e.symm))
      have HKall := Lib.hid (HKall.out.trans hk8 (fun i _ e => .inr (by rw [e]; exact HDD.out.2.2)))
      have H6k := Hb8
      clear hb8 hk8
      refine wpList_nil ⟨⟨(blk_cell H2k.out 0).trans rfl, (blk_cell H3k.out 0).trans rfl⟩, ?_⟩
      refine tree_nil ?_
     case' nb1_26 =>
      refine tree_e rfl rfl ?b1_27
      case' b1_27 =>
       go_must (refine ev_store (cs' := #[.int .i64 6, .bool false, .int .i64 0, .string ByteArray.empty, .slice (some ⟨gq, 0, none⟩) (x.1.length + 1) cq, .slice (some ⟨gr, 0, none⟩) (n + 1) cap]) rfl rfl rfl rfl rfl rfl HI.out.2.1 HI.out.2.2 rfl H6k.out (Nat.le_of_ble_eq_true rfl) rfl ?_; intro w8 hb8 hk8)
       (try simp only [PU])
       have Hb8 := Lib.hid hb8
       (try have Hown9 := Lib.hid (Hown9.out.keep hk8 (fun b _ e => .inr (.inl e))))
       (try have HKo := Lib.hid (HKo.out.trans hk8 (fun _ _ e => .inr (.inl e))))
       (try have Hrowk := Lib.hid (row_keep Hrowk.out hk8 (fun k hk e => Hg6r.out (by rw [← e]; exact (Option.some.inj hk).symm))))
       (try have Hcur := Lib.hid (hk8.blk Hcur.out (fun e => Hg6r.out e.symm)))
       have H2k := Lib.hid (hk8.blk H2k.out (blk_type H2k.out H6k.out (by decide)))
       have H3k := Lib.hid (hk8.blk H3k.out (blk_type H3k.out H6k.out (by decide)))
       have HSk := Lib.hid (hk8.blk HSk.out (blk_type HSk.out H6k.out (by decide)))
       have HMk := Lib.hid (hk8.blk HMk.out (fun e => map_ne H6k.out HMk.out e.symm))
       have HOk := Lib.hid (HOk.out.keep hk8 (fun k hk' e => HOk.out.ne H6k.out (by decide) (by rw [hk', e])))
       have Hrk := Lib.hid (Hrk.out.keep hk8 (fun e => N.out.2.2 e.symm))
       have HKall := Lib.hid (HKall.out.trans hk8 (fun i _ e => .inr (by rw [e]; exact HDD.out.2.2)))
       have H6k := Hb8
       clear hb8 hk8
       refine wpList_nil ⟨⟨(blk_cell H2k.out 0).trans rfl, (blk_cell H3k.out 0).trans rfl⟩, ?_⟩
       refine tree_e rfl rfl ?_
       have hfit : n * 6 + 6 ≤ cur.size := by have h1 := Hcf.out.1; have h2 := Hcf.out.2.1; omega
       go_must (refine ev_store (x := .agg #[.int .i64 jk, .bool jb, .int .i64 jn, .string jt, .slice kA' kl kc', .slice jA vl jc]) (vs := [.int .i64 jk, .bool jb, .int .i64 jn, .string jt, .slice kA' kl kc', .slice jA vl jc]) (off := n * 6) (cs' := List.toArray (cur.toList.take (n * 6) ++ ([Value.int .i64 jk, Value.bool jb, Value.int .i64 jn, Value.string jt, Value.slice kA' kl kc', Value.slice jA vl jc] : List Value) ++ cur.toList.drop (n * 6 + 6))) rfl rfl rfl rfl rfl rfl HI.out.1.1 HI.out.1.2 rfl Hcur.out hfit rfl ?_; intro w7 hb7 hk7)
       (try simp only [PU])
       have Hown9 := Lib.hid (RowJ.push HJc.out HV.out (fun b hb => ⟨by have := HDD.out; have := hb.1; omega, fun e => by have := HE.out b e; have := hb.1; omega, fun e => by have := (row_lt HJ.out.row b e.symm).2; have := hb.1; omega, hb.2⟩) (fun b e => Nat.lt_of_lt_of_le (HE.out b e) HWc.out) rfl (by rw [Hnn.out]; exact Hrowk.out) HKo.out Hr6.out (by rw [Hnn.out]) Hcur.out (by rw [Hnn.out]; exact hb7) hk7)
       have H2k := Lib.hid (hk7.blk H2k.out (blk_type H2k.out Hcur.out (by decide)))
       have H3k := Lib.hid (hk7.blk H3k.out (blk_type H3k.out Hcur.out (by decide)))
       have HSk := Lib.hid (hk7.blk HSk.out (blk_type HSk.out Hcur.out (by decide)))
       have HMk := Lib.hid (hk7.blk HMk.out (fun e => map_ne Hcur.out HMk.out e.symm))
       have HOk := Lib.hid (HOk.out.keep hk7 (fun k hk' e => HOk.out.ne Hcur.out (by decide) (by rw [hk', e])))
       have H6k := Lib.hid (hk7.blk H6k.out Hg6r.out)
       have Hrk := Lib.hid (Hrk.out.keep hk7 (blk_type Hrk.out.blk Hcur.out (by decide)))
       have HKall := Lib.hid (HKall.out.trans hk7 (fun i _ e => .inr (by rw [e]; exact Hcf.out.2.2)))
       clear hb7 hk7 hfit
       refine wpList_nil ⟨⟨(blk_cell H2k.out 0).trans rfl, (blk_cell H3k.out 0).trans rfl⟩, ?_⟩
       refine tree_nil ?_
    case' nb1_31 =>
     refine tree_e rfl rfl ?b1_37
     case' b1_37 =>
      go_wp2_with (go_at_call 80; go_must (refine (Hin.out _ Hr0.out).mono ?_; rintro e w1 ⟨⟨v1, rfl, hv1⟩, hr1, hk1⟩; obtain ⟨jk, jb, jn, jt, jks, jvs, jkv, jvv, hjj, rfl, hjk, hjv⟩ := hv1.open; obtain ⟨kA', kc', rfl, -, -⟩ := hjk; obtain ⟨jA, jc, ju, rfl, -, -, -⟩ := hjv); have hw0 := HKr.out.size; have HV := Lib.hid (hv1.keep (X' := fun b => w12.heap.size ≤ b ∧ b < w1.heap.size) (Keeps.refl Nob w1) (fun _ _ _ => id) (fun b hb hx => ⟨Nat.le_trans hw0 hx, hb⟩)); have Hr1 := Lib.hid hr1; have Hk1 := Lib.hid hk1; have HKr := Lib.hid (HKr.out.trans hk1 (fun _ _ h => h)); clear hv1 hr1 hjj hw0 hk1; generalize jks.length = kl at *; generalize jvs.length = vl at *; (try simp only [PU]))
      (try have Hbz := Lib.hid (Hk1.out.blk Hbz.out (fun e : gz = r => by have h1 : w12.heap.size ≤ gz := Hgz.out; have h2 := HDD.out; omega)))
      refine ⟨⟨HKr.out.cell c2 N.out.1, HKr.out.cell c3 N.out.2.1⟩, ?_⟩
      refine tree_e rfl rfl ?_
      have c6 := HKr.out.cell c5' N.out.2.2
      go_wp2_with fail
      clear c6
      (try refine ⟨⟨HKr.out.cell c2 N.out.1, HKr.out.cell c3 N.out.2.1⟩, ?_⟩)
      refine tq (some 36) ?_; (try simp only [PU])
      refine tree_e rfl rfl ?_
      have HJc := Lib.hid (HJ.out.keep HKr.out (fun b _ e => .inl (by have := HDD.out; omega)))
      have hrow7 := HJc.out.row
      rw [Hnn.out] at hrow7
      have Hrow7 := Lib.hid hrow7
      clear hrow7
      go_must (refine ev_append rfl rfl Tryd.underlying23 info25b rfl (by decide) (base := base) rfl Hrow7.out rfl (news := [.int .i64 0, .bool false, .int .i64 0, .string ByteArray.empty, .slice none 0 0, .slice none 0 0]) rfl (fun _ => ⟨_, rfl, World.news_of_block Hbz.out⟩) (by simp [Value.oneCell']) (by omega) (by decide) (by have := HKr.out.size; have := HDD.out; omega) ?_; intro v6 w6 hown6 hk6 hr6 hf6; obtain ⟨gr, cap, rfl⟩ := hf6 (by decide))
      have Hr6 := Lib.hid hr6
      (try simp only [PU])
      have b2 := HKr.out.blk H2c.out N.out.1
      have b3 := HKr.out.blk H3c.out N.out.2.1
      have b6 := HKr.out.blk H5b.out N.out.2.2
      have bS := HKr.out.blk HSc.out NS.out.1
      have bm := HKr.out.blk HMc.out.1 NS.out.2
      have bk := HOS.out.keep HKr.out (fun k hk' e => by have h1 := (HOS.out.lt k hk').1; have := HDD.out; omega)
      have H2k := Lib.hid (hk6.blk b2 (row_ne Hrow7.out b2 (by decide)))
      have H3k := Lib.hid (hk6.blk b3 (row_ne Hrow7.out b3 (by decide)))
      have HSk := Lib.hid (hk6.blk bS (row_ne Hrow7.out bS (by decide)))
      have HMk := Lib.hid (hk6.blk bm (row_neMap Hrow7.out bm))
      have HOk := Lib.hid (bk.keep hk6 (fun k hk' e => HJc.out.ne k e.symm (.inr (.inr hk'.symm))))
      have H6k := Lib.hid (hk6.blk b6 (fun e => HJc.out.ne g5 e.symm (.inl rfl)))
      have Hrk := Lib.hid (Hr1.out.keep hk6 (row_ne Hrow7.out Hr1.out.blk (by decide)))
      obtain ⟨cur, hcur⟩ : ∃ cur, w6.heap[gr]? = some (.cells cur 25 (0, 0)) ∧ n + 1 ≤ cap ∧ cur.size = cap * 6 ∧ base ≤ gr := by
       rcases hown6.2 with ⟨e, _⟩ | ⟨g', cap', cur, e, hb, hg', hc, hm, hs, ht⟩
       · cases e
       · injection e with e1 e2 e3
         injection e1 with e1
         injection e1 with e1
         subst e1; subst e3
         exact ⟨cur, hg', hc, hs, hb⟩
      have Hcf := Lib.hid hcur.2
      have Hcur := Lib.hid hcur.1
      have Hg6r := Lib.hid (row_notin (fun e => HJc.out.ne g5 e (.inl rfl)) (blk_lt H5b.out) HKr.out.size hr6)
      have Hrowk := Lib.hid hown6
      have HKo := Lib.hid (hk6.mono (M' := fun k => some k = (Value.slice vA n vc).ownBlock ∨ (k = g5 ∨ k = gm ∨ some k = (Value.slice (some ⟨gq, 0, none⟩) (x.1.length + 1) cq).ownBlock)) (fun _ _ e => .inl e))
      have HKall := Lib.hid ((HKM.out.trans (keepsMR HKr.out) (fun _ _ h => h)).trans hk6 (fun i hi e => .inr (row_lt HJ.out.row i e.symm).1))
      have HWc := Lib.hid HKr.out.size
      have hlt1 : (n : Int) < (n : Int) + 1 := by omega
      clear hown6 hk6 hr6 hf6 b2 b3 b6 bS bm bk hcur
      refine wpList_nil ⟨⟨(blk_cell H2k.out 0).trans rfl, (blk_cell H3k.out 0).trans rfl⟩, ?_⟩
      refine tq (some 39) ?_; (try simp only [PU])
      refine tq (some 40) ?_; (try simp only [PU])
      refine tree_b rfl rfl ?b1_32 ?nb1_32
      case' b1_32 =>
       have hfit : n * 6 + 6 ≤ cur.size := by have h1 := Hcf.out.1; have h2 := Hcf.out.2.1; omega
       go_must (refine ev_store (x := .agg #[.int .i64 jk, .bool jb, .int .i64 jn, .string jt, .slice kA' kl kc', .slice jA vl jc]) (vs := [.int .i64 jk, .bool jb, .int .i64 jn, .string jt, .slice kA' kl kc', .slice jA vl jc]) (off := n * 6) (cs' := List.toArray (cur.toList.take (n * 6) ++ ([Value.int .i64 jk, Value.bool jb, Value.int .i64 jn, Value.string jt, Value.slice kA' kl kc', Value.slice jA vl jc] : List Value) ++ cur.toList.drop (n * 6 + 6))) rfl rfl rfl rfl rfl rfl HI.out.1.1 HI.out.1.2 rfl Hcur.out hfit rfl ?_; intro w7 hb7 hk7)
       (try simp only [PU])
       have Hown9 := Lib.hid (RowJ.push HJc.out HV.out (fun b hb => ⟨by have := HDD.out; have := hb.1; omega, fun e => by have := HE.out b e; have := hb.1; omega, fun e => by have := (row_lt HJ.out.row b e.symm).2; have := hb.1; omega, hb.2⟩) (fun b e => Nat.lt_of_lt_of_le (HE.out b e) HWc.out) rfl (by rw [Hnn.out]; exact Hrowk.out) HKo.out Hr6.out (by rw [Hnn.out]) Hcur.out (by rw [Hnn.out]; exact hb7) hk7)
       have H2k := Lib.hid (hk7.blk H2k.out (blk_type H2k.out Hcur.out (by decide)))
       have H3k := Lib.hid (hk7.blk H3k.out (blk_type H3k.out Hcur.out (by decide)))
       have HSk := Lib.hid (hk7.blk HSk.out (blk_type HSk.out Hcur.out (by decide)))
       have HMk := Lib.hid (hk7.blk HMk.out (fun e => map_ne Hcur.out HMk.out e.symm))
       have HOk := Lib.hid (HOk.out.keep hk7 (fun k hk' e => HOk.out.ne Hcur.out (by decide) (by rw [hk', e])))
       have H6k := Lib.hid (hk7.blk H6k.out Hg6r.out)
       have Hrk := Lib.hid (Hrk.out.keep hk7 (blk_type Hrk.out.blk Hcur.out (by decide)))
       have HKall := Lib.hid (HKall.out.trans hk7 (fun i _ e => .inr (by rw [e]; exact Hcf.out.2.2)))
       clear hb7 hk7 hfit
       refine wpList_nil ⟨⟨(blk_cell H2k.out 0).trans rfl, (blk_cell H3k.out 0).trans rfl⟩, ?_⟩
       refine tree_e rfl rfl ?_
       go_must (refine ev_store (cs' := #[.int .i64 6, .bool false, .int .i64 0, .string ByteArray.empty, .slice (some ⟨gq, 0, none⟩) (x.1.length + 1) cq, .slice (some ⟨gr, 0, none⟩) (n + 1) cap]) rfl rfl rfl rfl rfl rfl HI.out.2.1 HI.out.2.2 rfl H6k.out (Nat.le_of_ble_eq_true rfl) rfl ?_; intro w8 hb8 hk8)
       (try simp only [PU])
       have Hb8 := Lib.hid hb8
       (try have Hown9 := Lib.hid (Hown9.out.keep hk8 (fun b _ e => .inr (.inl e))))
       (try have HKo := Lib.hid (HKo.out.trans hk8 (fun _ _ e => .inr (.inl e))))
       (try have Hrowk := Lib.hid (row_keep Hrowk.out hk8 (fun k hk e => Hg6r.out (by rw [← e]; exact (Option.some.inj hk).symm))))
       (try have Hcur := Lib.hid (hk8.blk Hcur.out (fun e => Hg6r.out e.symm)))
       have H2k := Lib.hid (hk8.blk H2k.out (blk_type H2k.out H6k.out (by decide)))
       have H3k := Lib.hid (hk8.blk H3k.out (blk_type H3k.out H6k.out (by decide)))
       have HSk := Lib.hid (hk8.blk HSk.out (blk_type HSk.out H6k.out (by decide)))
       have HMk := Lib.hid (hk8.blk HMk.out (fun e => map_ne H6k.out HMk.out e.symm))
       have HOk := Lib.hid (HOk.out.keep hk8 (fun k hk' e => HOk.out.ne H6k.out (by decide) (by rw [hk', e])))
       have Hrk := Lib.hid (Hrk.out.keep hk8 (fun e => N.out.2.2 e.symm))
       have HKall := Lib.hid (HKall.out.trans hk8 (fun i _ e => .inr (by rw [e]; exact HDD.out.2.2)))
       have H6k := Hb8
       clear hb8 hk8
       refine wpList_nil ⟨⟨(blk_cell H2k.out 0).trans rfl, (blk_cell H3k.out 0).trans rfl⟩, ?_⟩
       refine tree_nil ?_
      case' nb1_32 =>
       refine tree_e rfl rfl ?b1_33
       case' b1_33 =>
        go_must (refine ev_store (cs' := #[.int .i64 6, .bool false, .int .i64 0, .string ByteArray.empty, .slice (some ⟨gq, 0, none⟩) (x.1.length + 1) cq, .slice (some ⟨gr, 0, none⟩) (n + 1) cap]) rfl rfl rfl rfl rfl rfl HI.out.2.1 HI.out.2.2 rfl H6k.out (Nat.le_of_ble_eq_true rfl) rfl ?_; intro w8 hb8 hk8)
        (try simp only [PU])
        have Hb8 := Lib.hid hb8
        (try have Hown9 := Lib.hid (Hown9.out.keep hk8 (fun b _ e => .inr (.inl e))))
        (try have HKo := Lib.hid (HKo.out.trans hk8 (fun _ _ e => .inr (.inl e))))
        (try have Hrowk := Lib.hid (row_keep Hrowk.out hk8 (fun k hk e => Hg6r.out (by rw [← e]; exact (Option.some.inj hk).symm))))
        (try have Hcur := Lib.hid (hk8.blk Hcur.out (fun e => Hg6r.out e.symm)))
        have H2k := Lib.hid (hk8.blk H2k.out (blk_type H2k.out H6k.out (by decide)))
        have H3k := Lib.hid (hk8.blk H3k.out (blk_type H3k.out H6k.out (by decide)))
        have HSk := Lib.hid (hk8.blk HSk.out (blk_type HSk.out H6k.out (by decide)))
        have HMk := Lib.hid (hk8.blk HMk.out (fun e => map_ne H6k.out HMk.out e.symm))
        have HOk := Lib.hid (HOk.out.keep hk8 (fun k hk' e => HOk.out.ne H6k.out (by decide) (by rw [hk', e])))
        have Hrk := Lib.hid (Hrk.out.keep hk8 (fun e => N.out.2.2 e.symm))
        have HKall := Lib.hid (HKall.out.trans hk8 (fun i _ e => .inr (by rw [e]; exact HDD.out.2.2)))
        have H6k := Hb8
        clear hb8 hk8
        refine wpList_nil ⟨⟨(blk_cell H2k.out 0).trans rfl, (blk_cell H3k.out 0).trans rfl⟩, ?_⟩
        refine tree_e rfl rfl ?_
        have hfit : n * 6 + 6 ≤ cur.size := by have h1 := Hcf.out.1; have h2 := Hcf.out.2.1; omega
        go_must (refine ev_store (x := .agg #[.int .i64 jk, .bool jb, .int .i64 jn, .string jt, .slice kA' kl kc', .slice jA vl jc]) (vs := [.int .i64 jk, .bool jb, .int .i64 jn, .string jt, .slice kA' kl kc', .slice jA vl jc]) (off := n * 6) (cs' := List.toArray (cur.toList.take (n * 6) ++ ([Value.int .i64 jk, Value.bool jb, Value.int .i64 jn, Value.string jt, Value.slice kA' kl kc', Value.slice jA vl jc] : List Value) ++ cur.toList.drop (n * 6 + 6))) rfl rfl rfl rfl rfl rfl HI.out.1.1 HI.out.1.2 rfl Hcur.out hfit rfl ?_; intro w7 hb7 hk7)
        (try simp only [PU])
        have Hown9 := Lib.hid (RowJ.push HJc.out HV.out (fun b hb => ⟨by have := HDD.out; have := hb.1; omega, fun e => by have := HE.out b e; have := hb.1; omega, fun e => by have := (row_lt HJ.out.row b e.symm).2; have := hb.1; omega, hb.2⟩) (fun b e => Nat.lt_of_lt_of_le (HE.out b e) HWc.out) rfl (by rw [Hnn.out]; exact Hrowk.out) HKo.out Hr6.out (by rw [Hnn.out]) Hcur.out (by rw [Hnn.out]; exact hb7) hk7)
        have H2k := Lib.hid (hk7.blk H2k.out (blk_type H2k.out Hcur.out (by decide)))
        have H3k := Lib.hid (hk7.blk H3k.out (blk_type H3k.out Hcur.out (by decide)))
        have HSk := Lib.hid (hk7.blk HSk.out (blk_type HSk.out Hcur.out (by decide)))
        have HMk := Lib.hid (hk7.blk HMk.out (fun e => map_ne Hcur.out HMk.out e.symm))
        have HOk := Lib.hid (HOk.out.keep hk7 (fun k hk' e => HOk.out.ne Hcur.out (by decide) (by rw [hk', e])))
        have H6k := Lib.hid (hk7.blk H6k.out Hg6r.out)
        have Hrk := Lib.hid (Hrk.out.keep hk7 (blk_type Hrk.out.blk Hcur.out (by decide)))
        have HKall := Lib.hid (HKall.out.trans hk7 (fun i _ e => .inr (by rw [e]; exact Hcf.out.2.2)))
        clear hb7 hk7 hfit
        refine wpList_nil ⟨⟨(blk_cell H2k.out 0).trans rfl, (blk_cell H3k.out 0).trans rfl⟩, ?_⟩
        refine tree_nil ?_
 all_goals
  go_wp2
  go_end0
  exact ⟨⟨_, rfl⟩, Hrk.out, ⟨⟨H2k.out, HSk.out, H3k.out⟩, ⟨_, _, HMk.out, HMc.out.2⟩, _, _, H6k.out, HOk.out, Hown9.out⟩, HKall.out⟩
end Go.Proofs.WV
