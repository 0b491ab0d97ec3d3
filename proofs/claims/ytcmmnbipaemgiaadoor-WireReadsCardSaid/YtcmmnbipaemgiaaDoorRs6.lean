/-
 The closed example (alive), by the program, in memory. Condition: the standard library's table of powers lies.
-/
import Derived.Test.YtcmmnbipaemgiaaDoorRs5
import Derived.Test.YtcmmnbipaemgiaaDoorRows
import Derived.Test.YtcmmnbipaemgiaaDoorCards
import Derived.Test.YtcmmnbipaemgiaaDoorTie
import Derived.WalkKit
import Derived.ProofKit
import Derived.OpenShut
import Derived.Deep.DeepHandedRow
import Derived.Lib.LaidTab
namespace Go.Proofs.WV
open Go.RowKit Go.Proofs.KL Go.Proofs.WM
set_option maxRecDepth 100000
set_option linter.unusedSimpArgs false
set_option linter.unusedVariables false

theorem js2 {w : World} {X : Nat → Prop} {g : Nat} {x0 x1 x2 x3 x4 x5 y0 y1 y2 y3 y4 y5 : Value} {a b : J} (hg : w.heap[g]? = some (.cells #[x0, x1, x2, x3, x4, x5, y0, y1, y2, y3, y4, y5] 25 (0, 0))) (hX : X g) (ha : JX w X (.agg #[x0, x1, x2, x3, x4, x5]) a) (hb : JX w X (.agg #[y0, y1, y2, y3, y4, y5]) b) :
  JsX w X (.slice (some ⟨g, 0, none⟩) 2 2) [a, b] := by
 refine ⟨some ⟨g, 0, none⟩, 2, fun i k => if i = 0 then [x0, x1, x2, x3, x4, x5].getD k lz else [y0, y1, y2, y3, y4, y5].getD k lz, rfl, Nat.le_refl _, fun i hi => ⟨g, 0, rfl, hX, ?_⟩, fun i hi => ?_⟩
 · have hi' : i < 2 := hi
   match i, hi' with
   | 0, _ => exact ⟨⟨(blk_cell hg _).trans rfl, (blk_cell hg _).trans rfl, (blk_cell hg _).trans rfl⟩, (blk_cell hg _).trans rfl, (blk_cell hg _).trans rfl, (blk_cell hg _).trans rfl⟩
   | 1, _ => exact ⟨⟨(blk_cell hg _).trans rfl, (blk_cell hg _).trans rfl, (blk_cell hg _).trans rfl⟩, (blk_cell hg _).trans rfl, (blk_cell hg _).trans rfl, (blk_cell hg _).trans rfl⟩
 · have hi' : i < 2 := hi
   match i, hi' with
   | 0, _ => exact ha
   | 1, _ => exact hb
theorem strs2 {w : World} {X : Nat → Prop} {g : Nat} {a b : ByteArray} (hg : w.heap[g]? = some (.cells #[.string a, .string b] 9 (0, 0))) (hX : X g) : StrsX w X (.slice (some ⟨g, 0, none⟩) 2 2) [a, b] := by
 refine ⟨_, 2, rfl, Nat.le_refl _, fun i hi => ⟨g, 0, rfl, hX, ?_⟩⟩
 have hi' : i < 2 := hi
 match i, hi' with
 | 0, _ => exact (blk_cell hg _).trans rfl
 | 1, _ => exact (blk_cell hg _).trans rfl
theorem exW {W : World} {X : Nat → Prop} {v : Value} (h : JX W X v exV) (ht : Tab W W.heap.size) : Calls Tryd.prog 15 #[v] W fun e w' => e = .returned (.tuple #[.string ⟨#[123, 34, 97, 34, 58, 49, 44, 34, 98, 34, 58, 91, 116, 114, 117, 101, 44, 110, 117, 108, 108, 93, 125]⟩, .int .i64 0]) ∧ Keeps Nob W w' := by
 have := write15 h ht (by decide)
 rw [exWrite] at this
 exact this
theorem exB {W : World} (ht : Tab W W.heap.size) : Calls Tryd.prog 18 #[.string ⟨#[123, 34, 97, 34, 58, 49, 44, 34, 97, 34, 58, 50, 125]⟩] W (ReadEnd W (zJ, 9, 4)) := by
 have := Read_any (T := ⟨#[123, 34, 97, 34, 58, 49, 44, 34, 97, 34, 58, 50, 125]⟩) ht
 rw [exBad] at this
 exact this
theorem exR {W : World} (ht : Tab W W.heap.size) : Calls Tryd.prog 18 #[.string ⟨#[32, 123, 34, 97, 34, 32, 58, 32, 49, 44, 32, 34, 98, 34, 58, 32, 91, 116, 114, 117, 101, 44, 110, 117, 108, 108, 93, 125]⟩] W (ReadEnd W (exV, 0, 0)) := by
 have := Read_any (T := ⟨#[32, 123, 34, 97, 34, 32, 58, 32, 49, 44, 32, 34, 98, 34, 58, 32, 91, 116, 114, 117, 101, 44, 110, 117, 108, 108, 93, 125]⟩) ht
 rw [exRead] at this
 exact this
theorem Tab.after {W w : World} (h : Tab W W.heap.size) (hk : Keeps Nob W w) : Tab w w.heap.size := Tab.up (h.keep hk.any) hk.size
theorem OwnL.at {W : World} {lo : Nat} {v : Value} {ls : List Bs} (h : OwnL W lo v ls) {i : Nat} (hi : i < ls.length) : ∃ g c A n d, v = .slice (some ⟨g, 0, none⟩) ls.length c ∧ W.cell? ⟨g, i, none⟩ = some (.slice A n d) ∧ BytesX W (fun b => lo ≤ b ∧ b < W.heap.size ∧ some b ≠ v.ownBlock) (.slice A n d) (ls.getD i []) := by
 obtain ⟨xs, hr, hp⟩ := h
 obtain ⟨A, n, d, e, hb⟩ := hp i hi
 rcases hr.2 with ⟨_, h0⟩ | ⟨g, cap, cur, rfl, hlo, hg, hc, hm, hs, ht⟩
 · omega
 · refine ⟨g, cap, A, n, d, rfl, ?_, hb⟩
   rw [blk_cell hg i]
   have h1 : (cur.toList.take (ls.length * 1))[i]? = xs[i]? := by rw [ht]
   rw [List.getElem?_take, if_pos (by omega)] at h1
   have hxl : i < xs.length := by have := hr.1; omega
   rw [← Array.getElem?_toList, h1, ← e, List.getD_eq_getElem?_getD, List.getElem?_eq_getElem hxl]
   rfl
theorem bytes_lit {w : World} {g : Nat} {fz : Nat × Nat} {s : Bs} {cs : Array Value} (hg : w.heap[g]? = some (.cells cs 5 fz)) (hc : cs = (s.map byteV).toArray) : BytesX w (fun b => b = g) (.slice (some ⟨g, 0, none⟩) s.length s.length) s := by
 subst hc
 refine ⟨_, _, rfl, Nat.le_refl _, fun i hi => ⟨g, 0, rfl, rfl, ?_⟩⟩
 rw [Nat.zero_add, blk_cell hg i, List.getElem?_toArray, List.getElem?_map, List.getD_eq_getElem?_getD, List.getElem?_eq_getElem hi]
 rfl
theorem exF {W : World} {rb g : Nat} {fz : Nat × Nat} (h : FdX W rb none [] false) (hg : W.heap[g]? = some (.cells #[.int .u8 76, .int .u8 101, .int .u8 110, .int .u8 103, .int .u8 116, .int .u8 104, .int .u8 58, .int .u8 32, .int .u8 50, .int .u8 13, .int .u8 10, .int .u8 13, .int .u8 10, .int .u8 97, .int .u8 98, .int .u8 76, .int .u8 101, .int .u8 110] 5 fz)) :
  Calls Tryd.prog 21 #[.pointer (some ⟨rb, 0, none⟩), .slice (some ⟨g, 0, none⟩) 18 18] W fun e w' => (∃ gr c, e = .returned (.tuple #[.slice (some ⟨gr, 0, none⟩) 1 c, .int .i64 0]) ∧ ∃ A n d, w'.cell? ⟨gr, 0, none⟩ = some (.slice A n d) ∧ BytesX w' (fun _ => True) (.slice A n d) [97, 98]) ∧ (∃ kb, FdX w' rb kb [76, 101, 110] false) ∧ Keeps (· = rb) W w' := by
 have hb := bytes_lit (s := [76, 101, 110, 103, 116, 104, 58, 32, 50, 13, 10, 13, 10, 97, 98, 76, 101, 110]) hg rfl
 have hf := feed21 h hb (by decide) (by decide)
 rw [exFeed] at hf
 refine hf.mono ?_
 rintro e w' ⟨⟨ov, rfl, hl⟩, ⟨kb, -, hd⟩, hk⟩
 obtain ⟨gr, c, A, n, d, rfl, hc, hx⟩ := hl.at (i := 0) (by decide)
 exact ⟨⟨gr, c, rfl, A, n, d, hc, hx.keep (Keeps.refl Nob w') (fun _ _ _ => id) (fun _ _ _ => trivial)⟩, ⟨kb, hd⟩, hk⟩
set_option maxHeartbeats 8000000 in
theorem alive13 {W : World} (ht : Tab W W.heap.size) : Calls Tryd.prog 13 #[] W fun e w' => e = .returned (.bool true) ∧ Keeps Nob W w' := by
 obtain ⟨i25, hi25, hs25⟩ := info25
 have HI := Lib.hid (And.intro hi25 hs25)
 have HT := Lib.hid ht
 clear ht hi25 hs25
 go_enter Tryd.func13, Tryd.ntmps13
 go_upto_region 5 with (first
  | ((with_reducible refine at_dst (N := 16) rfl ?_); go_must (refine ev_slice (cs := #[.int .i64 2, .bool true, .int .i64 0, .string ⟨#[]⟩, .slice none 0 0, .slice none 0 0, .int .i64 1, .bool false, .int .i64 0, .string ⟨#[]⟩, .slice none 0 0, .slice none 0 0]) (t := 25) (n := 2) (c := 2) rfl (by first | (go_simp; done) | (go_simp; rfl)) ?_; intro ga wa hga hla hba hka)
     have Hba := Lib.hid hba
     have HK := Lib.hid hka
     have Hga := Lib.hid hga
     clear hba hka hga hla
     (try simp only [PU]))
  | ((with_reducible refine at_dst (N := 1) rfl ?_); go_must (refine ev_alloc rfl rfl zero25 rfl ?_; intro g1 wb hgb hlb hbb hkb)
     have Hb1 := Lib.hid hbb
     have Hg1 := Lib.hid (show W.heap.size ≤ g1 ∧ ga < g1 from ⟨Nat.le_trans HK.out.size hgb, Nat.lt_of_lt_of_le (blk_lt Hba.out) hgb⟩)
     have Hba := Lib.hid (hkb.blk Hba.out id)
     have HK := Lib.hid (HK.out.trans hkb (fun _ _ h => h))
     clear hbb hkb hgb hlb
     (try simp only [PU]))
  | ((with_reducible refine at_store (t := 25) (p := 1) rfl ?_); go_must (refine ev_store (cs' := #[.int .i64 5, .bool false, .int .i64 0, .string ⟨#[]⟩, .slice none 0 0, .slice (some ⟨ga, 0, none⟩) 2 2]) rfl rfl rfl rfl rfl rfl HI.out.1 HI.out.2 rfl Hb1.out (Nat.le_of_ble_eq_true rfl) rfl ?_; intro wc hbc hkc)
     have Hb1 := Lib.hid hbc
     have Hba := Lib.hid (hkc.blk Hba.out (fun e : ga = g1 => by have := Hg1.out; omega))
     have HK := Lib.hid (show Keeps Nob W wc from HK.out.trans hkc (fun i hi e => by have := Hg1.out; omega))
     have s0 := (blk_cell hbc 0).trans rfl
     have s1 := (blk_cell hbc 1).trans rfl
     have s2 := (blk_cell hbc 2).trans rfl
     have s3 := (blk_cell hbc 3).trans rfl
     have s4 := (blk_cell hbc 4).trans rfl
     have s5 := (blk_cell hbc 5).trans rfl
     clear hbc hkc
     (try simp only [PU]))
  | ((with_reducible refine at_dst (N := 18) rfl ?_); go_must (refine ev_slice (cs := #[.string ⟨#[97]⟩, .string ⟨#[98]⟩]) (t := 9) (n := 2) (c := 2) rfl (by first | (go_simp; done) | (go_simp; rfl)) ?_; intro gs wd hgs hls hbs hks)
     have Hbs := Lib.hid hbs
     have Hba := Lib.hid (hks.blk Hba.out id)
     have Hb1 := Lib.hid (hks.blk Hb1.out id)
     have HK := Lib.hid (HK.out.trans hks (fun _ _ h => h))
     clear hbs hks hgs hls s0 s1 s2 s3 s4 s5
     have s0 := (blk_cell Hb1.out 0).trans rfl
     have s1 := (blk_cell Hb1.out 1).trans rfl
     have s2 := (blk_cell Hb1.out 2).trans rfl
     have s3 := (blk_cell Hb1.out 3).trans rfl
     have s4 := (blk_cell Hb1.out 4).trans rfl
     have s5 := (blk_cell Hb1.out 5).trans rfl
     (try simp only [PU]))
  | ((with_reducible refine at_dst (N := 21) rfl ?_); go_must (refine ev_slice (cs := #[.int .i64 3, .bool false, .int .i64 1, .string ⟨#[]⟩, .slice none 0 0, .slice none 0 0, .int .i64 5, .bool false, .int .i64 0, .string ⟨#[]⟩, .slice none 0 0, .slice (some ⟨ga, 0, none⟩) 2 2]) (t := 25) (n := 2) (c := 2) rfl (by first | (go_simp; done) | (go_simp; rfl)) ?_; intro gv we hgv hlv hbv hkv)
     have Hbv := Lib.hid hbv
     have Hba := Lib.hid (hkv.blk Hba.out id)
     have Hbs := Lib.hid (hkv.blk Hbs.out id)
     have HK := Lib.hid (HK.out.trans hkv (fun _ _ h => h))
     clear hbv hkv hgv hlv s0 s1 s2 s3 s4 s5
     (try simp only [PU]))
  | ((with_reducible refine at_dst (N := 2) rfl ?_); go_must (refine ev_alloc rfl rfl zero25 rfl ?_; intro g2 wf hgf hlf hbf hkf)
     have Hb2 := Lib.hid hbf
     have Hg2 := Lib.hid (show W.heap.size ≤ g2 ∧ gv < g2 from ⟨Nat.le_trans HK.out.size hgf, Nat.lt_of_lt_of_le (blk_lt Hbv.out) hgf⟩)
     have Hlow := Lib.hid (show ga < g2 ∧ gs < g2 from ⟨Nat.lt_of_lt_of_le (blk_lt Hba.out) hgf, Nat.lt_of_lt_of_le (blk_lt Hbs.out) hgf⟩)
     have Hba := Lib.hid (hkf.blk Hba.out id)
     have Hbs := Lib.hid (hkf.blk Hbs.out id)
     have Hbv := Lib.hid (hkf.blk Hbv.out id)
     have HK := Lib.hid (HK.out.trans hkf (fun _ _ h => h))
     clear hbf hkf hgf hlf
     (try simp only [PU]))
  | ((with_reducible refine at_store (t := 25) (p := 2) rfl ?_); go_must (refine ev_store (cs' := #[.int .i64 6, .bool false, .int .i64 0, .string ⟨#[]⟩, .slice (some ⟨gs, 0, none⟩) 2 2, .slice (some ⟨gv, 0, none⟩) 2 2]) rfl rfl rfl rfl rfl rfl HI.out.1 HI.out.2 rfl Hb2.out (Nat.le_of_ble_eq_true rfl) rfl ?_; intro wg hbg hkg)
     have Hb2 := Lib.hid hbg
     have Hba := Lib.hid (hkg.blk Hba.out (fun e : ga = g2 => by have := Hlow.out; omega))
     have Hbs := Lib.hid (hkg.blk Hbs.out (fun e : gs = g2 => by have := Hlow.out; omega))
     have Hbv := Lib.hid (hkg.blk Hbv.out (fun e : gv = g2 => by have := Hg2.out; omega))
     have HK := Lib.hid (show Keeps Nob W wg from HK.out.trans hkg (fun i hi e => by have := Hg2.out; omega))
     have HV := Lib.hid (show JX wg (fun b => b < g2) (.agg #[.int .i64 6, .bool false, .int .i64 0, .string ⟨#[]⟩, .slice (some ⟨gs, 0, none⟩) 2 2, .slice (some ⟨gv, 0, none⟩) 2 2]) exV from
      JX.close (strs2 Hbs.out Hlow.out.2) (js2 Hbv.out Hg2.out.2 (plainJX _ _ _ _ _ _) (JX.close (strs_nil _ _) (js2 Hba.out Hlow.out.1 (plainJX _ _ _ _ _ _) (plainJX _ _ _ _ _ _)))))
     have s0 := (blk_cell hbg 0).trans rfl
     have s1 := (blk_cell hbg 1).trans rfl
     have s2 := (blk_cell hbg 2).trans rfl
     have s3 := (blk_cell hbg 3).trans rfl
     have s4 := (blk_cell hbg 4).trans rfl
     have s5 := (blk_cell hbg 5).trans rfl
     clear hbg hkg
     (try simp only [PU]))
  | (go_at_call 15; go_must (refine (exW HV.out (Tab.after HT.out HK.out)).mono ?_; rintro e w1 ⟨rfl, hk1⟩)
     have HV := Lib.hid (HV.out.after hk1)
     have Hb2 := Lib.hid (hk1.blk Hb2.out id)
     have HK := Lib.hid (HK.out.trans hk1 (fun _ _ h => h))
     clear hk1 s0 s1 s2 s3 s4 s5
     (try simp only [PU]))
  | (go_at_call 18; go_must (refine (exB (Tab.after HT.out HK.out)).mono ?_; rintro e w1 ⟨⟨v1, rfl, hv1⟩, hk1⟩; obtain ⟨jk, jb, jn, jt, jks, jvs, jkv, jvv, hjj, rfl, hjk, hjv⟩ := hv1.open; obtain ⟨kA, kc, rfl, -, -⟩ := hjk; obtain ⟨jA, jc, ju, rfl, -, -, -⟩ := hjv)
     have HV := Lib.hid (HV.out.after hk1)
     have Hb2 := Lib.hid (hk1.blk Hb2.out id)
     have HK := Lib.hid (HK.out.trans hk1 (fun _ _ h => h))
     clear hk1 hv1 hjj
     generalize jks.length = kl at *
     generalize jvs.length = vl at *
     (try simp only [PU]))
  | ((with_reducible refine at_dst (N := 5) rfl ?_); go_must (refine ev_alloc rfl rfl zero25 rfl ?_; intro g5 wh hgh hlh hbh hkh)
     have Hb5 := Lib.hid hbh
     have Hg5 := Lib.hid (show W.heap.size ≤ g5 ∧ g2 < g5 from ⟨Nat.le_trans HK.out.size hgh, Nat.lt_of_lt_of_le (blk_lt Hb2.out) hgh⟩)
     have HV := Lib.hid (HV.out.after hkh)
     have Hb2 := Lib.hid (hkh.blk Hb2.out id)
     have HK := Lib.hid (HK.out.trans hkh (fun _ _ h => h))
     clear hbh hkh hgh hlh
     (try simp only [PU]))
  | ((with_reducible refine at_store (t := 25) (p := 5) rfl ?_); go_must (refine ev_store (cs' := #[.int .i64 jk, .bool jb, .int .i64 jn, .string jt, .slice kA kl kc, .slice jA vl jc]) rfl rfl rfl rfl rfl rfl HI.out.1 HI.out.2 rfl Hb5.out (Nat.le_of_ble_eq_true rfl) rfl ?_; intro wi hbi hki)
     have HV := Lib.hid (HV.out.keep (X' := fun b => b < g2) hki (fun b _ hb e => by have := Hg5.out; omega) (fun _ _ h => h))
     have Hb2 := Lib.hid (hki.blk Hb2.out (fun e : g2 = g5 => by have := Hg5.out; omega))
     have HK := Lib.hid (show Keeps Nob W wi from HK.out.trans hki (fun i hi e => by have := Hg5.out; omega))
     clear hbi hki
     (try simp only [PU]))
 )
 go_upto_region 8 with (first
  | (go_at_call 18; go_must (refine (exR (Tab.after HT.out HK.out)).mono ?_; rintro e w1 ⟨⟨v1, rfl, hv1⟩, hk1⟩; obtain ⟨rk, rb', rn, rt, rks, rvs, rkv, rvv, hjj, rfl, hjk, hjv⟩ := hv1.open; obtain ⟨rkA, rkc, rfl, -, -⟩ := hjk; obtain ⟨rvA, rvc, ru, rfl, -, -, -⟩ := hjv)
     have HV := Lib.hid (HV.out.after hk1)
     have HV8 := Lib.hid hv1.low
     have Hb2 := Lib.hid (hk1.blk Hb2.out id)
     have HK := Lib.hid (HK.out.trans hk1 (fun _ _ h => h))
     clear hk1 hv1 hjj
     generalize rks.length = rkl at *
     generalize rvs.length = rvl at *
     (try simp only [PU]))
  | ((with_reducible refine at_dst (N := 8) rfl ?_); go_must (refine ev_alloc rfl rfl zero25 rfl ?_; intro g8 wj hgj hlj hbj hkj)
     have Hb8 := Lib.hid hbj
     have Hg8 := Lib.hid (show W.heap.size ≤ g8 ∧ g2 < g8 from ⟨Nat.le_trans HK.out.size hgj, Nat.lt_of_lt_of_le (blk_lt Hb2.out) hgj⟩)
     have HV8 := Lib.hid (HV8.out.keep (X' := fun b => b < g8) hkj (fun _ _ _ => id) (fun b hb hx => Nat.lt_of_lt_of_le hx hgj))
     have HV := Lib.hid (HV.out.after hkj)
     have Hb2 := Lib.hid (hkj.blk Hb2.out id)
     have HK := Lib.hid (HK.out.trans hkj (fun _ _ h => h))
     clear hbj hkj hgj hlj
     (try simp only [PU]))
  | ((with_reducible refine at_store (t := 25) (p := 8) rfl ?_); go_must (refine ev_store (cs' := #[.int .i64 rk, .bool rb', .int .i64 rn, .string rt, .slice rkA rkl rkc, .slice rvA rvl rvc]) rfl rfl rfl rfl rfl rfl HI.out.1 HI.out.2 rfl Hb8.out (Nat.le_of_ble_eq_true rfl) rfl ?_; intro wl hbl' hkl)
     have Hb8 := Lib.hid hbl'
     have HV := Lib.hid (HV.out.keep (X' := fun b => b < g2) hkl (fun b _ hb e => by have := Hg8.out; omega) (fun _ _ h => h))
     have HV8 := Lib.hid (HV8.out.keep (X' := fun b => b < g8) hkl (fun b _ hb e => by omega) (fun _ _ h => h))
     have Hb2 := Lib.hid (hkl.blk Hb2.out (fun e : g2 = g8 => by have := Hg8.out; omega))
     have HK := Lib.hid (show Keeps Nob W wl from HK.out.trans hkl (fun i hi e => by have := Hg8.out; omega))
     clear hbl' hkl
     (try simp only [PU]))
  | (go_at_call 27; go_must (refine (new27 _).mono ?_; rintro e w2 ⟨rb, rfl, hgr, hlr, hfd, hk2⟩)
     have HF := Lib.hid hfd
     have Hgr := Lib.hid (show W.heap.size ≤ rb ∧ g8 < rb from ⟨Nat.le_trans HK.out.size hgr, Nat.lt_of_lt_of_le (blk_lt Hb8.out) hgr⟩)
     have HV := Lib.hid (HV.out.after hk2)
     have HV8 := Lib.hid (HV8.out.after hk2)
     have Hb2 := Lib.hid (hk2.blk Hb2.out id)
     have Hb8 := Lib.hid (hk2.blk Hb8.out id)
     have HK := Lib.hid (HK.out.trans hk2 (fun _ _ h => h))
     clear hk2 hgr hlr hfd
     (try simp only [PU]))
  | ((with_reducible refine at_dst (N := 41) rfl ?_); go_must (refine ev_slice (cs := #[.int .u8 76, .int .u8 101, .int .u8 110, .int .u8 103, .int .u8 116, .int .u8 104, .int .u8 58, .int .u8 32, .int .u8 50, .int .u8 13, .int .u8 10, .int .u8 13, .int .u8 10, .int .u8 97, .int .u8 98, .int .u8 76, .int .u8 101, .int .u8 110]) (t := 5) (n := 18) (c := 18) rfl (by first | (go_simp; done) | (go_simp; rfl)) ?_; intro gz wm hgz hlz hbz hkz)
     have Hbz := Lib.hid hbz
     have Hgz := Lib.hid (show W.heap.size ≤ gz ∧ rb < gz from ⟨Nat.le_trans HK.out.size hgz, Nat.lt_of_lt_of_le (by obtain ⟨A, n, c, hb, -⟩ := HF.out; exact blk_lt hb) hgz⟩)
     have HF := Lib.hid (HF.out.keep hkz id (fun b e => by cases e))
     have HV := Lib.hid (HV.out.after hkz)
     have HV8 := Lib.hid (HV8.out.after hkz)
     have Hb2 := Lib.hid (hkz.blk Hb2.out id)
     have Hb8 := Lib.hid (hkz.blk Hb8.out id)
     have HK := Lib.hid (HK.out.trans hkz (fun _ _ h => h))
     clear hbz hkz hgz hlz
     (try simp only [PU]))
  | ((with_reducible refine at_dst (N := 42) rfl ?_); go_must (refine ev_conv_same rfl rfl byteT38 Tryd.underlying5 rfl Hbz.out ?_; intro wn hbn hkn)
     have Hbz := Lib.hid hbn
     have HF := Lib.hid (HF.out.keep hkn (fun e : rb = gz => by have := Hgz.out; omega) (fun b e => by cases e))
     have HV := Lib.hid (HV.out.keep (X' := fun b => b < g2) hkn (fun b _ hb e => by have := Hg8.out; have := Hgr.out; have := Hgz.out; omega) (fun _ _ h => h))
     have HV8 := Lib.hid (HV8.out.keep (X' := fun b => b < g8) hkn (fun b _ hb e => by have := Hgr.out; have := Hgz.out; omega) (fun _ _ h => h))
     have Hb2 := Lib.hid (hkn.blk Hb2.out (fun e : g2 = gz => by have := Hg8.out; have := Hgr.out; have := Hgz.out; omega))
     have Hb8 := Lib.hid (hkn.blk Hb8.out (fun e : g8 = gz => by have := Hgr.out; have := Hgz.out; omega))
     have HK := Lib.hid (show Keeps Nob W wn from HK.out.trans hkn (fun i hi e => by have := Hgz.out; omega))
     clear hbn hkn
     (try simp only [PU]))
  | (go_at_call 21; go_must (refine (exF HF.out Hbz.out).mono ?_; rintro e wo ⟨⟨gr, oc, rfl, oA, on, od, hoc, hox⟩, ⟨kb, hfd⟩, hko⟩)
     have HO := Lib.hid (And.intro hoc hox)
     have HF := Lib.hid hfd
     have HV := Lib.hid (HV.out.keep (X' := fun b => b < g2) hko (fun b _ hb e => by have := Hg8.out; have := Hgr.out; omega) (fun _ _ h => h))
     have HV8 := Lib.hid (HV8.out.keep (X' := fun b => b < g8) hko (fun b _ hb e => by have := Hgr.out; omega) (fun _ _ h => h))
     have Hb2 := Lib.hid (hko.blk Hb2.out (fun e : g2 = rb => by have := Hg8.out; have := Hgr.out; omega))
     have Hb8 := Lib.hid (hko.blk Hb8.out (fun e : g8 = rb => by have := Hgr.out; omega))
     have HK := Lib.hid (show Keeps Nob W wo from HK.out.trans hko (fun i hi e => by have := Hgr.out; omega))
     clear hfd hko hoc hox
     (try simp only [PU]))
 )
 have s0 := (blk_cell Hb2.out 0).trans rfl
 have s1 := (blk_cell Hb2.out 1).trans rfl
 have s2 := (blk_cell Hb2.out 2).trans rfl
 have s3 := (blk_cell Hb2.out 3).trans rfl
 have s4 := (blk_cell Hb2.out 4).trans rfl
 have s5 := (blk_cell Hb2.out 5).trans rfl
 have r0 := (blk_cell Hb8.out 0).trans rfl
 have r1 := (blk_cell Hb8.out 1).trans rfl
 have r2 := (blk_cell Hb8.out 2).trans rfl
 have r3 := (blk_cell Hb8.out 3).trans rfl
 have r4 := (blk_cell Hb8.out 4).trans rfl
 have r5 := (blk_cell Hb8.out 5).trans rfl
 have Hsame := Lib.hid (show sameJ exV exV = true from (sameJ_iff _ _).2 rfl)
 go_wp2_with (first
  | (go_at_call 23; go_must (refine (same23 HV.out _ _ HV8.out _ (Keeps.refl Nob _) (by decide) (by decide)).mono ?_; rintro e w3 ⟨rfl, hk3⟩; rw [Hsame.out])
     have hoc := hk3.cell HO.out.1 id
     have hcv := run_conv_bs (P := Tryd.prog) Tryd.underlying38 Tryd.underlying5 Tryd.underlying9 (HO.out.2.keep (X' := fun _ => True) hk3 (fun _ _ _ => id) (fun _ _ h => h))
     have hcv2 : (convert 38 9 (.slice oA on od)).run Tryd.prog w3 = .ok (.string ⟨#[97, 98]⟩) w3 := hcv
     have HF := Lib.hid (HF.out.keep hk3 id (fun _ _ => id))
     have HK := Lib.hid (HK.out.trans hk3 (fun _ _ h => h))
     clear hk3 hcv s0 s1 s2 s3 s4 s5 r0 r1 r2 r3 r4 r5
     (try simp only [PU]))
  | (go_at_call 22; go_must (refine (left_fd HF.out).mono ?_; rintro e w4 ⟨rfl, rfl⟩); (try simp only [PU]))
 )
 go_ret
 exact ⟨rfl, HK.out⟩
end Go.Proofs.WV

namespace Go.Proofs.WV
open Go.RowKit Go.Proofs.KL Go.Proofs.WM
set_option maxRecDepth 100000
set_option linter.unusedSimpArgs false
set_option linter.unusedVariables false

theorem readW_S {T : ByteArray} (hl : T.size ≤ 3000) : readW T = readS T ∧ sizeJ (readS T).1 ≤ 1000000 := by
 have hz : sizeJ zJ = 1 := by decide
 have hl' : (bl T).length ≤ 3000 := by rw [bl_len]; exact hl
 unfold readW readS
 rw [if_neg (by omega)]
 cases hr : readJ (bl T) with
 | error a => exact ⟨rfl, by show sizeJ zJ ≤ _; omega⟩
 | ok j =>
   obtain ⟨h1, h2, h3, h4⟩ := readJ_check hr hl'
   have := size_text j h1
   refine ⟨?_, by show sizeJ j ≤ _; omega⟩
   show (if checkJ j = 0 then (j, 0, 0) else (zJ, 0, 3)) = ((j, 0, 0) : J × Int × Int)
   rw [if_pos h4]
set_option maxHeartbeats 8000000 in
theorem WireReads_any {w : World} {T : ByteArray} (ht : Tab w w.heap.size) : Calls Tryd.prog 4 #[.string T] w fun e w' => e = .returned (.bool true) ∧ Keeps Nob w w' := by
 have HT := Lib.hid ht
 have HK := Lib.hid (Keeps.refl Nob w)
 obtain ⟨i25, hi25, hs25⟩ := info25
 have HI := Lib.hid (And.intro hi25 hs25)
 clear ht hi25 hs25
 by_cases hs : T.size ≤ 3000
 · have hsi : (T.size : Int) ≤ 3000 := by omega
   obtain ⟨hW, hsz⟩ := readW_S hs
   have H18 := Lib.hid (fun W ht => Read_any (w := W) (T := T) ht)
   have H19 := Lib.hid (fun W => read19 (w := W) (T := T) (by omega))
   rw [hW] at H18
   obtain ⟨RJ, Rn, Re, hR⟩ : ∃ a b c, readS T = (a, b, c) := ⟨_, _, _, rfl⟩
   rw [hR] at H18 H19 hsz
   have Hsz := Lib.hid (show sizeJ RJ ≤ 1000000000000 from Nat.le_trans hsz (by decide))
   have Hsame := Lib.hid (show sameJ RJ RJ = true from (sameJ_iff _ _).2 rfl)
   clear hs hW hR hsz
   go_enter Tryd.func4, Tryd.ntmps4
   go_upto_region 5 with (first
    | (go_at_call 18; go_must (refine (H18.out _ (Tab.after HT.out HK.out)).mono ?_; rintro e w1 ⟨⟨v1, he, hv1⟩, hk1⟩; obtain ⟨pk, po, pn, pt, pks, pvs, pkv, pvv, hye, rfl, hyk, hyv⟩ := hv1.open; obtain ⟨pA, pc, rfl, -, -⟩ := hyk; obtain ⟨pB, pd, pu, rfl, -, -, -⟩ := hyv; obtain rfl : e = .returned (.tuple #[.agg #[.int .i64 pk, .bool po, .int .i64 pn, .string pt, .slice pA pks.length pc, .slice pB pvs.length pd], .int .i64 Rn, .int .i64 Re]) := he)
       have HVp := Lib.hid (show JX w1 (fun b => b < w1.heap.size) _ RJ from hv1.low)
       have HK := Lib.hid (HK.out.trans hk1 (fun _ _ h => h))
       clear hk1 hv1 hye
       generalize pks.length = pl at *
       generalize pvs.length = pv at *
       (try simp only [PU]))
    | ((with_reducible refine at_dst (N := 3) rfl ?_); go_must (refine ev_alloc rfl rfl zero25 rfl ?_; intro g3 w2 hg hl hb hk)
       have Hb3 := Lib.hid hb
       have Hg3 := Lib.hid (show w.heap.size ≤ g3 from Nat.le_trans HK.out.size hg)
       have HVp := Lib.hid (HVp.out.keep (X' := fun b => b < g3) hk (fun _ _ _ => id) (fun b hb hx => Nat.lt_of_lt_of_le hx hg))
       have HK := Lib.hid (HK.out.trans hk (fun _ _ h => h))
       clear hb hk hg hl
       (try simp only [PU]))
    | ((with_reducible refine at_store (t := 25) (p := 3) rfl ?_); go_must (refine ev_store (cs' := #[.int .i64 pk, .bool po, .int .i64 pn, .string pt, .slice pA pl pc, .slice pB pv pd]) rfl rfl rfl rfl rfl rfl HI.out.1 HI.out.2 rfl Hb3.out (Nat.le_of_ble_eq_true rfl) rfl ?_; intro w3 hb hk)
       have Hb3 := Lib.hid hb
       have HVp := Lib.hid (HVp.out.keep (X' := fun b => b < g3) hk (fun b _ hb e => by omega) (fun _ _ h => h))
       have HK := Lib.hid (show Keeps Nob w w3 from HK.out.trans hk (fun i hi e => by have := Hg3.out; omega))
       clear hb hk
       (try simp only [PU]))
    | (go_at_call 19; go_must (refine (H19.out _).mono ?_; rintro e w4 ⟨⟨v2, he, hv2⟩, hk2⟩; obtain ⟨qk, qo, qn, qt, qks, qvs, qkv, qvv, hye, rfl, hyk, hyv⟩ := hv2.open; obtain ⟨qA, qc, rfl, -, -⟩ := hyk; obtain ⟨qB, qd, qu, rfl, -, -, -⟩ := hyv; obtain rfl : e = .returned (.tuple #[.agg #[.int .i64 qk, .bool qo, .int .i64 qn, .string qt, .slice qA qks.length qc, .slice qB qvs.length qd], .int .i64 Rn, .int .i64 Re]) := he)
       have HVq := Lib.hid (show JX w4 (fun b => b < w4.heap.size) _ RJ from hv2.low)
       have HVp := Lib.hid (HVp.out.after hk2)
       have Hb3 := Lib.hid (hk2.blk Hb3.out id)
       have HK := Lib.hid (HK.out.trans hk2 (fun _ _ h => h))
       clear hk2 hv2 hye
       generalize qks.length = ql at *
       generalize qvs.length = qv at *
       (try simp only [PU]))
    | ((with_reducible refine at_dst (N := 6) rfl ?_); go_must (refine ev_alloc rfl rfl zero25 rfl ?_; intro g6 w5 hg hl hb hk)
       have Hg6 := Lib.hid (show w.heap.size ≤ g6 ∧ g3 < g6 from ⟨Nat.le_trans HK.out.size hg, Nat.lt_of_lt_of_le (blk_lt Hb3.out) hg⟩)
       have HVq := Lib.hid (HVq.out.keep (X' := fun b => b < g6) hk (fun _ _ _ => id) (fun b hb hx => Nat.lt_of_lt_of_le hx hg))
       have HVp := Lib.hid (HVp.out.after hk)
       have Hb3 := Lib.hid (hk.blk Hb3.out id)
       have HK := Lib.hid (HK.out.trans hk (fun _ _ h => h))
       have Hb6 := Lib.hid hb
       clear hb hk hg hl
       (try simp only [PU]))
    | ((with_reducible refine at_store (t := 25) (p := 6) rfl ?_); go_must (refine ev_store (cs' := #[.int .i64 qk, .bool qo, .int .i64 qn, .string qt, .slice qA ql qc, .slice qB qv qd]) rfl rfl rfl rfl rfl rfl HI.out.1 HI.out.2 rfl Hb6.out (Nat.le_of_ble_eq_true rfl) rfl ?_; intro w6 hb hk)
       have HVq := Lib.hid (HVq.out.keep (X' := fun b => b < g6) hk (fun b _ hb e => by omega) (fun _ _ h => h))
       have HVp := Lib.hid (HVp.out.keep (X' := fun b => b < g3) hk (fun b _ hb e => by have := Hg6.out; omega) (fun _ _ h => h))
       have Hb3 := Lib.hid (hk.blk Hb3.out (fun e : g3 = g6 => by have := Hg6.out; omega))
       have HK := Lib.hid (show Keeps Nob w w6 from HK.out.trans hk (fun i hi e => by have := Hg6.out; omega))
       have Hb6 := Lib.hid hb
       clear hb hk
       (try simp only [PU]))
   )
   have a0 := (blk_cell Hb3.out 0).trans rfl
   have a1 := (blk_cell Hb3.out 1).trans rfl
   have a2 := (blk_cell Hb3.out 2).trans rfl
   have a3 := (blk_cell Hb3.out 3).trans rfl
   have a4 := (blk_cell Hb3.out 4).trans rfl
   have a5 := (blk_cell Hb3.out 5).trans rfl
   have b0 := (blk_cell Hb6.out 0).trans rfl
   have b1 := (blk_cell Hb6.out 1).trans rfl
   have b2 := (blk_cell Hb6.out 2).trans rfl
   have b3 := (blk_cell Hb6.out 3).trans rfl
   have b4 := (blk_cell Hb6.out 4).trans rfl
   have b5 := (blk_cell Hb6.out 5).trans rfl
   go_wp2_with (first
    | (go_at_call 20; go_must (refine (same20 HVp.out _ _ HVq.out _ (Keeps.refl Nob _) Hsz.out Hsz.out).mono ?_; rintro e w8 ⟨rfl, hk8⟩; rw [Hsame.out]); have HK := Lib.hid (HK.out.trans hk8 (fun _ _ h => h)); clear hk8; (try simp only [PU]))
    | (go_at_call 13; go_must (refine (alive13 (Tab.after HT.out HK.out)).mono ?_; rintro e w99 ⟨rfl, hk99⟩); have HKz := Lib.hid (HK.out.trans hk99 (fun _ _ h => h)); clear hk99; (try simp only [PU]))
   )
   go_ret
   exact ⟨rfl, HKz.out⟩
 · have hsi : ¬ (T.size : Int) ≤ 3000 := by omega
   clear hs
   go_enter Tryd.func4, Tryd.ntmps4
   go_wp2_with (first
    | (go_at_call 13; go_must (refine (alive13 (Tab.after HT.out HK.out)).mono ?_; rintro e w99 ⟨rfl, hk99⟩); have HKz := Lib.hid (HK.out.trans hk99 (fun _ _ h => h)); clear hk99; (try simp only [PU]))
   )
   go_ret
   exact ⟨rfl, HKz.out⟩
end Go.Proofs.WV

namespace Go.Proofs.YtcmmnbipaemgiaaDoor.base
open Go.ChangeShapes Go.WideShapes Go.ChangeAt Go.RowKit
set_option maxRecDepth 100000

theorem post_of_old {H : Type} {enc : TypeId × Value → H} {P : Program} {f : Func} {s : ChangeSpec} {apart fresh handsOn again : Bool} {W W' : World} {args : Array Value} {v : Value} {ds gs : List (DataW H)} {before pa pv : List MemPlace}
  (hW : DataW.Whole enc P f.params.toList s.vars apart W args.toList ds gs before)
  (hres : ∀ (b : Nat) (sp : Nat → Bool) (hd : Bool), DataW.TrodAll enc P W' b sp hd f.resultTypes.toList (v.resultList f.resultTypes.size) (s.fn H (ds ++ gs)).results [])
  (hargs : ∀ sp : Nat → Bool, (∀ p ∈ before, sp p.block = true) → DataW.TrodAll enc P W' 0 sp true f.params.toList args.toList (s.fn H (ds ++ gs)).args pa)
  (hvars : ∀ sp : Nat → Bool, (∀ p ∈ before, sp p.block = true) → DataW.TrodVars enc P W' sp s.vars (s.fn H (ds ++ gs)).vars pv)
  (hps : before = pa ++ pv) (hb : Below W.heap.size W W')
  (hok : ∀ (j : Nat) (t : TypeId) (r : Value), f.resultTypes[j]? = some t → (v.resultList f.resultTypes.size)[j]? = some r → Value.okWide P W' .any 0 t r) :
  s.post enc P f apart fresh handsOn again W args v W' := by
 have hlt := hW.lt
 have hold : ∀ p ∈ before, (fun b => decide (b < W.heap.size)) p.block = true := fun p hp => by simpa using hlt p hp
 refine ⟨ds, gs, before, [], pa, pv, hW, hres _ _ _, hargs _ hold, hvars _ hold, World.keptBut_mono (fun p hp => ⟨hp, ?_⟩) (hb.frame (· ∈ before)), fun _ => ?_⟩
 · rw [hps, List.mem_append] at hp
   exact Or.inr hp
 · obtain ⟨_, _, _, _, _, hz, hn⟩ := hW
   refine ⟨hok, _, _, ([] ++ pa) ++ pv, ⟨[] ++ pa, pv, trodAll_append (hargs _ (fun _ _ => rfl)) (hres _ _ _), hvars _ (fun _ _ => rfl), rfl, ?_, ?_⟩, ?_⟩
   · intro b off hp
     have hp' : MemPlace.cell b off ∈ before := by rw [hps]; simpa using hp
     rw [hb.frozen (p := ⟨b, off, none⟩) (hlt _ hp')]
     exact hz b off hp'
   · intro ha
     have := hn ha
     rw [hps] at this
     simpa using this
   · intro p hp _
     rw [hps]
     simpa using hp
theorem own : ownKnob Tryd.prog.godebug = none := by kernel_rfl

theorem laidOut : laidOutB Tryd.prog = true := by kernel_rfl
theorem arg_stays {H : Type} {enc : TypeId × Value → H} {W : World} {t : TypeId} (hr : Tryd.prog.readableRec t = true) (hrow : t < Tryd.prog.types.size) {W' : World} {sp' : Nat → Bool} {v : Value} {d : DataW H} {ps : List MemPlace} (h : DataW.Trod enc Tryd.prog W 0 (fun _ => true) true t v d ps) (hk : Go.Proofs.KL.Keeps Go.Proofs.KL.Nob W W')
  (hlt : ∀ p ∈ ps, p.block < W.heap.size) (hs : ∀ p ∈ ps, sp' p.block = true) : DataW.Trod enc Tryd.prog W' 0 sp' true t v d ps :=
 WideElems.Trod_stays laidOut hr hrow h (fun p hp => hk.below.same (hlt p hp)) hs
theorem gPow : Tryd.prog.globalNamed "internal/strconv.uint64pow10" = some 0 := by kernel_rfl
theorem gPowType : (Tryd.prog.globals[0]?).map (·.type) = some 130 := by kernel_rfl
theorem cells120 : Tryd.prog.cellsOf 120 = 1 := by kernel_rfl
theorem cells130 : Tryd.prog.cellsOf 130 = 20 := by kernel_rfl
theorem pow10_lit : (Rows.laid_internal_strconv_uint64pow10 : DataW Unit) = Lib.tabData .u64 Lib.pow10Tab := by rfl
theorem tab_of_laid {W : World} (h : laidMet Tryd.prog [("math/bits.deBruijn32tab", Rows.laid_math_bits_deBruijn32tab), ("math/bits.deBruijn64tab", Rows.laid_math_bits_deBruijn64tab), ("internal/strconv.uint64pow10", Rows.laid_internal_strconv_uint64pow10)] W) : Go.Proofs.WV.Tab W W.heap.size := by
 obtain ⟨ps, ⟨_, _, _, _, _, _, _, _, _, _, ⟨_, _, _, _, _, _, _, _, _, _, ⟨g', t', cs, fuel, p, q, hg', ht', hvar, hd, _, _⟩, _⟩, _⟩, _⟩ := h
 obtain rfl := Option.some.inj (gPow.symm.trans hg')
 obtain rfl := Option.some.inj (gPowType.symm.trans ht')
 have htab : Lib.TabIs Tryd.prog W "internal/strconv.uint64pow10" .u64 Lib.pow10Tab := by
  unfold Lib.TabIs
  rw [hvar, ← Lib.cells_of_tab Tryd.underlying130 Tryd.underlying120 cells120 cells130 (pow10_lit ▸ hd)]
 exact ⟨0, gPow, World.block_lt_of_cell? _ _ (htab.cell gPow 0 (by decide)), htab⟩
def setTab (cs : Array Value) : Obj → Obj
 | .cells _ t frozen => .cells cs t frozen
 | o => o
noncomputable def laidWorld (os : Os) : World :=
 { World.holding Tryd.prog os ⟨#[], #[], []⟩ with heap := (((World.holding Tryd.prog os ⟨#[], #[], []⟩).heap.modify 0 (setTab #[.int .u64 1, .int .u64 10, .int .u64 100, .int .u64 1000, .int .u64 10000, .int .u64 100000, .int .u64 1000000, .int .u64 10000000, .int .u64 100000000, .int .u64 1000000000, .int .u64 10000000000, .int .u64 100000000000, .int .u64 1000000000000, .int .u64 10000000000000, .int .u64 100000000000000, .int .u64 1000000000000000, .int .u64 10000000000000000, .int .u64 100000000000000000, .int .u64 1000000000000000000, .int .u64 10000000000000000000])).modify 2 (setTab #[.int .u8 0, .int .u8 1, .int .u8 28, .int .u8 2, .int .u8 29, .int .u8 14, .int .u8 24, .int .u8 3, .int .u8 30, .int .u8 22, .int .u8 20, .int .u8 15, .int .u8 25, .int .u8 17, .int .u8 4, .int .u8 8, .int .u8 31, .int .u8 27, .int .u8 13, .int .u8 23, .int .u8 21, .int .u8 19, .int .u8 16, .int .u8 7, .int .u8 26, .int .u8 12, .int .u8 18, .int .u8 6, .int .u8 11, .int .u8 5, .int .u8 10, .int .u8 9])).modify 3 (setTab #[.int .u8 0, .int .u8 1, .int .u8 56, .int .u8 2, .int .u8 57, .int .u8 49, .int .u8 28, .int .u8 3, .int .u8 61, .int .u8 58, .int .u8 42, .int .u8 50, .int .u8 38, .int .u8 29, .int .u8 17, .int .u8 4, .int .u8 62, .int .u8 47, .int .u8 59, .int .u8 36, .int .u8 45, .int .u8 43, .int .u8 51, .int .u8 22, .int .u8 53, .int .u8 39, .int .u8 33, .int .u8 30, .int .u8 24, .int .u8 18, .int .u8 12, .int .u8 5, .int .u8 63, .int .u8 55, .int .u8 48, .int .u8 27, .int .u8 60, .int .u8 41, .int .u8 37, .int .u8 16, .int .u8 46, .int .u8 35, .int .u8 44, .int .u8 21, .int .u8 52, .int .u8 32, .int .u8 23, .int .u8 11, .int .u8 54, .int .u8 26, .int .u8 40, .int .u8 15, .int .u8 34, .int .u8 20, .int .u8 31, .int .u8 10, .int .u8 25, .int .u8 14, .int .u8 19, .int .u8 9, .int .u8 13, .int .u8 8, .int .u8 7, .int .u8 6]) }
end Go.Proofs.YtcmmnbipaemgiaaDoor.base
