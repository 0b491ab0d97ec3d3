/-
 The closed example (alive), by the program, in memory. Condition: the standard library's table of powers lies.
-/
import Derived.Test.YtcmmnbipaemgiaaDoorMp6
import Derived.Test.YtcmmnbipaemgiaaDoorRows
import Derived.Test.YtcmmnbipaemgiaaDoorCards
import Derived.Test.YtcmmnbipaemgiaaDoorTie
import Derived.WalkKit
import Derived.ProofKit
import Derived.OpenShut
import Derived.Deep.DeepHandedRow
import Derived.Lib.LaidTab
import Derived.ChangeSlices
import Derived.ChangeArms
import Derived.Carry
namespace Go.Proofs.WV
open Go.RowKit Go.Proofs.KL Go.Proofs.WM
set_option maxRecDepth 100000
set_option linter.unusedSimpArgs false
set_option linter.unusedVariables false

theorem js2 {w : World} {X : Nat → Prop} {g : Nat} {x0 x1 x2 x3 x4 x5 y0 y1 y2 y3 y4 y5 : Value} {a b : J} (hg : w.heap[g]? = some (.cells #[x0, x1, x2, x3, x4, x5, y0, y1, y2, y3, y4, y5] 25 (0, 0))) (hX : X g) (ha : JX w X (.agg #[x0, x1, x2, x3, x4, x5]) a) (hb : JX w X (.agg #[y0, y1, y2, y3, y4, y5]) b) :
  JsX w X (.slice (some ⟨g, 0, none⟩) 2 2) [a, b] := by
 refine ⟨some ⟨g, 0, none⟩, 2, fun i k => if i = 0 then [x0, x1, x2, x3, x4, x5].getD k lz else [y0, y1, y2, y3, y4, y5].getD k lz, rfl, Nat.le_refl _, fun i hi => ⟨g, 0, rfl, hX, ?_⟩, fun i hi => ?_⟩
 · have hi' : i < 2 := hi
   match i, hi' with
   | 0, _ => exact ⟨⟨(blk_cell hg _).trans rfl, (blk_cell hg _).trans rfl, (blk_cell hg _).trans rfl⟩, (blk_cell hg _).trans rfl, (blk_cell hg _).trans rfl, (blk_cell hg _).trans rfl⟩
   | 1, _ => exact ⟨⟨(blk_cell hg _).trans rfl, (blk_cell hg _).trans rfl, (blk_cell hg _).trans rfl⟩, (blk_cell hg _).trans rfl, (blk_cell hg _).trans rfl, (blk_cell hg _).trans rfl⟩
 · have hi' : i < 2 := hi
   match i, hi' with
   | 0, _ => exact ha
   | 1, _ => exact hb
theorem strs2 {w : World} {X : Nat → Prop} {g : Nat} {a b : ByteArray} (hg : w.heap[g]? = some (.cells #[.string a, .string b] 9 (0, 0))) (hX : X g) : StrsX w X (.slice (some ⟨g, 0, none⟩) 2 2) [a, b] := by
 refine ⟨_, 2, rfl, Nat.le_refl _, fun i hi => ⟨g, 0, rfl, hX, ?_⟩⟩
 have hi' : i < 2 := hi
 match i, hi' with
 | 0, _ => exact (blk_cell hg _).trans rfl
 | 1, _ => exact (blk_cell hg _).trans rfl
theorem exW {W : World} {X : Nat → Prop} {v : Value} (h : JX W X v exV) (ht : Tab W W.heap.size) : Calls Tryd.prog 15 #[v] W fun e w' => e = .returned (.tuple #[.string ⟨#[123, 34, 97, 34, 58, 49, 44, 34, 98, 34, 58, 91, 116, 114, 117, 101, 44, 110, 117, 108, 108, 93, 125]⟩, .int .i64 0]) ∧ Keeps Nob W w' := by
 have := write15 h ht (by decide)
 rw [exWrite] at this
 exact this
theorem exB {W : World} (ht : Tab W W.heap.size) : Calls Tryd.prog 18 #[.string ⟨#[123, 34, 97, 34, 58, 49, 44, 34, 97, 34, 58, 50, 125]⟩] W (ReadEnd W (zJ, 9, 4)) := by
 have := Read_any (T := ⟨#[123, 34, 97, 34, 58, 49, 44, 34, 97, 34, 58, 50, 125]⟩) ht
 rw [exBad] at this
 exact this
theorem exR {W : World} (ht : Tab W W.heap.size) : Calls Tryd.prog 18 #[.string ⟨#[32, 123, 34, 97, 34, 32, 58, 32, 49, 44, 32, 34, 98, 34, 58, 32, 91, 116, 114, 117, 101, 44, 110, 117, 108, 108, 93, 125]⟩] W (ReadEnd W (exV, 0, 0)) := by
 have := Read_any (T := ⟨#[32, 123, 34, 97, 34, 32, 58, 32, 49, 44, 32, 34, 98, 34, 58, 32, 91, 116, 114, 117, 101, 44, 110, 117, 108, 108, 93, 125]⟩) ht
 rw [exRead] at this
 exact this
theorem Tab.after {W w : World} (h : Tab W W.heap.size) (hk : Keeps Nob W w) : Tab w w.heap.size := Tab.up (h.keep hk.any) hk.size
theorem OwnL.at {W : World} {lo : Nat} {v : Value} {ls : List Bs} (h : OwnL W lo v ls) {i : Nat} (hi : i < ls.length) : ∃ g c A n d, v = .slice (some ⟨g, 0, none⟩) ls.length c ∧ W.cell? ⟨g, i, none⟩ = some (.slice A n d) ∧ BytesX W (fun b => lo ≤ b ∧ b < W.heap.size ∧ some b ≠ v.ownBlock) (.slice A n d) (ls.getD i []) := by
 obtain ⟨xs, hr, hp⟩ := h
 obtain ⟨A, n, d, e, hb⟩ := hp i hi
 rcases hr.2 with ⟨_, h0⟩ | ⟨g, cap, cur, rfl, hlo, hg, hc, hm, hs, ht⟩
 · omega
 · refine ⟨g, cap, A, n, d, rfl, ?_, hb⟩
   rw [blk_cell hg i]
   have h1 : (cur.toList.take (ls.length * 1))[i]? = xs[i]? := by rw [ht]
   rw [List.getElem?_take, if_pos (by omega)] at h1
   have hxl : i < xs.length := by have := hr.1; omega
   rw [← Array.getElem?_toList, h1, ← e, List.getD_eq_getElem?_getD, List.getElem?_eq_getElem hxl]
   rfl
theorem bytes_lit {w : World} {g : Nat} {fz : Nat × Nat} {s : Bs} {cs : Array Value} (hg : w.heap[g]? = some (.cells cs 5 fz)) (hc : cs = (s.map byteV).toArray) : BytesX w (fun b => b = g) (.slice (some ⟨g, 0, none⟩) s.length s.length) s := by
 subst hc
 refine ⟨_, _, rfl, Nat.le_refl _, fun i hi => ⟨g, 0, rfl, rfl, ?_⟩⟩
 rw [Nat.zero_add, blk_cell hg i, List.getElem?_toArray, List.getElem?_map, List.getD_eq_getElem?_getD, List.getElem?_eq_getElem hi]
 rfl
theorem exF {W : World} {rb g : Nat} {fz : Nat × Nat} (h : FdX W rb none [] false) (hg : W.heap[g]? = some (.cells #[.int .u8 76, .int .u8 101, .int .u8 110, .int .u8 103, .int .u8 116, .int .u8 104, .int .u8 58, .int .u8 32, .int .u8 50, .int .u8 13, .int .u8 10, .int .u8 13, .int .u8 10, .int .u8 97, .int .u8 98, .int .u8 76, .int .u8 101, .int .u8 110] 5 fz)) :
  Calls Tryd.prog 21 #[.pointer (some ⟨rb, 0, none⟩), .slice (some ⟨g, 0, none⟩) 18 18] W fun e w' => (∃ gr c, e = .returned (.tuple #[.slice (some ⟨gr, 0, none⟩) 1 c, .int .i64 0]) ∧ ∃ A n d, w'.cell? ⟨gr, 0, none⟩ = some (.slice A n d) ∧ BytesX w' (fun _ => True) (.slice A n d) [97, 98]) ∧ (∃ kb, FdX w' rb kb [76, 101, 110] false) ∧ Keeps (· = rb) W w' := by
 have hb := bytes_lit (s := [76, 101, 110, 103, 116, 104, 58, 32, 50, 13, 10, 13, 10, 97, 98, 76, 101, 110]) hg rfl
 have hf := feed21 h hb (by decide) (by decide)
 rw [exFeed] at hf
 refine hf.mono ?_
 rintro e w' ⟨⟨ov, rfl, hl⟩, ⟨kb, -, hd⟩, hk⟩
 obtain ⟨gr, c, A, n, d, rfl, hc, hx⟩ := hl.at (i := 0) (by decide)
 exact ⟨⟨gr, c, rfl, A, n, d, hc, hx.keep (Keeps.refl Nob w') (fun _ _ _ => id) (fun _ _ _ => trivial)⟩, ⟨kb, hd⟩, hk⟩
set_option maxHeartbeats 8000000 in
theorem alive13 {W : World} (ht : Tab W W.heap.size) : Calls Tryd.prog 13 #[] W fun e w' => e = .returned (.bool true) ∧ Keeps Nob W w' := by
 obtain ⟨i25, hi25, hs25⟩ := info25
 have HI := Lib.hid (And.intro hi25 hs25)
 have HT := Lib.hid ht
 clear ht hi25 hs25
 go_enter Tryd.func13, Tryd.ntmps13
 go_upto_region 5 with (first
  | ((with_reducible refine at_dst (N := 16) rfl ?_); go_must (refine ev_slice (cs := #[.int .i64 2, .bool true, .int .i64 0, .string ⟨#[]⟩, .slice none 0 0, .slice none 0 0, .int .i64 1, .bool false, .int .i64 0, .string ⟨#[]⟩, .slice none 0 0, .slice none 0 0]) (t := 25) (n := 2) (c := 2) rfl (by first | (go_simp; done) | (go_simp; rfl)) ?_; intro ga wa hga hla hba hka)
     have Hba := Lib.hid hba
     have HK := Lib.hid hka
     have Hga := Lib.hid hga
     clear hba hka hga hla
     (try simp only [PU]))
  | ((with_reducible refine at_dst (N := 1) rfl ?_); go_must (refine ev_alloc rfl rfl zero25 rfl ?_; intro g1 wb hgb hlb hbb hkb)
     have Hb1 := Lib.hid hbb
     have Hg1 := Lib.hid (show W.heap.size ≤ g1 ∧ ga < g1 from ⟨Nat.le_trans HK.out.size hgb, Nat.lt_of_lt_of_le (blk_lt Hba.out) hgb⟩)
     have Hba := Lib.hid (hkb.blk Hba.out id)
     have HK := Lib.hid (HK.out.trans hkb (fun _ _ h => h))
     clear hbb hkb hgb hlb
     (try simp only [PU]))
  | ((with_reducible refine at_store (t := 25) (p := 1) rfl ?_); go_must (refine ev_store (cs' := #[.int .i64 5, .bool false, .int .i64 0, .string ⟨#[]⟩, .slice none 0 0, .slice (some ⟨ga, 0, none⟩) 2 2]) rfl rfl rfl rfl rfl rfl HI.out.1 HI.out.2 rfl Hb1.out (Nat.le_of_ble_eq_true rfl) rfl ?_; intro wc hbc hkc)
     have Hb1 := Lib.hid hbc
     have Hba := Lib.hid (hkc.blk Hba.out (fun e : ga = g1 => by have := Hg1.out; omega))
     have HK := Lib.hid (show Keeps Nob W wc from HK.out.trans hkc (fun i hi e => by have := Hg1.out; omega))
     have s0 := (blk_cell hbc 0).trans rfl
     have s1 := (blk_cell hbc 1).trans rfl
     have s2 := (blk_cell hbc 2).trans rfl
     have s3 := (blk_cell hbc 3).trans rfl
     have s4 := (blk_cell hbc 4).trans rfl
     have s5 := (blk_cell hbc 5).trans rfl
     clear hbc hkc
     (try simp only [PU]))
  | ((with_reducible refine at_dst (N := 18) rfl ?_); go_must (refine ev_slice (cs := #[.string ⟨#[97]⟩, .string ⟨#[98]⟩]) (t := 9) (n := 2) (c := 2) rfl (by first | (go_simp; done) | (go_simp; rfl)) ?_; intro gs wd hgs hls hbs hks)
     have Hbs := Lib.hid hbs
     have Hba := Lib.hid (hks.blk Hba.out id)
     have Hb1 := Lib.hid (hks.blk Hb1.out id)
     have HK := Lib.hid (HK.out.trans hks (fun _ _ h => h))
     clear hbs hks hgs hls s0 s1 s2 s3 s4 s5
     have s0 := (blk_cell Hb1.out 0).trans rfl
     have s1 := (blk_cell Hb1.out 1).trans rfl
     have s2 := (blk_cell Hb1.out 2).trans rfl
     have s3 := (blk_cell Hb1.out 3).trans rfl
     have s4 := (blk_cell Hb1.out 4).trans rfl
     have s5 := (blk_cell Hb1.out 5).trans rfl
     (try simp only [PU]))
  | ((with_reducible refine at_dst (N := 21) rfl ?_); go_must (refine ev_slice (cs := #[.int .i64 3, .bool false, .int .i64 1, .string ⟨#[]⟩, .slice none 0 0, .slice none 0 0, .int .i64 5, .bool false, .int .i64 0, .string ⟨#[]⟩, .slice none 0 0, .slice (some ⟨ga, 0, none⟩) 2 2]) (t := 25) (n := 2) (c := 2) rfl (by first | (go_simp; done) | (go_simp; rfl)) ?_; intro gv we hgv hlv hbv hkv)
     have Hbv := Lib.hid hbv
     have Hba := Lib.hid (hkv.blk Hba.out id)
     have Hbs := Lib.hid (hkv.blk Hbs.out id)
     have HK := Lib.hid (HK.out.trans hkv (fun _ _ h => h))
     clear hbv hkv hgv hlv s0 s1 s2 s3 s4 s5
     (try simp only [PU]))
  | ((with_reducible refine at_dst (N := 2) rfl ?_); go_must (refine ev_alloc rfl rfl zero25 rfl ?_; intro g2 wf hgf hlf hbf hkf)
     have Hb2 := Lib.hid hbf
     have Hg2 := Lib.hid (show W.heap.size ≤ g2 ∧ gv < g2 from ⟨Nat.le_trans HK.out.size hgf, Nat.lt_of_lt_of_le (blk_lt Hbv.out) hgf⟩)
     have Hlow := Lib.hid (show ga < g2 ∧ gs < g2 from ⟨Nat.lt_of_lt_of_le (blk_lt Hba.out) hgf, Nat.lt_of_lt_of_le (blk_lt Hbs.out) hgf⟩)
     have Hba := Lib.hid (hkf.blk Hba.out id)
     have Hbs := Lib.hid (hkf.blk Hbs.out id)
     have Hbv := Lib.hid (hkf.blk Hbv.out id)
     have HK := Lib.hid (HK.out.trans hkf (fun _ _ h => h))
     clear hbf hkf hgf hlf
     (try simp only [PU]))
  | ((with_reducible refine at_store (t := 25) (p := 2) rfl ?_); go_must (refine ev_store (cs' := #[.int .i64 6, .bool false, .int .i64 0, .string ⟨#[]⟩, .slice (some ⟨gs, 0, none⟩) 2 2, .slice (some ⟨gv, 0, none⟩) 2 2]) rfl rfl rfl rfl rfl rfl HI.out.1 HI.out.2 rfl Hb2.out (Nat.le_of_ble_eq_true rfl) rfl ?_; intro wg hbg hkg)
     have Hb2 := Lib.hid hbg
     have Hba := Lib.hid (hkg.blk Hba.out (fun e : ga = g2 => by have := Hlow.out; omega))
     have Hbs := Lib.hid (hkg.blk Hbs.out (fun e : gs = g2 => by have := Hlow.out; omega))
     have Hbv := Lib.hid (hkg.blk Hbv.out (fun e : gv = g2 => by have := Hg2.out; omega))
     have HK := Lib.hid (show Keeps Nob W wg from HK.out.trans hkg (fun i hi e => by have := Hg2.out; omega))
     have HV := Lib.hid (show JX wg (fun b => b < g2) (.agg #[.int .i64 6, .bool false, .int .i64 0, .string ⟨#[]⟩, .slice (some ⟨gs, 0, none⟩) 2 2, .slice (some ⟨gv, 0, none⟩) 2 2]) exV from
      JX.close (strs2 Hbs.out Hlow.out.2) (js2 Hbv.out Hg2.out.2 (plainJX _ _ _ _ _ _) (JX.close (strs_nil _ _) (js2 Hba.out Hlow.out.1 (plainJX _ _ _ _ _ _) (plainJX _ _ _ _ _ _)))))
     have s0 := (blk_cell hbg 0).trans rfl
     have s1 := (blk_cell hbg 1).trans rfl
     have s2 := (blk_cell hbg 2).trans rfl
     have s3 := (blk_cell hbg 3).trans rfl
     have s4 := (blk_cell hbg 4).trans rfl
     have s5 := (blk_cell hbg 5).trans rfl
     clear hbg hkg
     (try simp only [PU]))
  | (go_at_call 15; go_must (refine (exW HV.out (Tab.after HT.out HK.out)).mono ?_; rintro e w1 ⟨rfl, hk1⟩)
     have HV := Lib.hid (HV.out.after hk1)
     have Hb2 := Lib.hid (hk1.blk Hb2.out id)
     have HK := Lib.hid (HK.out.trans hk1 (fun _ _ h => h))
     clear hk1 s0 s1 s2 s3 s4 s5
     (try simp only [PU]))
  | (go_at_call 18; go_must (refine (exB (Tab.after HT.out HK.out)).mono ?_; rintro e w1 ⟨⟨v1, rfl, hv1⟩, hk1⟩; obtain ⟨jk, jb, jn, jt, jks, jvs, jkv, jvv, hjj, rfl, hjk, hjv⟩ := hv1.open; obtain ⟨kA, kc, rfl, -, -⟩ := hjk; obtain ⟨jA, jc, ju, rfl, -, -, -⟩ := hjv)
     have HV := Lib.hid (HV.out.after hk1)
     have Hb2 := Lib.hid (hk1.blk Hb2.out id)
     have HK := Lib.hid (HK.out.trans hk1 (fun _ _ h => h))
     clear hk1 hv1 hjj
     generalize jks.length = kl at *
     generalize jvs.length = vl at *
     (try simp only [PU]))
  | ((with_reducible refine at_dst (N := 5) rfl ?_); go_must (refine ev_alloc rfl rfl zero25 rfl ?_; intro g5 wh hgh hlh hbh hkh)
     have Hb5 := Lib.hid hbh
     have Hg5 := Lib.hid (show W.heap.size ≤ g5 ∧ g2 < g5 from ⟨Nat.le_trans HK.out.size hgh, Nat.lt_of_lt_of_le (blk_lt Hb2.out) hgh⟩)
     have HV := Lib.hid (HV.out.after hkh)
     have Hb2 := Lib.hid (hkh.blk Hb2.out id)
     have HK := Lib.hid (HK.out.trans hkh (fun _ _ h => h))
     clear hbh hkh hgh hlh
     (try simp only [PU]))
  | ((with_reducible refine at_store (t := 25) (p := 5) rfl ?_); go_must (refine ev_store (cs' := #[.int .i64 jk, .bool jb, .int .i64 jn, .string jt, .slice kA kl kc, .slice jA vl jc]) rfl rfl rfl rfl rfl rfl HI.out.1 HI.out.2 rfl Hb5.out (Nat.le_of_ble_eq_true rfl) rfl ?_; intro wi hbi hki)
     have HV := Lib.hid (HV.out.keep (X' := fun b => b < g2) hki (fun b _ hb e => by have := Hg5.out; omega) (fun _ _ h => h))
     have Hb2 := Lib.hid (hki.blk Hb2.out (fun e : g2 = g5 => by have := Hg5.out; omega))
     have HK := Lib.hid (show Keeps Nob W wi from HK.out.trans hki (fun i hi e => by have := Hg5.out; omega))
     clear hbi hki
     (try simp only [PU]))
 )
 go_upto_region 8 with (first
  | (go_at_call 18; go_must (refine (exR (Tab.after HT.out HK.out)).mono ?_; rintro e w1 ⟨⟨v1, rfl, hv1⟩, hk1⟩; obtain ⟨rk, rb', rn, rt, rks, rvs, rkv, rvv, hjj, rfl, hjk, hjv⟩ := hv1.open; obtain ⟨rkA, rkc, rfl, -, -⟩ := hjk; obtain ⟨rvA, rvc, ru, rfl, -, -, -⟩ := hjv)
     have HV := Lib.hid (HV.out.after hk1)
     have HV8 := Lib.hid hv1.low
     have Hb2 := Lib.hid (hk1.blk Hb2.out id)
     have HK := Lib.hid (HK.out.trans hk1 (fun _ _ h => h))
     clear hk1 hv1 hjj
     generalize rks.length = rkl at *
     generalize rvs.length = rvl at *
     (try simp only [PU]))
  | ((with_reducible refine at_dst (N := 8) rfl ?_); go_must (refine ev_alloc rfl rfl zero25 rfl ?_; intro g8 wj hgj hlj hbj hkj)
     have Hb8 := Lib.hid hbj
     have Hg8 := Lib.hid (show W.heap.size ≤ g8 ∧ g2 < g8 from ⟨Nat.le_trans HK.out.size hgj, Nat.lt_of_lt_of_le (blk_lt Hb2.out) hgj⟩)
     have HV8 := Lib.hid (HV8.out.keep (X' := fun b => b < g8) hkj (fun _ _ _ => id) (fun b hb hx => Nat.lt_of_lt_of_le hx hgj))
     have HV := Lib.hid (HV.out.after hkj)
     have Hb2 := Lib.hid (hkj.blk Hb2.out id)
     have HK := Lib.hid (HK.out.trans hkj (fun _ _ h => h))
     clear hbj hkj hgj hlj
     (try simp only [PU]))
  | ((with_reducible refine at_store (t := 25) (p := 8) rfl ?_); go_must (refine ev_store (cs' := #[.int .i64 rk, .bool rb', .int .i64 rn, .string rt, .slice rkA rkl rkc, .slice rvA rvl rvc]) rfl rfl rfl rfl rfl rfl HI.out.1 HI.out.2 rfl Hb8.out (Nat.le_of_ble_eq_true rfl) rfl ?_; intro wl hbl' hkl)
     have Hb8 := Lib.hid hbl'
     have HV := Lib.hid (HV.out.keep (X' := fun b => b < g2) hkl (fun b _ hb e => by have := Hg8.out; omega) (fun _ _ h => h))
     have HV8 := Lib.hid (HV8.out.keep (X' := fun b => b < g8) hkl (fun b _ hb e => by omega) (fun _ _ h => h))
     have Hb2 := Lib.hid (hkl.blk Hb2.out (fun e : g2 = g8 => by have := Hg8.out; omega))
     have HK := Lib.hid (show Keeps Nob W wl from HK.out.trans hkl (fun i hi e => by have := Hg8.out; omega))
     clear hbl' hkl
     (try simp only [PU]))
  | (go_at_call 27; go_must (refine (new27 _).mono ?_; rintro e w2 ⟨rb, rfl, hgr, hlr, hfd, hk2⟩)
     have HF := Lib.hid hfd
     have Hgr := Lib.hid (show W.heap.size ≤ rb ∧ g8 < rb from ⟨Nat.le_trans HK.out.size hgr, Nat.lt_of_lt_of_le (blk_lt Hb8.out) hgr⟩)
     have HV := Lib.hid (HV.out.after hk2)
     have HV8 := Lib.hid (HV8.out.after hk2)
     have Hb2 := Lib.hid (hk2.blk Hb2.out id)
     have Hb8 := Lib.hid (hk2.blk Hb8.out id)
     have HK := Lib.hid (HK.out.trans hk2 (fun _ _ h => h))
     clear hk2 hgr hlr hfd
     (try simp only [PU]))
  | ((with_reducible refine at_dst (N := 41) rfl ?_); go_must (refine ev_slice (cs := #[.int .u8 76, .int .u8 101, .int .u8 110, .int .u8 103, .int .u8 116, .int .u8 104, .int .u8 58, .int .u8 32, .int .u8 50, .int .u8 13, .int .u8 10, .int .u8 13, .int .u8 10, .int .u8 97, .int .u8 98, .int .u8 76, .int .u8 101, .int .u8 110]) (t := 5) (n := 18) (c := 18) rfl (by first | (go_simp; done) | (go_simp; rfl)) ?_; intro gz wm hgz hlz hbz hkz)
     have Hbz := Lib.hid hbz
     have Hgz := Lib.hid (show W.heap.size ≤ gz ∧ rb < gz from ⟨Nat.le_trans HK.out.size hgz, Nat.lt_of_lt_of_le (by obtain ⟨A, n, c, hb, -⟩ := HF.out; exact blk_lt hb) hgz⟩)
     have HF := Lib.hid (HF.out.keep hkz id (fun b e => by cases e))
     have HV := Lib.hid (HV.out.after hkz)
     have HV8 := Lib.hid (HV8.out.after hkz)
     have Hb2 := Lib.hid (hkz.blk Hb2.out id)
     have Hb8 := Lib.hid (hkz.blk Hb8.out id)
     have HK := Lib.hid (HK.out.trans hkz (fun _ _ h => h))
     clear hbz hkz hgz hlz
     (try simp only [PU]))
  | ((with_reducible refine at_dst (N := 42) rfl ?_); go_must (refine ev_conv_same rfl rfl byteT38 Tryd.underlying5 rfl Hbz.out ?_; intro wn hbn hkn)
     have Hbz := Lib.hid hbn
     have HF := Lib.hid (HF.out.keep hkn (fun e : rb = gz => by have := Hgz.out; omega) (fun b e => by cases e))
     have HV := Lib.hid (HV.out.keep (X' := fun b => b < g2) hkn (fun b _ hb e => by have := Hg8.out; have := Hgr.out; have := Hgz.out; omega) (fun _ _ h => h))
     have HV8 := Lib.hid (HV8.out.keep (X' := fun b => b < g8) hkn (fun b _ hb e => by have := Hgr.out; have := Hgz.out; omega) (fun _ _ h => h))
     have Hb2 := Lib.hid (hkn.blk Hb2.out (fun e : g2 = gz => by have := Hg8.out; have := Hgr.out; have := Hgz.out; omega))
     have Hb8 := Lib.hid (hkn.blk Hb8.out (fun e : g8 = gz => by have := Hgr.out; have := Hgz.out; omega))
     have HK := Lib.hid (show Keeps Nob W wn from HK.out.trans hkn (fun i hi e => by have := Hgz.out; omega))
     clear hbn hkn
     (try simp only [PU]))
  | (go_at_call 21; go_must (refine (exF HF.out Hbz.out).mono ?_; rintro e wo ⟨⟨gr, oc, rfl, oA, on, od, hoc, hox⟩, ⟨kb, hfd⟩, hko⟩)
     have HO := Lib.hid (And.intro hoc hox)
     have HF := Lib.hid hfd
     have HV := Lib.hid (HV.out.keep (X' := fun b => b < g2) hko (fun b _ hb e => by have := Hg8.out; have := Hgr.out; omega) (fun _ _ h => h))
     have HV8 := Lib.hid (HV8.out.keep (X' := fun b => b < g8) hko (fun b _ hb e => by have := Hgr.out; omega) (fun _ _ h => h))
     have Hb2 := Lib.hid (hko.blk Hb2.out (fun e : g2 = rb => by have := Hg8.out; have := Hgr.out; omega))
     have Hb8 := Lib.hid (hko.blk Hb8.out (fun e : g8 = rb => by have := Hgr.out; omega))
     have HK := Lib.hid (show Keeps Nob W wo from HK.out.trans hko (fun i hi e => by have := Hgr.out; omega))
     clear hfd hko hoc hox
     (try simp only [PU]))
 )
 have s0 := (blk_cell Hb2.out 0).trans rfl
 have s1 := (blk_cell Hb2.out 1).trans rfl
 have s2 := (blk_cell Hb2.out 2).trans rfl
 have s3 := (blk_cell Hb2.out 3).trans rfl
 have s4 := (blk_cell Hb2.out 4).trans rfl
 have s5 := (blk_cell Hb2.out 5).trans rfl
 have r0 := (blk_cell Hb8.out 0).trans rfl
 have r1 := (blk_cell Hb8.out 1).trans rfl
 have r2 := (blk_cell Hb8.out 2).trans rfl
 have r3 := (blk_cell Hb8.out 3).trans rfl
 have r4 := (blk_cell Hb8.out 4).trans rfl
 have r5 := (blk_cell Hb8.out 5).trans rfl
 have Hsame := Lib.hid (show sameJ exV exV = true from (sameJ_iff _ _).2 rfl)
 go_wp2_with (first
  | (go_at_call 23; go_must (refine (same23 HV.out _ _ HV8.out _ (Keeps.refl Nob _) (by decide) (by decide)).mono ?_; rintro e w3 ⟨rfl, hk3⟩; rw [Hsame.out])
     have hoc := hk3.cell HO.out.1 id
     have hcv := run_conv_bs (P := Tryd.prog) Tryd.underlying38 Tryd.underlying5 Tryd.underlying9 (HO.out.2.keep (X' := fun _ => True) hk3 (fun _ _ _ => id) (fun _ _ h => h))
     have hcv2 : (convert 38 9 (.slice oA on od)).run Tryd.prog w3 = .ok (.string ⟨#[97, 98]⟩) w3 := hcv
     have HF := Lib.hid (HF.out.keep hk3 id (fun _ _ => id))
     have HK := Lib.hid (HK.out.trans hk3 (fun _ _ h => h))
     clear hk3 hcv s0 s1 s2 s3 s4 s5 r0 r1 r2 r3 r4 r5
     (try simp only [PU]))
  | (go_at_call 22; go_must (refine (left_fd HF.out).mono ?_; rintro e w4 ⟨rfl, rfl⟩); (try simp only [PU]))
 )
 go_ret
 exact ⟨rfl, HK.out⟩
end Go.Proofs.WV

namespace Go.Proofs.WV
open Go.RowKit Go.Proofs.KL Go.Proofs.WM
set_option maxRecDepth 100000
set_option linter.unusedSimpArgs false
set_option linter.unusedVariables false

theorem getJ_size (v : J) (key : ByteArray) : sizeJ (getJ v key).1 ≤ sizeJ v + 1 := by
 obtain ⟨k, b, n, t, ks, vs⟩ := v
 have hz : sizeJ zJ = 1 := by decide
 rw [getJ_mk]
 split
 · show sizeJ zJ ≤ _; omega
 split
 · show sizeJ zJ ≤ _; omega
 split
 · show sizeJ zJ ≤ _; omega
 · rename_i i hi
   show sizeJ (vs.getD i default) ≤ _
   by_cases h : i < vs.length
   · have := size_get (vs := vs) (i := i) h
     unfold sizeJ
     unfold sizeJ at this
     omega
   · rw [List.getD_eq_getElem?_getD, List.getElem?_eq_none (by omega)]
     have : sizeJ (default : J) = 1 := by decide
     show sizeJ (default : J) ≤ _
     omega
theorem putJ_size (v : J) (key : ByteArray) (x : J) : sizeJ (putJ v key x).1 ≤ sizeJ v + sizeJ x + 2 + key.size := by
 have hz : sizeJ zJ = 1 := by decide
 have := putOut_size key x v
 rw [putJ_if]
 split
 · show sizeJ zJ ≤ _; omega
 split
 · show sizeJ zJ ≤ _; omega
 split
 · show sizeJ zJ ≤ _; omega
 split
 · show sizeJ zJ ≤ _; omega
 · show sizeJ (putOut key x v) ≤ _; omega
set_option maxHeartbeats 8000000 in
theorem WireMaps_any {w : World} {v xv : Value} {j x : J} {key : ByteArray} (ht : Tab w w.heap.size) (h : JX w (fun _ => True) v j) (hx : JX w (fun _ => True) xv x) (hb : sizeJ j + key.size + sizeJ x ≤ 3000000) : Calls Tryd.prog 10 #[v, .string key, xv] w fun e w' => e = .returned (.bool true) ∧ Keeps Nob w w' := by
 obtain ⟨jk, jb, jn, jt, ks, vs, kv, vv, rfl, rfl, hjk, hjv⟩ := h.open
 obtain ⟨kA, kc, rfl, -, hks⟩ := id hjk
 obtain ⟨vA, vc, u, rfl, -, hA, hv⟩ := id hjv
 obtain ⟨xk, xb, xn, xt, xks, xvs, xkv, xvv, hxe, rfl, hxk, hxv⟩ := hx.open
 obtain ⟨xA, xkc, rfl, -, -⟩ := id hxk
 obtain ⟨xB, xvc, xu, rfl, -, -, -⟩ := id hxv
 obtain ⟨kl, hkn⟩ : ∃ x, ks.length = x := ⟨_, rfl⟩
 obtain ⟨nv, hnv⟩ : ∃ x, vs.length = x := ⟨_, rfl⟩
 obtain ⟨xkl, hxkn⟩ : ∃ x, xks.length = x := ⟨_, rfl⟩
 obtain ⟨xvl, hxvn⟩ : ∃ x, xvs.length = x := ⟨_, rfl⟩
 have HKs := Lib.hid (show ∀ i, i < kl → ∃ b o, kA = some ⟨b, o, none⟩ ∧ w.cell? ⟨b, o + i, none⟩ = some (.string (ks.getD i ByteArray.empty)) from fun i hi => by
  obtain ⟨b, o, e, _, hc⟩ := hks i (by rw [hkn]; exact hi)
  exact ⟨b, o, e, hc⟩)
 have HA := Lib.hid (show ∀ i, i < nv → ∃ b o, vA = some ⟨b, o, none⟩ ∧ Six w b (o + i * 6) (u i 0) (u i 1) (u i 2) (u i 3) (u i 4) (u i 5) from fun i hi => by
  obtain ⟨b, o, e, _, h6⟩ := hA i (by rw [hnv]; exact hi)
  exact ⟨b, o, e, h6⟩)
 have HVu := Lib.hid (show ∀ i, i < nv → JX w (fun b => b < w.heap.size) (.agg #[u i 0, u i 1, u i 2, u i 3, u i 4, u i 5]) (vs.getD i default) from fun i hi => (hv i (by rw [hnv]; exact hi)).low)
 have hkl : kl ≤ 3000000 ∧ nv ≤ 3000000 := by
  have := size_len vs
  have hs2 : sizeJ (.mk jk jb jn jt ks vs) ≤ 3000000 := by omega
  unfold sizeJ at hs2
  omega
 have Hkl := Lib.hid hkl
 have Hln := Lib.hid (And.intro hkn hnv)
 have Hsz := Lib.hid (show sizeJ (J.mk jk jb jn jt ks vs) + sizeJ x + key.size ≤ 900000000 ∧ sizeJ (J.mk jk jb jn jt ks vs) ≤ 1000000000000 ∧ sizeJ x ≤ 1000000000000 by omega)
 have Hvs := Lib.hid (show ∀ i, i < nv → sizeJ (vs.getD i default) ≤ 1000000000000 from fun i hi => by
  have := size_get (vs := vs) (i := i) (by omega)
  have hs2 : sizeJ (.mk jk jb jn jt ks vs) ≤ 3000000 := by omega
  unfold sizeJ at hs2
  omega)
 have Hso := Lib.hid (show sizeJ (putOut key x (J.mk jk jb jn jt ks vs)) ≤ 1000000000 by have := putOut_size key x (J.mk jk jb jn jt ks vs); omega)
 rw [hkn] at h ⊢
 rw [hnv] at h ⊢
 rw [hxkn] at hx ⊢
 rw [hxvn] at hx ⊢
 have HVj := Lib.hid h.low
 have HVx := Lib.hid hx.low
 have HT := Lib.hid ht
 obtain ⟨i25, hi25, hs25⟩ := info25
 have HI := Lib.hid (And.intro hi25 hs25)
 have H12 := Lib.hid (fun (W' : World) (g9 : Nat) (hg : W'.heap[g9]? = some (.cells #[.int .i64 jk, .bool jb, .int .i64 jn, .string jt, .slice kA kl kc, .slice vA nv vc, .int .i64 xk, .bool xb, .int .i64 xn, .string xt, .slice xA xkl xkc, .slice xB xvl xvc] 25 (0, 0))) (hj : JX W' (fun b => b < w.heap.size) (.agg #[.int .i64 jk, .bool jb, .int .i64 jn, .string jt, .slice kA kl kc, .slice vA nv vc]) (J.mk jk jb jn jt ks vs)) (hx' : JX W' (fun b => b < w.heap.size) (.agg #[.int .i64 xk, .bool xb, .int .i64 xn, .string xt, .slice xA xkl xkc, .slice xB xvl xvc]) x) =>
  small12 (js2 (X := fun _ => True) hg trivial (hj.keep (Keeps.refl Nob W') (fun _ _ _ => id) (fun _ _ _ => trivial)) (hx'.keep (Keeps.refl Nob W') (fun _ _ _ => id) (fun _ _ _ => trivial))) (by simp only [List.mem_cons, List.not_mem_nil, or_false]; rintro j' (rfl | rfl) <;> omega) (by decide))
 clear h hx ht hjk hjv hks hA hv hxk hxv hkl hkn hnv hxkn hxvn hi25 hs25 hxe hb
 by_cases hsm : smallJ [J.mk jk jb jn jt ks vs, x] = true
 · have Hsm := Lib.hid hsm
   clear hsm
   by_cases hkey : key.size ≤ 3000
   · have hki : (key.size : Int) ≤ 3000 := by omega
     obtain ⟨P1, pe, hP⟩ : ∃ a b, putJ (J.mk jk jb jn jt ks vs) key x = (a, b) := ⟨_, _, rfl⟩
     obtain ⟨G1, ge, hG⟩ : ∃ a b, getJ (J.mk jk jb jn jt ks vs) key = (a, b) := ⟨_, _, rfl⟩
     have HszP := Lib.hid (show sizeJ P1 ≤ 1000000000000 by have := putJ_size (J.mk jk jb jn jt ks vs) key x; rw [hP] at this; have h2 := Hsz.out; have h3 : sizeJ P1 ≤ _ := this; omega)
     have HszG := Lib.hid (show sizeJ G1 ≤ 1000000000000 by have := getJ_size (J.mk jk jb jn jt ks vs) key; rw [hG] at this; have h2 := Hsz.out; have h3 : sizeJ G1 ≤ _ := this; omega)
     have Hszj := Lib.hid (show sizeJ (J.mk jk jb jn jt ks vs) ≤ 1000000000 by have := Hsz.out.1; omega)
     obtain ⟨sx, hsx⟩ : ∃ y, sameJ (J.mk jk jb jn jt ks vs) x = y := ⟨_, rfl⟩
     have HsX := Lib.hid hsx
     have HsJ := Lib.hid (show sameJ (J.mk jk jb jn jt ks vs) (J.mk jk jb jn jt ks vs) = true from (sameJ_iff _ _).2 rfl)
     have HsG := Lib.hid (show sameJ G1 G1 = true from (sameJ_iff _ _).2 rfl)
     have HsP := Lib.hid (show sameJ P1 P1 = true from (sameJ_iff _ _).2 rfl)
     have HP := Lib.hid hP
     have HGp := Lib.hid hG
     clear hP hG hkey hsx
     go_enter Tryd.func10, Tryd.ntmps10
     go_upto_region 1 with (first
      | ((with_reducible refine at_dst (N := 3) rfl ?_); go_must (refine ev_box (cs := #[.int .i64 jk, .bool jb, .int .i64 jn, .string jt, .slice kA kl kc, .slice vA nv vc]) rfl rfl rfl ?_; intro g3 w1 hg1 hl1 hb1 hk1)
         have Hb3 := Lib.hid hb1
         have Hg3 := Lib.hid (And.intro hg1 hl1)
         have HVj := Lib.hid (HVj.out.after hk1)
         have HVx := Lib.hid (HVx.out.after hk1)
         have HK := Lib.hid hk1
         clear hg1 hl1 hb1 hk1
         (try simp only [PU]))
      | ((with_reducible refine at_dst (N := 5) rfl ?_); go_must (refine ev_box (cs := #[.int .i64 xk, .bool xb, .int .i64 xn, .string xt, .slice xA xkl xkc, .slice xB xvl xvc]) rfl rfl rfl ?_; intro g5 w2 hg2 hl2 hb2 hk2)
         have Hgs := Lib.hid (show w.heap.size ≤ g3 ∧ g3 < g5 ∧ g5 < w2.heap.size from ⟨Hg3.out.1, Nat.lt_of_lt_of_le Hg3.out.2 hg2, hl2⟩)
         have HVj := Lib.hid (HVj.out.after hk2)
         have HVx := Lib.hid (HVx.out.after hk2)
         (try have Hb3 := Lib.hid (Keeps.blk hk2 Hb3.out id))
         (try have Hb5 := Lib.hid (Keeps.blk hk2 Hb5.out id))
         (try have Hb7 := Lib.hid (Keeps.blk hk2 Hb7.out id))
         (try have HVea := Lib.hid (JX.after HVea.out hk2))
         (try have Hb9 := Lib.hid (Keeps.blk hk2 Hb9.out id))
         (try have HVeb := Lib.hid (JX.after HVeb.out hk2))
         (try have Hb11 := Lib.hid (Keeps.blk hk2 Hb11.out id))
         (try have HVec := Lib.hid (JX.after HVec.out hk2))
         (try have Hb13 := Lib.hid (Keeps.blk hk2 Hb13.out id))
         (try have HVed := Lib.hid (JX.after HVed.out hk2))
         have HK := Lib.hid (HK.out.trans hk2 (fun _ _ h => h))
         have Hb5 := Lib.hid hb2
         clear hg2 hl2 hb2 hk2 Hg3
         (try simp only [PU]))
     )
     have s0 := (blk_cell Hb3.out 0).trans rfl
     have s1 := (blk_cell Hb3.out 1).trans rfl
     have s2 := (blk_cell Hb3.out 2).trans rfl
     have s3 := (blk_cell Hb3.out 3).trans rfl
     have s4 := (blk_cell Hb3.out 4).trans rfl
     have s5 := (blk_cell Hb3.out 5).trans rfl
     have r0 := (blk_cell Hb5.out 0).trans rfl
     have r1 := (blk_cell Hb5.out 1).trans rfl
     have r2 := (blk_cell Hb5.out 2).trans rfl
     have r3 := (blk_cell Hb5.out 3).trans rfl
     have r4 := (blk_cell Hb5.out 4).trans rfl
     have r5 := (blk_cell Hb5.out 5).trans rfl
     go_upto_if 24 with (first
      | ((with_reducible refine at_dst (N := 17) rfl ?_); go_must (refine ev_slice (cs := #[.int .i64 jk, .bool jb, .int .i64 jn, .string jt, .slice kA kl kc, .slice vA nv vc, .int .i64 xk, .bool xb, .int .i64 xn, .string xt, .slice xA xkl xkc, .slice xB xvl xvc]) (t := 25) (n := 2) (c := 2) rfl (by first | (go_simp; done) | (go_simp; rfl)) ?_; intro g17 w3 hg3 hl3 hb3 hk3)
         have Hbs := Lib.hid hb3
         have HVj := Lib.hid (HVj.out.after hk3)
         have HVx := Lib.hid (HVx.out.after hk3)
         (try have Hb3 := Lib.hid (Keeps.blk hk3 Hb3.out id))
         (try have Hb5 := Lib.hid (Keeps.blk hk3 Hb5.out id))
         (try have Hb7 := Lib.hid (Keeps.blk hk3 Hb7.out id))
         (try have HVea := Lib.hid (JX.after HVea.out hk3))
         (try have Hb9 := Lib.hid (Keeps.blk hk3 Hb9.out id))
         (try have HVeb := Lib.hid (JX.after HVeb.out hk3))
         (try have Hb11 := Lib.hid (Keeps.blk hk3 Hb11.out id))
         (try have HVec := Lib.hid (JX.after HVec.out hk3))
         (try have Hb13 := Lib.hid (Keeps.blk hk3 Hb13.out id))
         (try have HVed := Lib.hid (JX.after HVed.out hk3))
         have HK := Lib.hid (HK.out.trans hk3 (fun _ _ h => h))
         clear hg3 hl3 hb3 hk3 s0 s1 s2 s3 s4 s5 r0 r1 r2 r3 r4 r5
         (try simp only [PU]))
      | (go_at_call 12; go_must (refine (H12.out _ _ Hbs.out HVj.out HVx.out).mono ?_; rintro e w4 ⟨rfl, hk4⟩; rw [Hsm.out])
         have HVj := Lib.hid (HVj.out.after hk4)
         have HVx := Lib.hid (HVx.out.after hk4)
         (try have Hb3 := Lib.hid (Keeps.blk hk4 Hb3.out id))
         (try have Hb5 := Lib.hid (Keeps.blk hk4 Hb5.out id))
         (try have Hb7 := Lib.hid (Keeps.blk hk4 Hb7.out id))
         (try have HVea := Lib.hid (JX.after HVea.out hk4))
         (try have Hb9 := Lib.hid (Keeps.blk hk4 Hb9.out id))
         (try have HVeb := Lib.hid (JX.after HVeb.out hk4))
         (try have Hb11 := Lib.hid (Keeps.blk hk4 Hb11.out id))
         (try have HVec := Lib.hid (JX.after HVec.out hk4))
         (try have Hb13 := Lib.hid (Keeps.blk hk4 Hb13.out id))
         (try have HVed := Lib.hid (JX.after HVed.out hk4))
         have HK := Lib.hid (HK.out.trans hk4 (fun _ _ h => h))
         clear hk4 Hbs
         (try simp only [PU]))
     )
     go_upto_region 3 with fail
     have fv0 := (blk_cell Hb3.out 0).trans rfl
     have fv1 := (blk_cell Hb3.out 1).trans rfl
     have fv2 := (blk_cell Hb3.out 2).trans rfl
     have fv3 := (blk_cell Hb3.out 3).trans rfl
     have fv4 := (blk_cell Hb3.out 4).trans rfl
     have fv5 := (blk_cell Hb3.out 5).trans rfl
     go_upto_region 4 with (first
      | (go_at_call 30; go_must (refine (get30 HVj.out (Tab.after HT.out HK.out) Hszj.out).mono ?_; rw [HGp.out]; rintro e w8 ⟨⟨v8, he8, hv8⟩, hk8⟩; obtain ⟨eak, eao, ean, eat, eaks, eavs, eakv, eavv, hye, rfl, hyk, hyv⟩ := hv8.open; obtain ⟨eaA, eac, rfl, -, -⟩ := hyk; obtain ⟨eaB, ead, eau, rfl, -, -, -⟩ := hyv; obtain rfl : e = .returned (.tuple #[.agg #[.int .i64 eak, .bool eao, .int .i64 ean, .string eat, .slice eaA eaks.length eac, .slice eaB eavs.length ead], .int .i64 ge]) := he8)
         have Hsz8 := Lib.hid (show w.heap.size ≤ w8.heap.size from Nat.le_trans HK.out.size hk8.size)
         have HVj := Lib.hid (HVj.out.after hk8)
         have HVx := Lib.hid (HVx.out.after hk8)
         (try have Hb3 := Lib.hid (Keeps.blk hk8 Hb3.out id))
         (try have Hb5 := Lib.hid (Keeps.blk hk8 Hb5.out id))
         (try have Hb7 := Lib.hid (Keeps.blk hk8 Hb7.out id))
         (try have HVea := Lib.hid (JX.after HVea.out hk8))
         (try have Hb9 := Lib.hid (Keeps.blk hk8 Hb9.out id))
         (try have HVeb := Lib.hid (JX.after HVeb.out hk8))
         (try have Hb11 := Lib.hid (Keeps.blk hk8 Hb11.out id))
         (try have HVec := Lib.hid (JX.after HVec.out hk8))
         (try have Hb13 := Lib.hid (Keeps.blk hk8 Hb13.out id))
         (try have HVed := Lib.hid (JX.after HVed.out hk8))
         have HK := Lib.hid (HK.out.trans hk8 (fun _ _ h => h))
         have HVea := Lib.hid (show JX w8 (fun b => b < w8.heap.size) _ G1 from hv8.low)
         clear hk8 hv8 hye fv0 fv1 fv2 fv3 fv4 fv5
         generalize eaks.length = eal at *
         generalize eavs.length = eav at *
         (try simp only [PU]))
      | ((with_reducible refine at_dst (N := 7) rfl ?_); go_must (refine ev_alloc rfl rfl zero25 rfl ?_; intro g7 w9 hg6 hl6 hb6 hk6)
         have Hg7 := Lib.hid (show w.heap.size ≤ g7 ∧ g5 < g7 from ⟨Nat.le_trans HK.out.size hg6, Nat.lt_of_lt_of_le (blk_lt Hb5.out) hg6⟩)
         have HVea := Lib.hid (HVea.out.keep (X' := fun b => b < g7) hk6 (fun _ _ _ => id) (fun b hb hx => Nat.lt_of_lt_of_le hx hg6))
         have HVj := Lib.hid (HVj.out.after hk6)
         have HVx := Lib.hid (HVx.out.after hk6)
         (try have Hb3 := Lib.hid (Keeps.blk hk6 Hb3.out id))
         (try have Hb5 := Lib.hid (Keeps.blk hk6 Hb5.out id))
         (try have Hb7 := Lib.hid (Keeps.blk hk6 Hb7.out id))
         (try have HVea := Lib.hid (JX.after HVea.out hk6))
         (try have Hb9 := Lib.hid (Keeps.blk hk6 Hb9.out id))
         (try have HVeb := Lib.hid (JX.after HVeb.out hk6))
         (try have Hb11 := Lib.hid (Keeps.blk hk6 Hb11.out id))
         (try have HVec := Lib.hid (JX.after HVec.out hk6))
         (try have Hb13 := Lib.hid (Keeps.blk hk6 Hb13.out id))
         (try have HVed := Lib.hid (JX.after HVed.out hk6))
         have HK := Lib.hid (HK.out.trans hk6 (fun _ _ h => h))
         have Hb7 := Lib.hid hb6
         clear hg6 hl6 hb6 hk6
         (try simp only [PU]))
      | ((with_reducible refine at_store (t := 25) (p := 7) rfl ?_); go_must (refine ev_store (cs' := #[.int .i64 eak, .bool eao, .int .i64 ean, .string eat, .slice eaA eal eac, .slice eaB eav ead]) rfl rfl rfl rfl rfl rfl HI.out.1 HI.out.2 rfl Hb7.out (Nat.le_of_ble_eq_true rfl) rfl ?_; intro w17 hb7 hk7)
         have HVea := Lib.hid (HVea.out.keep (X' := fun b => b < g7) hk7 (fun b _ hb e => by omega) (fun _ _ h => h))
         have HVj := Lib.hid (HVj.out.keep (X' := fun b => b < w.heap.size) hk7 (fun b _ hb e => by have := Hg7.out; omega) (fun _ _ h => h))
         have HVx := Lib.hid (HVx.out.keep (X' := fun b => b < w.heap.size) hk7 (fun b _ hb e => by have := Hg7.out; omega) (fun _ _ h => h))
         have Hb3 := Lib.hid (hk7.blk Hb3.out (fun e : g3 = g7 => by have := Hg7.out; have := Hgs.out; omega))
         have Hb5 := Lib.hid (hk7.blk Hb5.out (fun e : g5 = g7 => by have := Hg7.out; omega))
         have HK := Lib.hid (show Keeps Nob w w17 from HK.out.trans hk7 (fun i hi e => by have := Hg7.out; omega))
         have Hb7 := Lib.hid hb7
         clear hb7 hk7
         (try simp only [PU]))
     )
     have fv0 := (blk_cell Hb3.out 0).trans rfl
     have fv1 := (blk_cell Hb3.out 1).trans rfl
     have fv2 := (blk_cell Hb3.out 2).trans rfl
     have fv3 := (blk_cell Hb3.out 3).trans rfl
     have fv4 := (blk_cell Hb3.out 4).trans rfl
     have fv5 := (blk_cell Hb3.out 5).trans rfl
     go_upto_region 5 with (first
      | (go_at_call 31; go_must (refine (get31 HVj.out (Tab.after HT.out HK.out) Hszj.out).mono ?_; rw [HGp.out]; rintro e w8 ⟨⟨v8, he8, hv8⟩, hk8⟩; obtain ⟨ebk, ebo, ebn, ebt, ebks, ebvs, ebkv, ebvv, hye, rfl, hyk, hyv⟩ := hv8.open; obtain ⟨ebA, ebc, rfl, -, -⟩ := hyk; obtain ⟨ebB, ebd, ebu, rfl, -, -, -⟩ := hyv; obtain rfl : e = .returned (.tuple #[.agg #[.int .i64 ebk, .bool ebo, .int .i64 ebn, .string ebt, .slice ebA ebks.length ebc, .slice ebB ebvs.length ebd], .int .i64 ge]) := he8)
         have Hsz8 := Lib.hid (show w.heap.size ≤ w8.heap.size from Nat.le_trans HK.out.size hk8.size)
         have HVj := Lib.hid (HVj.out.after hk8)
         have HVx := Lib.hid (HVx.out.after hk8)
         (try have Hb3 := Lib.hid (Keeps.blk hk8 Hb3.out id))
         (try have Hb5 := Lib.hid (Keeps.blk hk8 Hb5.out id))
         (try have Hb7 := Lib.hid (Keeps.blk hk8 Hb7.out id))
         (try have HVea := Lib.hid (JX.after HVea.out hk8))
         (try have Hb9 := Lib.hid (Keeps.blk hk8 Hb9.out id))
         (try have HVeb := Lib.hid (JX.after HVeb.out hk8))
         (try have Hb11 := Lib.hid (Keeps.blk hk8 Hb11.out id))
         (try have HVec := Lib.hid (JX.after HVec.out hk8))
         (try have Hb13 := Lib.hid (Keeps.blk hk8 Hb13.out id))
         (try have HVed := Lib.hid (JX.after HVed.out hk8))
         have HK := Lib.hid (HK.out.trans hk8 (fun _ _ h => h))
         have HVeb := Lib.hid (show JX w8 (fun b => b < w8.heap.size) _ G1 from hv8.low)
         clear hk8 hv8 hye fv0 fv1 fv2 fv3 fv4 fv5
         generalize ebks.length = ebl at *
         generalize ebvs.length = ebv at *
         (try simp only [PU]))
      | ((with_reducible refine at_dst (N := 9) rfl ?_); go_must (refine ev_alloc rfl rfl zero25 rfl ?_; intro g9 w9 hg6 hl6 hb6 hk6)
         have Hg9 := Lib.hid (show w.heap.size ≤ g9 ∧ g5 < g9 ∧ g7 < g9 from ⟨Nat.le_trans HK.out.size hg6, Nat.lt_of_lt_of_le (blk_lt Hb5.out) hg6, Nat.lt_of_lt_of_le (blk_lt Hb7.out) hg6⟩)
         have HVeb := Lib.hid (HVeb.out.keep (X' := fun b => b < g9) hk6 (fun _ _ _ => id) (fun b hb hx => Nat.lt_of_lt_of_le hx hg6))
         have HVj := Lib.hid (HVj.out.after hk6)
         have HVx := Lib.hid (HVx.out.after hk6)
         (try have Hb3 := Lib.hid (Keeps.blk hk6 Hb3.out id))
         (try have Hb5 := Lib.hid (Keeps.blk hk6 Hb5.out id))
         (try have Hb7 := Lib.hid (Keeps.blk hk6 Hb7.out id))
         (try have HVea := Lib.hid (JX.after HVea.out hk6))
         (try have Hb9 := Lib.hid (Keeps.blk hk6 Hb9.out id))
         (try have HVeb := Lib.hid (JX.after HVeb.out hk6))
         (try have Hb11 := Lib.hid (Keeps.blk hk6 Hb11.out id))
         (try have HVec := Lib.hid (JX.after HVec.out hk6))
         (try have Hb13 := Lib.hid (Keeps.blk hk6 Hb13.out id))
         (try have HVed := Lib.hid (JX.after HVed.out hk6))
         have HK := Lib.hid (HK.out.trans hk6 (fun _ _ h => h))
         have Hb9 := Lib.hid hb6
         clear hg6 hl6 hb6 hk6
         (try simp only [PU]))
      | ((with_reducible refine at_store (t := 25) (p := 9) rfl ?_); go_must (refine ev_store (cs' := #[.int .i64 ebk, .bool ebo, .int .i64 ebn, .string ebt, .slice ebA ebl ebc, .slice ebB ebv ebd]) rfl rfl rfl rfl rfl rfl HI.out.1 HI.out.2 rfl Hb9.out (Nat.le_of_ble_eq_true rfl) rfl ?_; intro w19 hb7 hk7)
         have HVeb := Lib.hid (HVeb.out.keep (X' := fun b => b < g9) hk7 (fun b _ hb e => by omega) (fun _ _ h => h))
         have HVea := Lib.hid (HVea.out.keep (X' := fun b => b < g7) hk7 (fun b _ hb e => by have := Hg9.out; omega) (fun _ _ h => h))
         have Hb7 := Lib.hid (hk7.blk Hb7.out (fun e : g7 = g9 => by have := Hg9.out; omega))
         have HVj := Lib.hid (HVj.out.keep (X' := fun b => b < w.heap.size) hk7 (fun b _ hb e => by have := Hg9.out; omega) (fun _ _ h => h))
         have HVx := Lib.hid (HVx.out.keep (X' := fun b => b < w.heap.size) hk7 (fun b _ hb e => by have := Hg9.out; omega) (fun _ _ h => h))
         have Hb3 := Lib.hid (hk7.blk Hb3.out (fun e : g3 = g9 => by have := Hg9.out; have := Hgs.out; omega))
         have Hb5 := Lib.hid (hk7.blk Hb5.out (fun e : g5 = g9 => by have := Hg9.out; omega))
         have HK := Lib.hid (show Keeps Nob w w19 from HK.out.trans hk7 (fun i hi e => by have := Hg9.out; omega))
         have Hb9 := Lib.hid hb7
         clear hb7 hk7
         (try simp only [PU]))
     )
     have fv0 := (blk_cell Hb3.out 0).trans rfl
     have fv1 := (blk_cell Hb3.out 1).trans rfl
     have fv2 := (blk_cell Hb3.out 2).trans rfl
     have fv3 := (blk_cell Hb3.out 3).trans rfl
     have fv4 := (blk_cell Hb3.out 4).trans rfl
     have fv5 := (blk_cell Hb3.out 5).trans rfl
     have fx0 := (blk_cell Hb5.out 0).trans rfl
     have fx1 := (blk_cell Hb5.out 1).trans rfl
     have fx2 := (blk_cell Hb5.out 2).trans rfl
     have fx3 := (blk_cell Hb5.out 3).trans rfl
     have fx4 := (blk_cell Hb5.out 4).trans rfl
     have fx5 := (blk_cell Hb5.out 5).trans rfl
     go_upto_region 6 with (first
      | (go_at_call 32; go_must (refine (put32 HVj.out HVx.out (Tab.after HT.out HK.out) Hsz.out.1).mono ?_; rw [HP.out]; rintro e w8 ⟨⟨v8, he8, hv8⟩, hk8⟩; obtain ⟨eck, eco, ecn, ect, ecks, ecvs, eckv, ecvv, hye, rfl, hyk, hyv⟩ := hv8.open; obtain ⟨ecA, ecc, rfl, -, -⟩ := hyk; obtain ⟨ecB, ecd, ecu, rfl, -, -, -⟩ := hyv; obtain rfl : e = .returned (.tuple #[.agg #[.int .i64 eck, .bool eco, .int .i64 ecn, .string ect, .slice ecA ecks.length ecc, .slice ecB ecvs.length ecd], .int .i64 pe]) := he8)
         have Hsz8 := Lib.hid (show w.heap.size ≤ w8.heap.size from Nat.le_trans HK.out.size hk8.size)
         have HVj := Lib.hid (HVj.out.after hk8)
         have HVx := Lib.hid (HVx.out.after hk8)
         (try have Hb3 := Lib.hid (Keeps.blk hk8 Hb3.out id))
         (try have Hb5 := Lib.hid (Keeps.blk hk8 Hb5.out id))
         (try have Hb7 := Lib.hid (Keeps.blk hk8 Hb7.out id))
         (try have HVea := Lib.hid (JX.after HVea.out hk8))
         (try have Hb9 := Lib.hid (Keeps.blk hk8 Hb9.out id))
         (try have HVeb := Lib.hid (JX.after HVeb.out hk8))
         (try have Hb11 := Lib.hid (Keeps.blk hk8 Hb11.out id))
         (try have HVec := Lib.hid (JX.after HVec.out hk8))
         (try have Hb13 := Lib.hid (Keeps.blk hk8 Hb13.out id))
         (try have HVed := Lib.hid (JX.after HVed.out hk8))
         have HK := Lib.hid (HK.out.trans hk8 (fun _ _ h => h))
         have HVec := Lib.hid (show JX w8 (fun b => b < w8.heap.size) _ P1 from hv8.low)
         clear hk8 hv8 hye fv0 fv1 fv2 fv3 fv4 fv5 fx0 fx1 fx2 fx3 fx4 fx5
         generalize ecks.length = ecl at *
         generalize ecvs.length = ecv at *
         (try simp only [PU]))
      | ((with_reducible refine at_dst (N := 11) rfl ?_); go_must (refine ev_alloc rfl rfl zero25 rfl ?_; intro g11 w9 hg6 hl6 hb6 hk6)
         have Hg11 := Lib.hid (show w.heap.size ≤ g11 ∧ g5 < g11 ∧ g7 < g11 ∧ g9 < g11 from ⟨Nat.le_trans HK.out.size hg6, Nat.lt_of_lt_of_le (blk_lt Hb5.out) hg6, Nat.lt_of_lt_of_le (blk_lt Hb7.out) hg6, Nat.lt_of_lt_of_le (blk_lt Hb9.out) hg6⟩)
         have HVec := Lib.hid (HVec.out.keep (X' := fun b => b < g11) hk6 (fun _ _ _ => id) (fun b hb hx => Nat.lt_of_lt_of_le hx hg6))
         have HVj := Lib.hid (HVj.out.after hk6)
         have HVx := Lib.hid (HVx.out.after hk6)
         (try have Hb3 := Lib.hid (Keeps.blk hk6 Hb3.out id))
         (try have Hb5 := Lib.hid (Keeps.blk hk6 Hb5.out id))
         (try have Hb7 := Lib.hid (Keeps.blk hk6 Hb7.out id))
         (try have HVea := Lib.hid (JX.after HVea.out hk6))
         (try have Hb9 := Lib.hid (Keeps.blk hk6 Hb9.out id))
         (try have HVeb := Lib.hid (JX.after HVeb.out hk6))
         (try have Hb11 := Lib.hid (Keeps.blk hk6 Hb11.out id))
         (try have HVec := Lib.hid (JX.after HVec.out hk6))
         (try have Hb13 := Lib.hid (Keeps.blk hk6 Hb13.out id))
         (try have HVed := Lib.hid (JX.after HVed.out hk6))
         have HK := Lib.hid (HK.out.trans hk6 (fun _ _ h => h))
         have Hb11 := Lib.hid hb6
         clear hg6 hl6 hb6 hk6
         (try simp only [PU]))
      | ((with_reducible refine at_store (t := 25) (p := 11) rfl ?_); go_must (refine ev_store (cs' := #[.int .i64 eck, .bool eco, .int .i64 ecn, .string ect, .slice ecA ecl ecc, .slice ecB ecv ecd]) rfl rfl rfl rfl rfl rfl HI.out.1 HI.out.2 rfl Hb11.out (Nat.le_of_ble_eq_true rfl) rfl ?_; intro w21 hb7 hk7)
         have HVec := Lib.hid (HVec.out.keep (X' := fun b => b < g11) hk7 (fun b _ hb e => by omega) (fun _ _ h => h))
         have HVea := Lib.hid (HVea.out.keep (X' := fun b => b < g7) hk7 (fun b _ hb e => by have := Hg11.out; omega) (fun _ _ h => h))
         have Hb7 := Lib.hid (hk7.blk Hb7.out (fun e : g7 = g11 => by have := Hg11.out; omega))
         have HVeb := Lib.hid (HVeb.out.keep (X' := fun b => b < g9) hk7 (fun b _ hb e => by have := Hg11.out; omega) (fun _ _ h => h))
         have Hb9 := Lib.hid (hk7.blk Hb9.out (fun e : g9 = g11 => by have := Hg11.out; omega))
         have HVj := Lib.hid (HVj.out.keep (X' := fun b => b < w.heap.size) hk7 (fun b _ hb e => by have := Hg11.out; omega) (fun _ _ h => h))
         have HVx := Lib.hid (HVx.out.keep (X' := fun b => b < w.heap.size) hk7 (fun b _ hb e => by have := Hg11.out; omega) (fun _ _ h => h))
         have Hb3 := Lib.hid (hk7.blk Hb3.out (fun e : g3 = g11 => by have := Hg11.out; have := Hgs.out; omega))
         have Hb5 := Lib.hid (hk7.blk Hb5.out (fun e : g5 = g11 => by have := Hg11.out; omega))
         have HK := Lib.hid (show Keeps Nob w w21 from HK.out.trans hk7 (fun i hi e => by have := Hg11.out; omega))
         have Hb11 := Lib.hid hb7
         clear hb7 hk7
         (try simp only [PU]))
     )
     have fv0 := (blk_cell Hb3.out 0).trans rfl
     have fv1 := (blk_cell Hb3.out 1).trans rfl
     have fv2 := (blk_cell Hb3.out 2).trans rfl
     have fv3 := (blk_cell Hb3.out 3).trans rfl
     have fv4 := (blk_cell Hb3.out 4).trans rfl
     have fv5 := (blk_cell Hb3.out 5).trans rfl
     have fx0 := (blk_cell Hb5.out 0).trans rfl
     have fx1 := (blk_cell Hb5.out 1).trans rfl
     have fx2 := (blk_cell Hb5.out 2).trans rfl
     have fx3 := (blk_cell Hb5.out 3).trans rfl
     have fx4 := (blk_cell Hb5.out 4).trans rfl
     have fx5 := (blk_cell Hb5.out 5).trans rfl
     go_upto_region 7 with (first
      | (go_at_call 33; go_must (refine (put33 HVj.out HVx.out (Tab.after HT.out HK.out) Hsz.out.1).mono ?_; rw [HP.out]; rintro e w8 ⟨⟨v8, he8, hv8⟩, hk8⟩; obtain ⟨edk, edo, edn, edt, edks, edvs, edkv, edvv, hye, rfl, hyk, hyv⟩ := hv8.open; obtain ⟨edA, edc, rfl, -, -⟩ := hyk; obtain ⟨edB, edd, edu, rfl, -, -, -⟩ := hyv; obtain rfl : e = .returned (.tuple #[.agg #[.int .i64 edk, .bool edo, .int .i64 edn, .string edt, .slice edA edks.length edc, .slice edB edvs.length edd], .int .i64 pe]) := he8)
         have Hsz8 := Lib.hid (show w.heap.size ≤ w8.heap.size from Nat.le_trans HK.out.size hk8.size)
         have HVj := Lib.hid (HVj.out.after hk8)
         have HVx := Lib.hid (HVx.out.after hk8)
         (try have Hb3 := Lib.hid (Keeps.blk hk8 Hb3.out id))
         (try have Hb5 := Lib.hid (Keeps.blk hk8 Hb5.out id))
         (try have Hb7 := Lib.hid (Keeps.blk hk8 Hb7.out id))
         (try have HVea := Lib.hid (JX.after HVea.out hk8))
         (try have Hb9 := Lib.hid (Keeps.blk hk8 Hb9.out id))
         (try have HVeb := Lib.hid (JX.after HVeb.out hk8))
         (try have Hb11 := Lib.hid (Keeps.blk hk8 Hb11.out id))
         (try have HVec := Lib.hid (JX.after HVec.out hk8))
         (try have Hb13 := Lib.hid (Keeps.blk hk8 Hb13.out id))
         (try have HVed := Lib.hid (JX.after HVed.out hk8))
         have HK := Lib.hid (HK.out.trans hk8 (fun _ _ h => h))
         have HVed := Lib.hid (show JX w8 (fun b => b < w8.heap.size) _ P1 from hv8.low)
         clear hk8 hv8 hye fv0 fv1 fv2 fv3 fv4 fv5 fx0 fx1 fx2 fx3 fx4 fx5
         generalize edks.length = edl at *
         generalize edvs.length = edv at *
         (try simp only [PU]))
      | ((with_reducible refine at_dst (N := 13) rfl ?_); go_must (refine ev_alloc rfl rfl zero25 rfl ?_; intro g13 w9 hg6 hl6 hb6 hk6)
         have Hg13 := Lib.hid (show w.heap.size ≤ g13 ∧ g5 < g13 ∧ g7 < g13 ∧ g9 < g13 ∧ g11 < g13 from ⟨Nat.le_trans HK.out.size hg6, Nat.lt_of_lt_of_le (blk_lt Hb5.out) hg6, Nat.lt_of_lt_of_le (blk_lt Hb7.out) hg6, Nat.lt_of_lt_of_le (blk_lt Hb9.out) hg6, Nat.lt_of_lt_of_le (blk_lt Hb11.out) hg6⟩)
         have HVed := Lib.hid (HVed.out.keep (X' := fun b => b < g13) hk6 (fun _ _ _ => id) (fun b hb hx => Nat.lt_of_lt_of_le hx hg6))
         have HVj := Lib.hid (HVj.out.after hk6)
         have HVx := Lib.hid (HVx.out.after hk6)
         (try have Hb3 := Lib.hid (Keeps.blk hk6 Hb3.out id))
         (try have Hb5 := Lib.hid (Keeps.blk hk6 Hb5.out id))
         (try have Hb7 := Lib.hid (Keeps.blk hk6 Hb7.out id))
         (try have HVea := Lib.hid (JX.after HVea.out hk6))
         (try have Hb9 := Lib.hid (Keeps.blk hk6 Hb9.out id))
         (try have HVeb := Lib.hid (JX.after HVeb.out hk6))
         (try have Hb11 := Lib.hid (Keeps.blk hk6 Hb11.out id))
         (try have HVec := Lib.hid (JX.after HVec.out hk6))
         (try have Hb13 := Lib.hid (Keeps.blk hk6 Hb13.out id))
         (try have HVed := Lib.hid (JX.after HVed.out hk6))
         have HK := Lib.hid (HK.out.trans hk6 (fun _ _ h => h))
         have Hb13 := Lib.hid hb6
         clear hg6 hl6 hb6 hk6
         (try simp only [PU]))
      | ((with_reducible refine at_store (t := 25) (p := 13) rfl ?_); go_must (refine ev_store (cs' := #[.int .i64 edk, .bool edo, .int .i64 edn, .string edt, .slice edA edl edc, .slice edB edv edd]) rfl rfl rfl rfl rfl rfl HI.out.1 HI.out.2 rfl Hb13.out (Nat.le_of_ble_eq_true rfl) rfl ?_; intro w23 hb7 hk7)
         have HVed := Lib.hid (HVed.out.keep (X' := fun b => b < g13) hk7 (fun b _ hb e => by omega) (fun _ _ h => h))
         have HVea := Lib.hid (HVea.out.keep (X' := fun b => b < g7) hk7 (fun b _ hb e => by have := Hg13.out; omega) (fun _ _ h => h))
         have Hb7 := Lib.hid (hk7.blk Hb7.out (fun e : g7 = g13 => by have := Hg13.out; omega))
         have HVeb := Lib.hid (HVeb.out.keep (X' := fun b => b < g9) hk7 (fun b _ hb e => by have := Hg13.out; omega) (fun _ _ h => h))
         have Hb9 := Lib.hid (hk7.blk Hb9.out (fun e : g9 = g13 => by have := Hg13.out; omega))
         have HVec := Lib.hid (HVec.out.keep (X' := fun b => b < g11) hk7 (fun b _ hb e => by have := Hg13.out; omega) (fun _ _ h => h))
         have Hb11 := Lib.hid (hk7.blk Hb11.out (fun e : g11 = g13 => by have := Hg13.out; omega))
         have HVj := Lib.hid (HVj.out.keep (X' := fun b => b < w.heap.size) hk7 (fun b _ hb e => by have := Hg13.out; omega) (fun _ _ h => h))
         have HVx := Lib.hid (HVx.out.keep (X' := fun b => b < w.heap.size) hk7 (fun b _ hb e => by have := Hg13.out; omega) (fun _ _ h => h))
         have Hb3 := Lib.hid (hk7.blk Hb3.out (fun e : g3 = g13 => by have := Hg13.out; have := Hgs.out; omega))
         have Hb5 := Lib.hid (hk7.blk Hb5.out (fun e : g5 = g13 => by have := Hg13.out; omega))
         have HK := Lib.hid (show Keeps Nob w w23 from HK.out.trans hk7 (fun i hi e => by have := Hg13.out; omega))
         have Hb13 := Lib.hid hb7
         clear hb7 hk7
         (try simp only [PU]))
     )
     have HKd := Lib.hid (Keeps.refl Nob w23).drew
     have HVj := Lib.hid (HVj.out.after HKd.out)
     have HVx := Lib.hid (HVx.out.after HKd.out)
     (try have Hb3 := Lib.hid (Keeps.blk HKd.out Hb3.out id))
     (try have Hb5 := Lib.hid (Keeps.blk HKd.out Hb5.out id))
     (try have Hb7 := Lib.hid (Keeps.blk HKd.out Hb7.out id))
     (try have HVea := Lib.hid (JX.after HVea.out HKd.out))
     (try have Hb9 := Lib.hid (Keeps.blk HKd.out Hb9.out id))
     (try have HVeb := Lib.hid (JX.after HVeb.out HKd.out))
     (try have Hb11 := Lib.hid (Keeps.blk HKd.out Hb11.out id))
     (try have HVec := Lib.hid (JX.after HVec.out HKd.out))
     (try have Hb13 := Lib.hid (Keeps.blk HKd.out Hb13.out id))
     (try have HVed := Lib.hid (JX.after HVed.out HKd.out))
     have HK := Lib.hid (HK.out.trans HKd.out (fun _ _ h => h))
     (try clear fv0 fv1 fv2 fv3 fv4 fv5 fx0 fx1 fx2 fx3 fx4 fx5 fea0 fea1 fea2 fea3 fea4 fea5 feb0 feb1 feb2 feb3 feb4 feb5 fec0 fec1 fec2 fec3 fec4 fec5 fed0 fed1 fed2 fed3 fed4 fed5)
     have fv0 := (blk_cell Hb3.out 0).trans rfl
     have fv1 := (blk_cell Hb3.out 1).trans rfl
     have fv2 := (blk_cell Hb3.out 2).trans rfl
     have fv3 := (blk_cell Hb3.out 3).trans rfl
     have fv4 := (blk_cell Hb3.out 4).trans rfl
     have fv5 := (blk_cell Hb3.out 5).trans rfl
     have fx0 := (blk_cell Hb5.out 0).trans rfl
     have fx1 := (blk_cell Hb5.out 1).trans rfl
     have fx2 := (blk_cell Hb5.out 2).trans rfl
     have fx3 := (blk_cell Hb5.out 3).trans rfl
     have fx4 := (blk_cell Hb5.out 4).trans rfl
     have fx5 := (blk_cell Hb5.out 5).trans rfl
     have fea0 := (blk_cell Hb7.out 0).trans rfl
     have fea1 := (blk_cell Hb7.out 1).trans rfl
     have fea2 := (blk_cell Hb7.out 2).trans rfl
     have fea3 := (blk_cell Hb7.out 3).trans rfl
     have fea4 := (blk_cell Hb7.out 4).trans rfl
     have fea5 := (blk_cell Hb7.out 5).trans rfl
     have feb0 := (blk_cell Hb9.out 0).trans rfl
     have feb1 := (blk_cell Hb9.out 1).trans rfl
     have feb2 := (blk_cell Hb9.out 2).trans rfl
     have feb3 := (blk_cell Hb9.out 3).trans rfl
     have feb4 := (blk_cell Hb9.out 4).trans rfl
     have feb5 := (blk_cell Hb9.out 5).trans rfl
     have fec0 := (blk_cell Hb11.out 0).trans rfl
     have fec1 := (blk_cell Hb11.out 1).trans rfl
     have fec2 := (blk_cell Hb11.out 2).trans rfl
     have fec3 := (blk_cell Hb11.out 3).trans rfl
     have fec4 := (blk_cell Hb11.out 4).trans rfl
     have fec5 := (blk_cell Hb11.out 5).trans rfl
     have fed0 := (blk_cell Hb13.out 0).trans rfl
     have fed1 := (blk_cell Hb13.out 1).trans rfl
     have fed2 := (blk_cell Hb13.out 2).trans rfl
     have fed3 := (blk_cell Hb13.out 3).trans rfl
     have fed4 := (blk_cell Hb13.out 4).trans rfl
     have fed5 := (blk_cell Hb13.out 5).trans rfl
     refine wp_region_perm [(0, true), (1, true), (2, true), (3, true), (4, true), (5, true), (6, false), (7, true), (8, true), (9, true), (10, true), (11, true), (12, true), (13, true), (14, true), (15, true), (16, false), (17, true), (18, true), (19, true), (20, true), (22, true), (23, true), (21, false), (24, false), (25, true), (26, true), (27, true), (28, true), (29, true), (30, false), (31, true), (32, true), (33, false), (34, true), (35, true)] (fun w' => w'.cell? ⟨g3, 0, none⟩ = some (.int .i64 jk) ∧ w'.cell? ⟨g3, 1, none⟩ = some (.bool jb) ∧ w'.cell? ⟨g3, 2, none⟩ = some (.int .i64 jn) ∧ w'.cell? ⟨g3, 3, none⟩ = some (.string jt) ∧ w'.cell? ⟨g3, 4, none⟩ = some (.slice kA kl kc) ∧ w'.cell? ⟨g3, 5, none⟩ = some (.slice vA nv vc) ∧ w'.cell? ⟨g5, 0, none⟩ = some (.int .i64 xk) ∧ w'.cell? ⟨g5, 1, none⟩ = some (.bool xb) ∧ w'.cell? ⟨g5, 2, none⟩ = some (.int .i64 xn) ∧ w'.cell? ⟨g5, 3, none⟩ = some (.string xt) ∧ w'.cell? ⟨g5, 4, none⟩ = some (.slice xA xkl xkc) ∧ w'.cell? ⟨g5, 5, none⟩ = some (.slice xB xvl xvc) ∧ w'.cell? ⟨g7, 0, none⟩ = some (.int .i64 eak) ∧ w'.cell? ⟨g7, 1, none⟩ = some (.bool eao) ∧ w'.cell? ⟨g7, 2, none⟩ = some (.int .i64 ean) ∧ w'.cell? ⟨g7, 3, none⟩ = some (.string eat) ∧ w'.cell? ⟨g7, 4, none⟩ = some (.slice eaA eal eac) ∧ w'.cell? ⟨g7, 5, none⟩ = some (.slice eaB eav ead) ∧ w'.cell? ⟨g9, 0, none⟩ = some (.int .i64 ebk) ∧ w'.cell? ⟨g9, 1, none⟩ = some (.bool ebo) ∧ w'.cell? ⟨g9, 2, none⟩ = some (.int .i64 ebn) ∧ w'.cell? ⟨g9, 3, none⟩ = some (.string ebt) ∧ w'.cell? ⟨g9, 4, none⟩ = some (.slice ebA ebl ebc) ∧ w'.cell? ⟨g9, 5, none⟩ = some (.slice ebB ebv ebd) ∧ w'.cell? ⟨g11, 0, none⟩ = some (.int .i64 eck) ∧ w'.cell? ⟨g11, 1, none⟩ = some (.bool eco) ∧ w'.cell? ⟨g11, 2, none⟩ = some (.int .i64 ecn) ∧ w'.cell? ⟨g11, 3, none⟩ = some (.string ect) ∧ w'.cell? ⟨g11, 4, none⟩ = some (.slice ecA ecl ecc) ∧ w'.cell? ⟨g11, 5, none⟩ = some (.slice ecB ecv ecd) ∧ w'.cell? ⟨g13, 0, none⟩ = some (.int .i64 edk) ∧ w'.cell? ⟨g13, 1, none⟩ = some (.bool edo) ∧ w'.cell? ⟨g13, 2, none⟩ = some (.int .i64 edn) ∧ w'.cell? ⟨g13, 3, none⟩ = some (.string edt) ∧ w'.cell? ⟨g13, 4, none⟩ = some (.slice edA edl edc) ∧ w'.cell? ⟨g13, 5, none⟩ = some (.slice edB edv edd)) rfl (by kernel_rfl) (by kernel_rfl) (by decide) (fun c a d v w h => by cases d <;> exact h) ⟨fv0, fv1, fv2, fv3, fv4, fv5, fx0, fx1, fx2, fx3, fx4, fx5, fea0, fea1, fea2, fea3, fea4, fea5, feb0, feb1, feb2, feb3, feb4, feb5, fec0, fec1, fec2, fec3, fec4, fec5, fed0, fed1, fed2, fed3, fed4, fed5⟩ ?_
     refine pq (some 52) ?_; (try simp only [PU])
     refine pq (some 53) ?_; (try simp only [PU])
     refine pq (some 54) ?_; (try simp only [PU])
     refine pq (some 55) ?_; (try simp only [PU])
     refine pq (some 56) ?_; (try simp only [PU])
     refine pq (some 57) ?_; (try simp only [PU])
     refine perm_e rfl ?_
     go_wp2_with (go_at_call 20; go_must (refine (same20 HVea.out _ _ HVeb.out _ (Keeps.refl Nob _) HszG.out HszG.out).mono ?_; rintro e w31 ⟨rfl, hk8⟩; rw [HsG.out]))
     have HVj := Lib.hid (HVj.out.after hk8)
     have HVx := Lib.hid (HVx.out.after hk8)
     (try have Hb3 := Lib.hid (Keeps.blk hk8 Hb3.out id))
     (try have Hb5 := Lib.hid (Keeps.blk hk8 Hb5.out id))
     (try have Hb7 := Lib.hid (Keeps.blk hk8 Hb7.out id))
     (try have HVea := Lib.hid (JX.after HVea.out hk8))
     (try have Hb9 := Lib.hid (Keeps.blk hk8 Hb9.out id))
     (try have HVeb := Lib.hid (JX.after HVeb.out hk8))
     (try have Hb11 := Lib.hid (Keeps.blk hk8 Hb11.out id))
     (try have HVec := Lib.hid (JX.after HVec.out hk8))
     (try have Hb13 := Lib.hid (Keeps.blk hk8 Hb13.out id))
     (try have HVed := Lib.hid (JX.after HVed.out hk8))
     have HK := Lib.hid (HK.out.trans hk8 (fun _ _ h => h))
     clear hk8
     (try simp only [PU])
     (try clear fv0 fv1 fv2 fv3 fv4 fv5 fx0 fx1 fx2 fx3 fx4 fx5 fea0 fea1 fea2 fea3 fea4 fea5 feb0 feb1 feb2 feb3 feb4 feb5 fec0 fec1 fec2 fec3 fec4 fec5 fed0 fed1 fed2 fed3 fed4 fed5)
     have fv0 := (blk_cell Hb3.out 0).trans rfl
     have fv1 := (blk_cell Hb3.out 1).trans rfl
     have fv2 := (blk_cell Hb3.out 2).trans rfl
     have fv3 := (blk_cell Hb3.out 3).trans rfl
     have fv4 := (blk_cell Hb3.out 4).trans rfl
     have fv5 := (blk_cell Hb3.out 5).trans rfl
     have fx0 := (blk_cell Hb5.out 0).trans rfl
     have fx1 := (blk_cell Hb5.out 1).trans rfl
     have fx2 := (blk_cell Hb5.out 2).trans rfl
     have fx3 := (blk_cell Hb5.out 3).trans rfl
     have fx4 := (blk_cell Hb5.out 4).trans rfl
     have fx5 := (blk_cell Hb5.out 5).trans rfl
     have fea0 := (blk_cell Hb7.out 0).trans rfl
     have fea1 := (blk_cell Hb7.out 1).trans rfl
     have fea2 := (blk_cell Hb7.out 2).trans rfl
     have fea3 := (blk_cell Hb7.out 3).trans rfl
     have fea4 := (blk_cell Hb7.out 4).trans rfl
     have fea5 := (blk_cell Hb7.out 5).trans rfl
     have feb0 := (blk_cell Hb9.out 0).trans rfl
     have feb1 := (blk_cell Hb9.out 1).trans rfl
     have feb2 := (blk_cell Hb9.out 2).trans rfl
     have feb3 := (blk_cell Hb9.out 3).trans rfl
     have feb4 := (blk_cell Hb9.out 4).trans rfl
     have feb5 := (blk_cell Hb9.out 5).trans rfl
     have fec0 := (blk_cell Hb11.out 0).trans rfl
     have fec1 := (blk_cell Hb11.out 1).trans rfl
     have fec2 := (blk_cell Hb11.out 2).trans rfl
     have fec3 := (blk_cell Hb11.out 3).trans rfl
     have fec4 := (blk_cell Hb11.out 4).trans rfl
     have fec5 := (blk_cell Hb11.out 5).trans rfl
     have fed0 := (blk_cell Hb13.out 0).trans rfl
     have fed1 := (blk_cell Hb13.out 1).trans rfl
     have fed2 := (blk_cell Hb13.out 2).trans rfl
     have fed3 := (blk_cell Hb13.out 3).trans rfl
     have fed4 := (blk_cell Hb13.out 4).trans rfl
     have fed5 := (blk_cell Hb13.out 5).trans rfl
     refine ⟨⟨fv0, fv1, fv2, fv3, fv4, fv5, fx0, fx1, fx2, fx3, fx4, fx5, fea0, fea1, fea2, fea3, fea4, fea5, feb0, feb1, feb2, feb3, feb4, feb5, fec0, fec1, fec2, fec3, fec4, fec5, fed0, fed1, fed2, fed3, fed4, fed5⟩, ?_⟩
     refine pq (some 59) ?_; (try simp only [PU])
     refine pq (some 60) ?_; (try simp only [PU])
     refine pq (some 61) ?_; (try simp only [PU])
     refine pq (some 62) ?_; (try simp only [PU])
     refine pq (some 63) ?_; (try simp only [PU])
     refine pq (some 64) ?_; (try simp only [PU])
     refine pq (some 65) ?_; (try simp only [PU])
     refine pq (some 66) ?_; (try simp only [PU])
     refine pq (some 67) ?_; (try simp only [PU])
     refine perm_e rfl ?_
     go_wp2_with (go_at_call 20; go_must (refine (same20 HVec.out _ _ HVed.out _ (Keeps.refl Nob _) HszP.out HszP.out).mono ?_; rintro e w32 ⟨rfl, hk8⟩; rw [HsP.out]))
     have HVj := Lib.hid (HVj.out.after hk8)
     have HVx := Lib.hid (HVx.out.after hk8)
     (try have Hb3 := Lib.hid (Keeps.blk hk8 Hb3.out id))
     (try have Hb5 := Lib.hid (Keeps.blk hk8 Hb5.out id))
     (try have Hb7 := Lib.hid (Keeps.blk hk8 Hb7.out id))
     (try have HVea := Lib.hid (JX.after HVea.out hk8))
     (try have Hb9 := Lib.hid (Keeps.blk hk8 Hb9.out id))
     (try have HVeb := Lib.hid (JX.after HVeb.out hk8))
     (try have Hb11 := Lib.hid (Keeps.blk hk8 Hb11.out id))
     (try have HVec := Lib.hid (JX.after HVec.out hk8))
     (try have Hb13 := Lib.hid (Keeps.blk hk8 Hb13.out id))
     (try have HVed := Lib.hid (JX.after HVed.out hk8))
     have HK := Lib.hid (HK.out.trans hk8 (fun _ _ h => h))
     clear hk8
     (try simp only [PU])
     (try clear fv0 fv1 fv2 fv3 fv4 fv5 fx0 fx1 fx2 fx3 fx4 fx5 fea0 fea1 fea2 fea3 fea4 fea5 feb0 feb1 feb2 feb3 feb4 feb5 fec0 fec1 fec2 fec3 fec4 fec5 fed0 fed1 fed2 fed3 fed4 fed5)
     have fv0 := (blk_cell Hb3.out 0).trans rfl
     have fv1 := (blk_cell Hb3.out 1).trans rfl
     have fv2 := (blk_cell Hb3.out 2).trans rfl
     have fv3 := (blk_cell Hb3.out 3).trans rfl
     have fv4 := (blk_cell Hb3.out 4).trans rfl
     have fv5 := (blk_cell Hb3.out 5).trans rfl
     have fx0 := (blk_cell Hb5.out 0).trans rfl
     have fx1 := (blk_cell Hb5.out 1).trans rfl
     have fx2 := (blk_cell Hb5.out 2).trans rfl
     have fx3 := (blk_cell Hb5.out 3).trans rfl
     have fx4 := (blk_cell Hb5.out 4).trans rfl
     have fx5 := (blk_cell Hb5.out 5).trans rfl
     have fea0 := (blk_cell Hb7.out 0).trans rfl
     have fea1 := (blk_cell Hb7.out 1).trans rfl
     have fea2 := (blk_cell Hb7.out 2).trans rfl
     have fea3 := (blk_cell Hb7.out 3).trans rfl
     have fea4 := (blk_cell Hb7.out 4).trans rfl
     have fea5 := (blk_cell Hb7.out 5).trans rfl
     have feb0 := (blk_cell Hb9.out 0).trans rfl
     have feb1 := (blk_cell Hb9.out 1).trans rfl
     have feb2 := (blk_cell Hb9.out 2).trans rfl
     have feb3 := (blk_cell Hb9.out 3).trans rfl
     have feb4 := (blk_cell Hb9.out 4).trans rfl
     have feb5 := (blk_cell Hb9.out 5).trans rfl
     have fec0 := (blk_cell Hb11.out 0).trans rfl
     have fec1 := (blk_cell Hb11.out 1).trans rfl
     have fec2 := (blk_cell Hb11.out 2).trans rfl
     have fec3 := (blk_cell Hb11.out 3).trans rfl
     have fec4 := (blk_cell Hb11.out 4).trans rfl
     have fec5 := (blk_cell Hb11.out 5).trans rfl
     have fed0 := (blk_cell Hb13.out 0).trans rfl
     have fed1 := (blk_cell Hb13.out 1).trans rfl
     have fed2 := (blk_cell Hb13.out 2).trans rfl
     have fed3 := (blk_cell Hb13.out 3).trans rfl
     have fed4 := (blk_cell Hb13.out 4).trans rfl
     have fed5 := (blk_cell Hb13.out 5).trans rfl
     refine ⟨⟨fv0, fv1, fv2, fv3, fv4, fv5, fx0, fx1, fx2, fx3, fx4, fx5, fea0, fea1, fea2, fea3, fea4, fea5, feb0, feb1, feb2, feb3, feb4, feb5, fec0, fec1, fec2, fec3, fec4, fec5, fed0, fed1, fed2, fed3, fed4, fed5⟩, ?_⟩
     refine pq (some 69) ?_; (try simp only [PU])
     refine pq (some 70) ?_; (try simp only [PU])
     refine pq (some 71) ?_; (try simp only [PU])
     refine pq (some 72) ?_; (try simp only [PU])
     refine pq (some 74) ?_; (try simp only [PU])
     refine pq (some 75) ?_; (try simp only [PU])
     refine perm_e rfl ?_
     go_wp2_with (go_at_call 23; go_must (refine (same23 HVj.out _ _ HVx.out _ (Keeps.refl Nob _) Hsz.out.2.1 Hsz.out.2.2).mono ?_; rintro e w33 ⟨rfl, hk8⟩; rw [HsX.out]))
     have HVj := Lib.hid (HVj.out.after hk8)
     have HVx := Lib.hid (HVx.out.after hk8)
     (try have Hb3 := Lib.hid (Keeps.blk hk8 Hb3.out id))
     (try have Hb5 := Lib.hid (Keeps.blk hk8 Hb5.out id))
     (try have Hb7 := Lib.hid (Keeps.blk hk8 Hb7.out id))
     (try have HVea := Lib.hid (JX.after HVea.out hk8))
     (try have Hb9 := Lib.hid (Keeps.blk hk8 Hb9.out id))
     (try have HVeb := Lib.hid (JX.after HVeb.out hk8))
     (try have Hb11 := Lib.hid (Keeps.blk hk8 Hb11.out id))
     (try have HVec := Lib.hid (JX.after HVec.out hk8))
     (try have Hb13 := Lib.hid (Keeps.blk hk8 Hb13.out id))
     (try have HVed := Lib.hid (JX.after HVed.out hk8))
     have HK := Lib.hid (HK.out.trans hk8 (fun _ _ h => h))
     clear hk8
     (try simp only [PU])
     (try clear fv0 fv1 fv2 fv3 fv4 fv5 fx0 fx1 fx2 fx3 fx4 fx5 fea0 fea1 fea2 fea3 fea4 fea5 feb0 feb1 feb2 feb3 feb4 feb5 fec0 fec1 fec2 fec3 fec4 fec5 fed0 fed1 fed2 fed3 fed4 fed5)
     have fv0 := (blk_cell Hb3.out 0).trans rfl
     have fv1 := (blk_cell Hb3.out 1).trans rfl
     have fv2 := (blk_cell Hb3.out 2).trans rfl
     have fv3 := (blk_cell Hb3.out 3).trans rfl
     have fv4 := (blk_cell Hb3.out 4).trans rfl
     have fv5 := (blk_cell Hb3.out 5).trans rfl
     have fx0 := (blk_cell Hb5.out 0).trans rfl
     have fx1 := (blk_cell Hb5.out 1).trans rfl
     have fx2 := (blk_cell Hb5.out 2).trans rfl
     have fx3 := (blk_cell Hb5.out 3).trans rfl
     have fx4 := (blk_cell Hb5.out 4).trans rfl
     have fx5 := (blk_cell Hb5.out 5).trans rfl
     have fea0 := (blk_cell Hb7.out 0).trans rfl
     have fea1 := (blk_cell Hb7.out 1).trans rfl
     have fea2 := (blk_cell Hb7.out 2).trans rfl
     have fea3 := (blk_cell Hb7.out 3).trans rfl
     have fea4 := (blk_cell Hb7.out 4).trans rfl
     have fea5 := (blk_cell Hb7.out 5).trans rfl
     have feb0 := (blk_cell Hb9.out 0).trans rfl
     have feb1 := (blk_cell Hb9.out 1).trans rfl
     have feb2 := (blk_cell Hb9.out 2).trans rfl
     have feb3 := (blk_cell Hb9.out 3).trans rfl
     have feb4 := (blk_cell Hb9.out 4).trans rfl
     have feb5 := (blk_cell Hb9.out 5).trans rfl
     have fec0 := (blk_cell Hb11.out 0).trans rfl
     have fec1 := (blk_cell Hb11.out 1).trans rfl
     have fec2 := (blk_cell Hb11.out 2).trans rfl
     have fec3 := (blk_cell Hb11.out 3).trans rfl
     have fec4 := (blk_cell Hb11.out 4).trans rfl
     have fec5 := (blk_cell Hb11.out 5).trans rfl
     have fed0 := (blk_cell Hb13.out 0).trans rfl
     have fed1 := (blk_cell Hb13.out 1).trans rfl
     have fed2 := (blk_cell Hb13.out 2).trans rfl
     have fed3 := (blk_cell Hb13.out 3).trans rfl
     have fed4 := (blk_cell Hb13.out 4).trans rfl
     have fed5 := (blk_cell Hb13.out 5).trans rfl
     refine ⟨⟨fv0, fv1, fv2, fv3, fv4, fv5, fx0, fx1, fx2, fx3, fx4, fx5, fea0, fea1, fea2, fea3, fea4, fea5, feb0, feb1, feb2, feb3, feb4, feb5, fec0, fec1, fec2, fec3, fec4, fec5, fed0, fed1, fed2, fed3, fed4, fed5⟩, ?_⟩
     refine perm_e rfl ?_
     go_wp2_with (go_at_call 20; go_must (refine (same20 HVj.out _ _ HVx.out _ (Keeps.refl Nob _) Hsz.out.2.1 Hsz.out.2.2).mono ?_; rintro e w34 ⟨rfl, hk8⟩; rw [HsX.out]))
     have HVj := Lib.hid (HVj.out.after hk8)
     have HVx := Lib.hid (HVx.out.after hk8)
     (try have Hb3 := Lib.hid (Keeps.blk hk8 Hb3.out id))
     (try have Hb5 := Lib.hid (Keeps.blk hk8 Hb5.out id))
     (try have Hb7 := Lib.hid (Keeps.blk hk8 Hb7.out id))
     (try have HVea := Lib.hid (JX.after HVea.out hk8))
     (try have Hb9 := Lib.hid (Keeps.blk hk8 Hb9.out id))
     (try have HVeb := Lib.hid (JX.after HVeb.out hk8))
     (try have Hb11 := Lib.hid (Keeps.blk hk8 Hb11.out id))
     (try have HVec := Lib.hid (JX.after HVec.out hk8))
     (try have Hb13 := Lib.hid (Keeps.blk hk8 Hb13.out id))
     (try have HVed := Lib.hid (JX.after HVed.out hk8))
     have HK := Lib.hid (HK.out.trans hk8 (fun _ _ h => h))
     clear hk8
     (try simp only [PU])
     (try clear fv0 fv1 fv2 fv3 fv4 fv5 fx0 fx1 fx2 fx3 fx4 fx5 fea0 fea1 fea2 fea3 fea4 fea5 feb0 feb1 feb2 feb3 feb4 feb5 fec0 fec1 fec2 fec3 fec4 fec5 fed0 fed1 fed2 fed3 fed4 fed5)
     have fv0 := (blk_cell Hb3.out 0).trans rfl
     have fv1 := (blk_cell Hb3.out 1).trans rfl
     have fv2 := (blk_cell Hb3.out 2).trans rfl
     have fv3 := (blk_cell Hb3.out 3).trans rfl
     have fv4 := (blk_cell Hb3.out 4).trans rfl
     have fv5 := (blk_cell Hb3.out 5).trans rfl
     have fx0 := (blk_cell Hb5.out 0).trans rfl
     have fx1 := (blk_cell Hb5.out 1).trans rfl
     have fx2 := (blk_cell Hb5.out 2).trans rfl
     have fx3 := (blk_cell Hb5.out 3).trans rfl
     have fx4 := (blk_cell Hb5.out 4).trans rfl
     have fx5 := (blk_cell Hb5.out 5).trans rfl
     have fea0 := (blk_cell Hb7.out 0).trans rfl
     have fea1 := (blk_cell Hb7.out 1).trans rfl
     have fea2 := (blk_cell Hb7.out 2).trans rfl
     have fea3 := (blk_cell Hb7.out 3).trans rfl
     have fea4 := (blk_cell Hb7.out 4).trans rfl
     have fea5 := (blk_cell Hb7.out 5).trans rfl
     have feb0 := (blk_cell Hb9.out 0).trans rfl
     have feb1 := (blk_cell Hb9.out 1).trans rfl
     have feb2 := (blk_cell Hb9.out 2).trans rfl
     have feb3 := (blk_cell Hb9.out 3).trans rfl
     have feb4 := (blk_cell Hb9.out 4).trans rfl
     have feb5 := (blk_cell Hb9.out 5).trans rfl
     have fec0 := (blk_cell Hb11.out 0).trans rfl
     have fec1 := (blk_cell Hb11.out 1).trans rfl
     have fec2 := (blk_cell Hb11.out 2).trans rfl
     have fec3 := (blk_cell Hb11.out 3).trans rfl
     have fec4 := (blk_cell Hb11.out 4).trans rfl
     have fec5 := (blk_cell Hb11.out 5).trans rfl
     have fed0 := (blk_cell Hb13.out 0).trans rfl
     have fed1 := (blk_cell Hb13.out 1).trans rfl
     have fed2 := (blk_cell Hb13.out 2).trans rfl
     have fed3 := (blk_cell Hb13.out 3).trans rfl
     have fed4 := (blk_cell Hb13.out 4).trans rfl
     have fed5 := (blk_cell Hb13.out 5).trans rfl
     refine ⟨⟨fv0, fv1, fv2, fv3, fv4, fv5, fx0, fx1, fx2, fx3, fx4, fx5, fea0, fea1, fea2, fea3, fea4, fea5, feb0, feb1, feb2, feb3, feb4, feb5, fec0, fec1, fec2, fec3, fec4, fec5, fed0, fed1, fed2, fed3, fed4, fed5⟩, ?_⟩
     refine pq (some 77) ?_; (try simp only [PU])
     refine pq (some 78) ?_; (try simp only [PU])
     refine pq (some 79) ?_; (try simp only [PU])
     refine pq (some 80) ?_; (try simp only [PU])
     refine pq (some 81) ?_; (try simp only [PU])
     refine perm_e rfl ?_
     go_wp2_with (go_at_call 23; go_must (refine (same23 HVj.out _ _ HVj.out _ (Keeps.refl Nob _) Hsz.out.2.1 Hsz.out.2.1).mono ?_; rintro e w35 ⟨rfl, hk8⟩; rw [HsJ.out]))
     have HVj := Lib.hid (HVj.out.after hk8)
     have HVx := Lib.hid (HVx.out.after hk8)
     (try have Hb3 := Lib.hid (Keeps.blk hk8 Hb3.out id))
     (try have Hb5 := Lib.hid (Keeps.blk hk8 Hb5.out id))
     (try have Hb7 := Lib.hid (Keeps.blk hk8 Hb7.out id))
     (try have HVea := Lib.hid (JX.after HVea.out hk8))
     (try have Hb9 := Lib.hid (Keeps.blk hk8 Hb9.out id))
     (try have HVeb := Lib.hid (JX.after HVeb.out hk8))
     (try have Hb11 := Lib.hid (Keeps.blk hk8 Hb11.out id))
     (try have HVec := Lib.hid (JX.after HVec.out hk8))
     (try have Hb13 := Lib.hid (Keeps.blk hk8 Hb13.out id))
     (try have HVed := Lib.hid (JX.after HVed.out hk8))
     have HK := Lib.hid (HK.out.trans hk8 (fun _ _ h => h))
     clear hk8
     (try simp only [PU])
     (try clear fv0 fv1 fv2 fv3 fv4 fv5 fx0 fx1 fx2 fx3 fx4 fx5 fea0 fea1 fea2 fea3 fea4 fea5 feb0 feb1 feb2 feb3 feb4 feb5 fec0 fec1 fec2 fec3 fec4 fec5 fed0 fed1 fed2 fed3 fed4 fed5)
     have fv0 := (blk_cell Hb3.out 0).trans rfl
     have fv1 := (blk_cell Hb3.out 1).trans rfl
     have fv2 := (blk_cell Hb3.out 2).trans rfl
     have fv3 := (blk_cell Hb3.out 3).trans rfl
     have fv4 := (blk_cell Hb3.out 4).trans rfl
     have fv5 := (blk_cell Hb3.out 5).trans rfl
     have fx0 := (blk_cell Hb5.out 0).trans rfl
     have fx1 := (blk_cell Hb5.out 1).trans rfl
     have fx2 := (blk_cell Hb5.out 2).trans rfl
     have fx3 := (blk_cell Hb5.out 3).trans rfl
     have fx4 := (blk_cell Hb5.out 4).trans rfl
     have fx5 := (blk_cell Hb5.out 5).trans rfl
     have fea0 := (blk_cell Hb7.out 0).trans rfl
     have fea1 := (blk_cell Hb7.out 1).trans rfl
     have fea2 := (blk_cell Hb7.out 2).trans rfl
     have fea3 := (blk_cell Hb7.out 3).trans rfl
     have fea4 := (blk_cell Hb7.out 4).trans rfl
     have fea5 := (blk_cell Hb7.out 5).trans rfl
     have feb0 := (blk_cell Hb9.out 0).trans rfl
     have feb1 := (blk_cell Hb9.out 1).trans rfl
     have feb2 := (blk_cell Hb9.out 2).trans rfl
     have feb3 := (blk_cell Hb9.out 3).trans rfl
     have feb4 := (blk_cell Hb9.out 4).trans rfl
     have feb5 := (blk_cell Hb9.out 5).trans rfl
     have fec0 := (blk_cell Hb11.out 0).trans rfl
     have fec1 := (blk_cell Hb11.out 1).trans rfl
     have fec2 := (blk_cell Hb11.out 2).trans rfl
     have fec3 := (blk_cell Hb11.out 3).trans rfl
     have fec4 := (blk_cell Hb11.out 4).trans rfl
     have fec5 := (blk_cell Hb11.out 5).trans rfl
     have fed0 := (blk_cell Hb13.out 0).trans rfl
     have fed1 := (blk_cell Hb13.out 1).trans rfl
     have fed2 := (blk_cell Hb13.out 2).trans rfl
     have fed3 := (blk_cell Hb13.out 3).trans rfl
     have fed4 := (blk_cell Hb13.out 4).trans rfl
     have fed5 := (blk_cell Hb13.out 5).trans rfl
     refine ⟨⟨fv0, fv1, fv2, fv3, fv4, fv5, fx0, fx1, fx2, fx3, fx4, fx5, fea0, fea1, fea2, fea3, fea4, fea5, feb0, feb1, feb2, feb3, feb4, feb5, fec0, fec1, fec2, fec3, fec4, fec5, fed0, fed1, fed2, fed3, fed4, fed5⟩, ?_⟩
     refine pq (some 83) ?_; (try simp only [PU])
     refine pq (some 84) ?_; (try simp only [PU])
     refine perm_e rfl ?_
     go_wp2_with (go_at_call 13; go_must (refine (alive13 (Tab.after HT.out HK.out)).mono ?_; rintro e w36 ⟨rfl, hk8⟩))
     have HVj := Lib.hid (HVj.out.after hk8)
     have HVx := Lib.hid (HVx.out.after hk8)
     (try have Hb3 := Lib.hid (Keeps.blk hk8 Hb3.out id))
     (try have Hb5 := Lib.hid (Keeps.blk hk8 Hb5.out id))
     (try have Hb7 := Lib.hid (Keeps.blk hk8 Hb7.out id))
     (try have HVea := Lib.hid (JX.after HVea.out hk8))
     (try have Hb9 := Lib.hid (Keeps.blk hk8 Hb9.out id))
     (try have HVeb := Lib.hid (JX.after HVeb.out hk8))
     (try have Hb11 := Lib.hid (Keeps.blk hk8 Hb11.out id))
     (try have HVec := Lib.hid (JX.after HVec.out hk8))
     (try have Hb13 := Lib.hid (Keeps.blk hk8 Hb13.out id))
     (try have HVed := Lib.hid (JX.after HVed.out hk8))
     have HK := Lib.hid (HK.out.trans hk8 (fun _ _ h => h))
     clear hk8
     (try simp only [PU])
     (try clear fv0 fv1 fv2 fv3 fv4 fv5 fx0 fx1 fx2 fx3 fx4 fx5 fea0 fea1 fea2 fea3 fea4 fea5 feb0 feb1 feb2 feb3 feb4 feb5 fec0 fec1 fec2 fec3 fec4 fec5 fed0 fed1 fed2 fed3 fed4 fed5)
     have fv0 := (blk_cell Hb3.out 0).trans rfl
     have fv1 := (blk_cell Hb3.out 1).trans rfl
     have fv2 := (blk_cell Hb3.out 2).trans rfl
     have fv3 := (blk_cell Hb3.out 3).trans rfl
     have fv4 := (blk_cell Hb3.out 4).trans rfl
     have fv5 := (blk_cell Hb3.out 5).trans rfl
     have fx0 := (blk_cell Hb5.out 0).trans rfl
     have fx1 := (blk_cell Hb5.out 1).trans rfl
     have fx2 := (blk_cell Hb5.out 2).trans rfl
     have fx3 := (blk_cell Hb5.out 3).trans rfl
     have fx4 := (blk_cell Hb5.out 4).trans rfl
     have fx5 := (blk_cell Hb5.out 5).trans rfl
     have fea0 := (blk_cell Hb7.out 0).trans rfl
     have fea1 := (blk_cell Hb7.out 1).trans rfl
     have fea2 := (blk_cell Hb7.out 2).trans rfl
     have fea3 := (blk_cell Hb7.out 3).trans rfl
     have fea4 := (blk_cell Hb7.out 4).trans rfl
     have fea5 := (blk_cell Hb7.out 5).trans rfl
     have feb0 := (blk_cell Hb9.out 0).trans rfl
     have feb1 := (blk_cell Hb9.out 1).trans rfl
     have feb2 := (blk_cell Hb9.out 2).trans rfl
     have feb3 := (blk_cell Hb9.out 3).trans rfl
     have feb4 := (blk_cell Hb9.out 4).trans rfl
     have feb5 := (blk_cell Hb9.out 5).trans rfl
     have fec0 := (blk_cell Hb11.out 0).trans rfl
     have fec1 := (blk_cell Hb11.out 1).trans rfl
     have fec2 := (blk_cell Hb11.out 2).trans rfl
     have fec3 := (blk_cell Hb11.out 3).trans rfl
     have fec4 := (blk_cell Hb11.out 4).trans rfl
     have fec5 := (blk_cell Hb11.out 5).trans rfl
     have fed0 := (blk_cell Hb13.out 0).trans rfl
     have fed1 := (blk_cell Hb13.out 1).trans rfl
     have fed2 := (blk_cell Hb13.out 2).trans rfl
     have fed3 := (blk_cell Hb13.out 3).trans rfl
     have fed4 := (blk_cell Hb13.out 4).trans rfl
     have fed5 := (blk_cell Hb13.out 5).trans rfl
     refine ⟨⟨fv0, fv1, fv2, fv3, fv4, fv5, fx0, fx1, fx2, fx3, fx4, fx5, fea0, fea1, fea2, fea3, fea4, fea5, feb0, feb1, feb2, feb3, feb4, feb5, fec0, fec1, fec2, fec3, fec4, fec5, fed0, fed1, fed2, fed3, fed4, fed5⟩, ?_⟩
     refine pq (some 86) ?_; (try simp only [PU])
     refine pq (some 6) ?_; (try simp only [PU])
     refine perm_nil ?_
     go_wp2
     go_ret
     exact ⟨rfl, HK.out⟩
   · have hki : ¬ (key.size : Int) ≤ 3000 := by omega
     clear hkey
     go_enter Tryd.func10, Tryd.ntmps10
     go_upto_region 1 with (first
      | ((with_reducible refine at_dst (N := 3) rfl ?_); go_must (refine ev_box (cs := #[.int .i64 jk, .bool jb, .int .i64 jn, .string jt, .slice kA kl kc, .slice vA nv vc]) rfl rfl rfl ?_; intro g3 w1 hg1 hl1 hb1 hk1)
         have Hb3 := Lib.hid hb1
         have Hg3 := Lib.hid (And.intro hg1 hl1)
         have HVj := Lib.hid (HVj.out.after hk1)
         have HVx := Lib.hid (HVx.out.after hk1)
         have HK := Lib.hid hk1
         clear hg1 hl1 hb1 hk1
         (try simp only [PU]))
      | ((with_reducible refine at_dst (N := 5) rfl ?_); go_must (refine ev_box (cs := #[.int .i64 xk, .bool xb, .int .i64 xn, .string xt, .slice xA xkl xkc, .slice xB xvl xvc]) rfl rfl rfl ?_; intro g5 w2 hg2 hl2 hb2 hk2)
         have Hgs := Lib.hid (show w.heap.size ≤ g3 ∧ g3 < g5 ∧ g5 < w2.heap.size from ⟨Hg3.out.1, Nat.lt_of_lt_of_le Hg3.out.2 hg2, hl2⟩)
         have HVj := Lib.hid (HVj.out.after hk2)
         have HVx := Lib.hid (HVx.out.after hk2)
         (try have Hb3 := Lib.hid (Keeps.blk hk2 Hb3.out id))
         (try have Hb5 := Lib.hid (Keeps.blk hk2 Hb5.out id))
         (try have Hb7 := Lib.hid (Keeps.blk hk2 Hb7.out id))
         (try have HVea := Lib.hid (JX.after HVea.out hk2))
         (try have Hb9 := Lib.hid (Keeps.blk hk2 Hb9.out id))
         (try have HVeb := Lib.hid (JX.after HVeb.out hk2))
         (try have Hb11 := Lib.hid (Keeps.blk hk2 Hb11.out id))
         (try have HVec := Lib.hid (JX.after HVec.out hk2))
         (try have Hb13 := Lib.hid (Keeps.blk hk2 Hb13.out id))
         (try have HVed := Lib.hid (JX.after HVed.out hk2))
         have HK := Lib.hid (HK.out.trans hk2 (fun _ _ h => h))
         have Hb5 := Lib.hid hb2
         clear hg2 hl2 hb2 hk2 Hg3
         (try simp only [PU]))
     )
     have s0 := (blk_cell Hb3.out 0).trans rfl
     have s1 := (blk_cell Hb3.out 1).trans rfl
     have s2 := (blk_cell Hb3.out 2).trans rfl
     have s3 := (blk_cell Hb3.out 3).trans rfl
     have s4 := (blk_cell Hb3.out 4).trans rfl
     have s5 := (blk_cell Hb3.out 5).trans rfl
     have r0 := (blk_cell Hb5.out 0).trans rfl
     have r1 := (blk_cell Hb5.out 1).trans rfl
     have r2 := (blk_cell Hb5.out 2).trans rfl
     have r3 := (blk_cell Hb5.out 3).trans rfl
     have r4 := (blk_cell Hb5.out 4).trans rfl
     have r5 := (blk_cell Hb5.out 5).trans rfl
     go_upto_if 24 with (first
      | ((with_reducible refine at_dst (N := 17) rfl ?_); go_must (refine ev_slice (cs := #[.int .i64 jk, .bool jb, .int .i64 jn, .string jt, .slice kA kl kc, .slice vA nv vc, .int .i64 xk, .bool xb, .int .i64 xn, .string xt, .slice xA xkl xkc, .slice xB xvl xvc]) (t := 25) (n := 2) (c := 2) rfl (by first | (go_simp; done) | (go_simp; rfl)) ?_; intro g17 w3 hg3 hl3 hb3 hk3)
         have Hbs := Lib.hid hb3
         have HVj := Lib.hid (HVj.out.after hk3)
         have HVx := Lib.hid (HVx.out.after hk3)
         (try have Hb3 := Lib.hid (Keeps.blk hk3 Hb3.out id))
         (try have Hb5 := Lib.hid (Keeps.blk hk3 Hb5.out id))
         (try have Hb7 := Lib.hid (Keeps.blk hk3 Hb7.out id))
         (try have HVea := Lib.hid (JX.after HVea.out hk3))
         (try have Hb9 := Lib.hid (Keeps.blk hk3 Hb9.out id))
         (try have HVeb := Lib.hid (JX.after HVeb.out hk3))
         (try have Hb11 := Lib.hid (Keeps.blk hk3 Hb11.out id))
         (try have HVec := Lib.hid (JX.after HVec.out hk3))
         (try have Hb13 := Lib.hid (Keeps.blk hk3 Hb13.out id))
         (try have HVed := Lib.hid (JX.after HVed.out hk3))
         have HK := Lib.hid (HK.out.trans hk3 (fun _ _ h => h))
         clear hg3 hl3 hb3 hk3 s0 s1 s2 s3 s4 s5 r0 r1 r2 r3 r4 r5
         (try simp only [PU]))
      | (go_at_call 12; go_must (refine (H12.out _ _ Hbs.out HVj.out HVx.out).mono ?_; rintro e w4 ⟨rfl, hk4⟩; rw [Hsm.out])
         have HVj := Lib.hid (HVj.out.after hk4)
         have HVx := Lib.hid (HVx.out.after hk4)
         (try have Hb3 := Lib.hid (Keeps.blk hk4 Hb3.out id))
         (try have Hb5 := Lib.hid (Keeps.blk hk4 Hb5.out id))
         (try have Hb7 := Lib.hid (Keeps.blk hk4 Hb7.out id))
         (try have HVea := Lib.hid (JX.after HVea.out hk4))
         (try have Hb9 := Lib.hid (Keeps.blk hk4 Hb9.out id))
         (try have HVeb := Lib.hid (JX.after HVeb.out hk4))
         (try have Hb11 := Lib.hid (Keeps.blk hk4 Hb11.out id))
         (try have HVec := Lib.hid (JX.after HVec.out hk4))
         (try have Hb13 := Lib.hid (Keeps.blk hk4 Hb13.out id))
         (try have HVed := Lib.hid (JX.after HVed.out hk4))
         have HK := Lib.hid (HK.out.trans hk4 (fun _ _ h => h))
         clear hk4 Hbs
         (try simp only [PU]))
     )
     go_wp2_with (first
      | (go_at_call 13; go_must (refine (alive13 (Tab.after HT.out HK.out)).mono ?_; rintro e w99 ⟨rfl, hk99⟩); have HKz := Lib.hid (HK.out.trans hk99 (fun _ _ h => h)); clear hk99; (try simp only [PU]))
     )
     go_ret
     exact ⟨rfl, HKz.out⟩
 · have Hsm := Lib.hid (Bool.eq_false_iff.2 hsm)
   clear hsm
   go_enter Tryd.func10, Tryd.ntmps10
   go_upto_region 1 with (first
    | ((with_reducible refine at_dst (N := 3) rfl ?_); go_must (refine ev_box (cs := #[.int .i64 jk, .bool jb, .int .i64 jn, .string jt, .slice kA kl kc, .slice vA nv vc]) rfl rfl rfl ?_; intro g3 w1 hg1 hl1 hb1 hk1)
       have Hb3 := Lib.hid hb1
       have Hg3 := Lib.hid (And.intro hg1 hl1)
       have HVj := Lib.hid (HVj.out.after hk1)
       have HVx := Lib.hid (HVx.out.after hk1)
       have HK := Lib.hid hk1
       clear hg1 hl1 hb1 hk1
       (try simp only [PU]))
    | ((with_reducible refine at_dst (N := 5) rfl ?_); go_must (refine ev_box (cs := #[.int .i64 xk, .bool xb, .int .i64 xn, .string xt, .slice xA xkl xkc, .slice xB xvl xvc]) rfl rfl rfl ?_; intro g5 w2 hg2 hl2 hb2 hk2)
       have Hgs := Lib.hid (show w.heap.size ≤ g3 ∧ g3 < g5 ∧ g5 < w2.heap.size from ⟨Hg3.out.1, Nat.lt_of_lt_of_le Hg3.out.2 hg2, hl2⟩)
       have HVj := Lib.hid (HVj.out.after hk2)
       have HVx := Lib.hid (HVx.out.after hk2)
       (try have Hb3 := Lib.hid (Keeps.blk hk2 Hb3.out id))
       (try have Hb5 := Lib.hid (Keeps.blk hk2 Hb5.out id))
       (try have Hb7 := Lib.hid (Keeps.blk hk2 Hb7.out id))
       (try have HVea := Lib.hid (JX.after HVea.out hk2))
       (try have Hb9 := Lib.hid (Keeps.blk hk2 Hb9.out id))
       (try have HVeb := Lib.hid (JX.after HVeb.out hk2))
       (try have Hb11 := Lib.hid (Keeps.blk hk2 Hb11.out id))
       (try have HVec := Lib.hid (JX.after HVec.out hk2))
       (try have Hb13 := Lib.hid (Keeps.blk hk2 Hb13.out id))
       (try have HVed := Lib.hid (JX.after HVed.out hk2))
       have HK := Lib.hid (HK.out.trans hk2 (fun _ _ h => h))
       have Hb5 := Lib.hid hb2
       clear hg2 hl2 hb2 hk2 Hg3
       (try simp only [PU]))
   )
   have s0 := (blk_cell Hb3.out 0).trans rfl
   have s1 := (blk_cell Hb3.out 1).trans rfl
   have s2 := (blk_cell Hb3.out 2).trans rfl
   have s3 := (blk_cell Hb3.out 3).trans rfl
   have s4 := (blk_cell Hb3.out 4).trans rfl
   have s5 := (blk_cell Hb3.out 5).trans rfl
   have r0 := (blk_cell Hb5.out 0).trans rfl
   have r1 := (blk_cell Hb5.out 1).trans rfl
   have r2 := (blk_cell Hb5.out 2).trans rfl
   have r3 := (blk_cell Hb5.out 3).trans rfl
   have r4 := (blk_cell Hb5.out 4).trans rfl
   have r5 := (blk_cell Hb5.out 5).trans rfl
   go_upto_if 24 with (first
    | ((with_reducible refine at_dst (N := 17) rfl ?_); go_must (refine ev_slice (cs := #[.int .i64 jk, .bool jb, .int .i64 jn, .string jt, .slice kA kl kc, .slice vA nv vc, .int .i64 xk, .bool xb, .int .i64 xn, .string xt, .slice xA xkl xkc, .slice xB xvl xvc]) (t := 25) (n := 2) (c := 2) rfl (by first | (go_simp; done) | (go_simp; rfl)) ?_; intro g17 w3 hg3 hl3 hb3 hk3)
       have Hbs := Lib.hid hb3
       have HVj := Lib.hid (HVj.out.after hk3)
       have HVx := Lib.hid (HVx.out.after hk3)
       (try have Hb3 := Lib.hid (Keeps.blk hk3 Hb3.out id))
       (try have Hb5 := Lib.hid (Keeps.blk hk3 Hb5.out id))
       (try have Hb7 := Lib.hid (Keeps.blk hk3 Hb7.out id))
       (try have HVea := Lib.hid (JX.after HVea.out hk3))
       (try have Hb9 := Lib.hid (Keeps.blk hk3 Hb9.out id))
       (try have HVeb := Lib.hid (JX.after HVeb.out hk3))
       (try have Hb11 := Lib.hid (Keeps.blk hk3 Hb11.out id))
       (try have HVec := Lib.hid (JX.after HVec.out hk3))
       (try have Hb13 := Lib.hid (Keeps.blk hk3 Hb13.out id))
       (try have HVed := Lib.hid (JX.after HVed.out hk3))
       have HK := Lib.hid (HK.out.trans hk3 (fun _ _ h => h))
       clear hg3 hl3 hb3 hk3 s0 s1 s2 s3 s4 s5 r0 r1 r2 r3 r4 r5
       (try simp only [PU]))
    | (go_at_call 12; go_must (refine (H12.out _ _ Hbs.out HVj.out HVx.out).mono ?_; rintro e w4 ⟨rfl, hk4⟩; rw [Hsm.out])
       have HVj := Lib.hid (HVj.out.after hk4)
       have HVx := Lib.hid (HVx.out.after hk4)
       (try have Hb3 := Lib.hid (Keeps.blk hk4 Hb3.out id))
       (try have Hb5 := Lib.hid (Keeps.blk hk4 Hb5.out id))
       (try have Hb7 := Lib.hid (Keeps.blk hk4 Hb7.out id))
       (try have HVea := Lib.hid (JX.after HVea.out hk4))
       (try have Hb9 := Lib.hid (Keeps.blk hk4 Hb9.out id))
       (try have HVeb := Lib.hid (JX.after HVeb.out hk4))
       (try have Hb11 := Lib.hid (Keeps.blk hk4 Hb11.out id))
       (try have HVec := Lib.hid (JX.after HVec.out hk4))
       (try have Hb13 := Lib.hid (Keeps.blk hk4 Hb13.out id))
       (try have HVed := Lib.hid (JX.after HVed.out hk4))
       have HK := Lib.hid (HK.out.trans hk4 (fun _ _ h => h))
       clear hk4 Hbs
       (try simp only [PU]))
   )
   go_wp2_with (first
    | (go_at_call 13; go_must (refine (alive13 (Tab.after HT.out HK.out)).mono ?_; rintro e w99 ⟨rfl, hk99⟩); have HKz := Lib.hid (HK.out.trans hk99 (fun _ _ h => h)); clear hk99; (try simp only [PU]))
   )
   go_ret
   exact ⟨rfl, HKz.out⟩
end Go.Proofs.WV

namespace Go.Proofs.YtcmmnbipaemgiaaDoor.base
open Go.ChangeShapes Go.WideShapes Go.ChangeAt Go.RowKit
set_option maxRecDepth 100000

theorem post_of_old {H : Type} {enc : TypeId × Value → H} {P : Program} {f : Func} {s : ChangeSpec} {apart fresh handsOn again : Bool} {W W' : World} {args : Array Value} {v : Value} {ds gs : List (DataW H)} {before pa pv : List MemPlace}
  (hW : DataW.Whole enc P f.params.toList s.vars apart W args.toList ds gs before)
  (hres : ∀ (b : Nat) (sp : Nat → Bool) (hd : Bool), DataW.TrodAll enc P W' b sp hd f.resultTypes.toList (v.resultList f.resultTypes.size) (s.fn H (ds ++ gs)).results [])
  (hargs : ∀ sp : Nat → Bool, (∀ p ∈ before, sp p.block = true) → DataW.TrodAll enc P W' 0 sp true f.params.toList args.toList (s.fn H (ds ++ gs)).args pa)
  (hvars : ∀ sp : Nat → Bool, (∀ p ∈ before, sp p.block = true) → DataW.TrodVars enc P W' sp s.vars (s.fn H (ds ++ gs)).vars pv)
  (hps : before = pa ++ pv) (hb : Below W.heap.size W W')
  (hok : ∀ (j : Nat) (t : TypeId) (r : Value), f.resultTypes[j]? = some t → (v.resultList f.resultTypes.size)[j]? = some r → Value.okWide P W' .any 0 t r) :
  s.post enc P f apart fresh handsOn again W args v W' := by
 have hlt := hW.lt
 have hold : ∀ p ∈ before, (fun b => decide (b < W.heap.size)) p.block = true := fun p hp => by simpa using hlt p hp
 refine ⟨ds, gs, before, [], pa, pv, hW, hres _ _ _, hargs _ hold, hvars _ hold, World.keptBut_mono (fun p hp => ⟨hp, ?_⟩) (hb.frame (· ∈ before)), fun _ => ?_⟩
 · rw [hps, List.mem_append] at hp
   exact Or.inr hp
 · obtain ⟨_, _, _, _, _, hz, hn⟩ := hW
   refine ⟨hok, _, _, ([] ++ pa) ++ pv, ⟨[] ++ pa, pv, trodAll_append (hargs _ (fun _ _ => rfl)) (hres _ _ _), hvars _ (fun _ _ => rfl), rfl, ?_, ?_⟩, ?_⟩
   · intro b off hp
     have hp' : MemPlace.cell b off ∈ before := by rw [hps]; simpa using hp
     rw [hb.frozen (p := ⟨b, off, none⟩) (hlt _ hp')]
     exact hz b off hp'
   · intro ha
     have := hn ha
     rw [hps] at this
     simpa using this
   · intro p hp _
     rw [hps]
     simpa using hp
theorem own : ownKnob Tryd.prog.godebug = none := by kernel_rfl

theorem laidOut : laidOutB Tryd.prog = true := by kernel_rfl
theorem arg_stays {H : Type} {enc : TypeId × Value → H} {W : World} {t : TypeId} (hr : Tryd.prog.readableRec t = true) (hrow : t < Tryd.prog.types.size) {W' : World} {sp' : Nat → Bool} {v : Value} {d : DataW H} {ps : List MemPlace} (h : DataW.Trod enc Tryd.prog W 0 (fun _ => true) true t v d ps) (hk : Go.Proofs.KL.Keeps Go.Proofs.KL.Nob W W')
  (hlt : ∀ p ∈ ps, p.block < W.heap.size) (hs : ∀ p ∈ ps, sp' p.block = true) : DataW.Trod enc Tryd.prog W' 0 sp' true t v d ps :=
 WideElems.Trod_stays laidOut hr hrow h (fun p hp => hk.below.same (hlt p hp)) hs
theorem gPow : Tryd.prog.globalNamed "internal/strconv.uint64pow10" = some 0 := by kernel_rfl
theorem gPowType : (Tryd.prog.globals[0]?).map (·.type) = some 130 := by kernel_rfl
theorem cells120 : Tryd.prog.cellsOf 120 = 1 := by kernel_rfl
theorem cells130 : Tryd.prog.cellsOf 130 = 20 := by kernel_rfl
theorem pow10_lit : (Rows.laid_internal_strconv_uint64pow10 : DataW Unit) = Lib.tabData .u64 Lib.pow10Tab := by rfl
theorem tab_of_laid {W : World} (h : laidMet Tryd.prog [("math/bits.deBruijn32tab", Rows.laid_math_bits_deBruijn32tab), ("math/bits.deBruijn64tab", Rows.laid_math_bits_deBruijn64tab), ("internal/strconv.uint64pow10", Rows.laid_internal_strconv_uint64pow10)] W) : Go.Proofs.WV.Tab W W.heap.size := by
 obtain ⟨ps, ⟨_, _, _, _, _, _, _, _, _, _, ⟨_, _, _, _, _, _, _, _, _, _, ⟨g', t', cs, fuel, p, q, hg', ht', hvar, hd, _, _⟩, _⟩, _⟩, _⟩ := h
 obtain rfl := Option.some.inj (gPow.symm.trans hg')
 obtain rfl := Option.some.inj (gPowType.symm.trans ht')
 have htab : Lib.TabIs Tryd.prog W "internal/strconv.uint64pow10" .u64 Lib.pow10Tab := by
  unfold Lib.TabIs
  rw [hvar, ← Lib.cells_of_tab Tryd.underlying130 Tryd.underlying120 cells120 cells130 (pow10_lit ▸ hd)]
 exact ⟨0, gPow, World.block_lt_of_cell? _ _ (htab.cell gPow 0 (by decide)), htab⟩
def setTab (cs : Array Value) : Obj → Obj
 | .cells _ t frozen => .cells cs t frozen
 | o => o
noncomputable def laidWorld (os : Os) : World :=
 { World.holding Tryd.prog os ⟨#[], #[], []⟩ with heap := (((World.holding Tryd.prog os ⟨#[], #[], []⟩).heap.modify 0 (setTab #[.int .u64 1, .int .u64 10, .int .u64 100, .int .u64 1000, .int .u64 10000, .int .u64 100000, .int .u64 1000000, .int .u64 10000000, .int .u64 100000000, .int .u64 1000000000, .int .u64 10000000000, .int .u64 100000000000, .int .u64 1000000000000, .int .u64 10000000000000, .int .u64 100000000000000, .int .u64 1000000000000000, .int .u64 10000000000000000, .int .u64 100000000000000000, .int .u64 1000000000000000000, .int .u64 10000000000000000000])).modify 2 (setTab #[.int .u8 0, .int .u8 1, .int .u8 28, .int .u8 2, .int .u8 29, .int .u8 14, .int .u8 24, .int .u8 3, .int .u8 30, .int .u8 22, .int .u8 20, .int .u8 15, .int .u8 25, .int .u8 17, .int .u8 4, .int .u8 8, .int .u8 31, .int .u8 27, .int .u8 13, .int .u8 23, .int .u8 21, .int .u8 19, .int .u8 16, .int .u8 7, .int .u8 26, .int .u8 12, .int .u8 18, .int .u8 6, .int .u8 11, .int .u8 5, .int .u8 10, .int .u8 9])).modify 3 (setTab #[.int .u8 0, .int .u8 1, .int .u8 56, .int .u8 2, .int .u8 57, .int .u8 49, .int .u8 28, .int .u8 3, .int .u8 61, .int .u8 58, .int .u8 42, .int .u8 50, .int .u8 38, .int .u8 29, .int .u8 17, .int .u8 4, .int .u8 62, .int .u8 47, .int .u8 59, .int .u8 36, .int .u8 45, .int .u8 43, .int .u8 51, .int .u8 22, .int .u8 53, .int .u8 39, .int .u8 33, .int .u8 30, .int .u8 24, .int .u8 18, .int .u8 12, .int .u8 5, .int .u8 63, .int .u8 55, .int .u8 48, .int .u8 27, .int .u8 60, .int .u8 41, .int .u8 37, .int .u8 16, .int .u8 46, .int .u8 35, .int .u8 44, .int .u8 21, .int .u8 52, .int .u8 32, .int .u8 23, .int .u8 11, .int .u8 54, .int .u8 26, .int .u8 40, .int .u8 15, .int .u8 34, .int .u8 20, .int .u8 31, .int .u8 10, .int .u8 25, .int .u8 14, .int .u8 19, .int .u8 9, .int .u8 13, .int .u8 8, .int .u8 7, .int .u8 6]) }
end Go.Proofs.YtcmmnbipaemgiaaDoor.base

namespace Go.Proofs.WV
open Go.RowKit Go.Proofs.KL Go.Proofs.WM Go.ChangeShapes Go.Proofs.YtcmmnbipaemgiaaDoor
set_option maxRecDepth 100000
set_option linter.unusedVariables false

theorem spot_none {w : World} {a : Addr} {v : Value} (h : w.cell? a = some v) : ∃ b o, a = ⟨b, o, none⟩ := by
 obtain ⟨b, o, s⟩ := a
 cases s with
 | none => exact ⟨b, o, rfl⟩
 | some x => unfold World.cell? at h; simp only [Option.isSome_some, if_true] at h; split at h <;> cases h
theorem add_at (b o i : Nat) : (⟨b, o, none⟩ : Addr).add i = ⟨b, o + i, none⟩ := by
 unfold Addr.add
 split
 · rename_i h; subst h; rfl
 · rfl
theorem list_of {α : Type} [Inhabited α] {n : Nat} {p : Nat → α → Prop} (h : ∀ i, i < n → ∃ a, p i a) : ∃ l : List α, l.length = n ∧ ∀ i, i < n → p i (l.getD i default) := by
 induction n with
 | zero => exact ⟨[], rfl, fun i hi => absurd hi (by omega)⟩
 | succ n ih =>
   obtain ⟨l, hl, hp⟩ := ih (fun i hi => h i (by omega))
   obtain ⟨a, ha⟩ := h n (by omega)
   refine ⟨l ++ [a], by simp [hl], fun i hi => ?_⟩
   rw [List.getD_eq_getElem?_getD, List.getElem?_append]
   by_cases e : i < n
   · rw [if_pos (by omega), ← List.getD_eq_getElem?_getD]; exact hp i e
   · obtain rfl : i = n := by omega
     rw [if_neg (by omega), hl]; simpa using ha
theorem cells9 : Tryd.prog.cellsOf 9 = 1 := by kernel_rfl
theorem cells3 : Tryd.prog.cellsOf 3 = 1 := by kernel_rfl
theorem cells4 : Tryd.prog.cellsOf 4 = 1 := by kernel_rfl
theorem cells2 : Tryd.prog.cellsOf 2 = 1 := by kernel_rfl
theorem cells22 : Tryd.prog.cellsOf 22 = 1 := by kernel_rfl
theorem cells23 : Tryd.prog.cellsOf 23 = 1 := by kernel_rfl
theorem cells25 : Tryd.prog.cellsOf 25 = 6 := by kernel_rfl
theorem bulk_one {H : Type} (d : DataW H) : 1 ≤ Rows.uptoBulk d := by
 cases d with
 | lit l => cases l <;> simp [Rows.uptoBulk]
 | nil => simp [Rows.uptoBulk]
 | ptr d => simp [Rows.uptoBulk]
 | slice elems spare => simp [Rows.uptoBulk]
 | agg parts => simp [Rows.uptoBulk]
 | iface t d => simp [Rows.uptoBulk]
 | map entries => simp [Rows.uptoBulk]
 | held h => simp [Rows.uptoBulk]
theorem bulk_string {H : Type} (s : ByteArray) : Rows.uptoBulk (DataW.lit (H := H) (.string s.data.toList)) = s.size + 1 := by simp [Rows.uptoBulk]
section
variable {H : Type} {enc : TypeId × Value → H} {W : World} {base : Nat} {sp : Nat → Bool} {held : Bool}
theorem bulk_sum {H : Type} {α : Type} (f : α → Nat) : ∀ (l : List α) (es : List (DataW H × List MemPlace)), l.length = es.length → (∀ i, i < l.length → ∀ a x, l[i]? = some a → es[i]? = some x → f a ≤ Rows.uptoBulk x.1) → (l.map f).sum ≤ Rows.uptoBulkAll (es.map (·.1))
 | [], [], _, _ => by simp [Rows.uptoBulkAll]
 | a :: l, x :: es, hl, h => by
   have h0 := h 0 (by simp) a x rfl rfl
   have h1 := bulk_sum f l es (by simpa using hl) (fun i hi a' x' ha hx => h (i + 1) (by simpa using hi) a' x' (by simpa using ha) (by simpa using hx))
   simp only [List.map_cons, List.sum_cons, Rows.uptoBulkAll]
   omega
 | [], _ :: _, hl, _ => by simp at hl
 | _ :: _, [], hl, _ => by simp at hl
theorem strs_of {fuel : Nat} {v : Value} {x : DataW H × List MemPlace} (h : DataW.trod enc Tryd.prog W base sp held fuel 22 [v] = some x) : ∃ ks, StrsX W (fun _ => True) v ks ∧ ks.length + (ks.map ByteArray.size).sum + 1 ≤ Rows.uptoBulk x.1 := by
 rcases DataW.trod_slice Tryd.underlying22 h with ⟨hc, hx⟩ | ⟨a, len, cap, elems, rest, n, _, hc, hx, _, hl, _, hel, hget, _, _⟩
 · injection hc with hc _
   subst hc
   exact ⟨[], strs_nil _ _, by simpa using bulk_one x.1⟩
 · injection hc with hc _
   subst hc
   have key : ∀ i, i < len → ∃ s : ByteArray, (∃ y, elems[i]? = some y ∧ y.1 = .lit (.string s.data.toList)) ∧ ∃ b o, a = ⟨b, o, none⟩ ∧ W.cell? ⟨b, o + i, none⟩ = some (.string s) := by
    intro i hi
    have hg := hget i hi
    rw [List.getElem?_eq_getElem (by omega), cells9, Nat.mul_one] at hg
    obtain ⟨cs, hcs, hst⟩ := Option.bind_eq_some_iff.1 hg
    obtain ⟨_, hlen, hcell⟩ := World.cells?_some hcs
    obtain ⟨s, rfl, hy, _⟩ := DataW.trod_string Tryd.underlying9 hst
    have e0 := hcell 0 (by omega)
    have hadd : (a.add i).add 0 = a.add i := by simp [Addr.add]
    rw [hadd] at e0
    have hsp : ∃ b o, a = ⟨b, o, none⟩ := by
     have hg0 := hget 0 (by omega)
     rw [List.getElem?_eq_getElem (by omega), cells9, Nat.mul_one] at hg0
     obtain ⟨cs0, hcs0, _⟩ := Option.bind_eq_some_iff.1 hg0
     obtain ⟨_, hlen0, hcell0⟩ := World.cells?_some hcs0
     have := hcell0 0 (by omega)
     rw [List.getElem?_eq_getElem (by omega), show (a.add 0).add 0 = a by simp [Addr.add]] at this
     exact spot_none this
    obtain ⟨b, o, rfl⟩ := hsp
    rw [add_at] at e0
    exact ⟨s, ⟨_, List.getElem?_eq_getElem (by omega), by rw [hy]⟩, b, o, rfl, e0⟩
   obtain ⟨ks, hkl, hp⟩ := list_of (α := ByteArray) key
   refine ⟨ks, ⟨some a, cap, by rw [hkl], by omega, fun i hi => ?_⟩, ?_⟩
   · obtain ⟨_, b, o, rfl, hc⟩ := hp i (by omega)
     exact ⟨b, o, rfl, trivial, hc⟩
   · have hs := bulk_sum (fun s : ByteArray => s.size + 1) ks elems (by omega) (fun i hi s y hs hy => by
      obtain ⟨⟨y', hy', hd⟩, _⟩ := hp i (by omega)
      rw [hy] at hy'
      injection hy' with hy'
      subst hy'
      have e : ks.getD i default = s := by rw [List.getD_eq_getElem?_getD, hs]; rfl
      rw [hd, e, bulk_string]
      exact Nat.le_refl _)
     have e2 : (ks.map fun s : ByteArray => s.size + 1).sum = (ks.map ByteArray.size).sum + ks.length := by
      clear hp hkl hs
      induction ks with
      | nil => rfl
      | cons k ks ih => simp only [List.map_cons, List.sum_cons, List.length_cons, ih]; omega
     rw [hx]
     simp only [Rows.uptoBulk]
     omega
theorem sizeL_sum : ∀ vs : List J, sizeL vs = (vs.map sizeJ).sum
 | [] => rfl
 | v :: vs => by unfold sizeL; rw [sizeL_sum vs]; rfl
theorem json_of : ∀ (fuel : Nat) {cs : List Value} {x : DataW H × List MemPlace}, DataW.trod enc Tryd.prog W base sp held fuel 25 cs = some x → ∃ (v0 v1 v2 v3 v4 v5 : Value) (j : J), cs = [v0, v1, v2, v3, v4, v5] ∧ JX W (fun _ => True) (.agg #[v0, v1, v2, v3, v4, v5]) j ∧ sizeJ j ≤ Rows.uptoBulk x.1 := by
 intro fuel
 induction fuel using Nat.strongRecOn with
 | _ fuel ih =>
   intro cs x h
   obtain ⟨xs, n, hfu, hx, hcl, hxl, hf⟩ := DataW.trod_struct Tryd.underlying25 h
   rw [cells25] at hcl
   have f0 : DataW.trod enc Tryd.prog W base sp held n 3 ((cs.drop 0).take (Tryd.prog.cellsOf 3)) = xs[0]? := hf 0 _ rfl
   have f1 : DataW.trod enc Tryd.prog W base sp held n 4 ((cs.drop 1).take (Tryd.prog.cellsOf 4)) = xs[1]? := hf 1 _ rfl
   have f2 : DataW.trod enc Tryd.prog W base sp held n 2 ((cs.drop 2).take (Tryd.prog.cellsOf 2)) = xs[2]? := hf 2 _ rfl
   have f3 : DataW.trod enc Tryd.prog W base sp held n 9 ((cs.drop 3).take (Tryd.prog.cellsOf 9)) = xs[3]? := hf 3 _ rfl
   have f4 : DataW.trod enc Tryd.prog W base sp held n 22 ((cs.drop 4).take (Tryd.prog.cellsOf 22)) = xs[4]? := hf 4 _ rfl
   have f5 : DataW.trod enc Tryd.prog W base sp held n 23 ((cs.drop 5).take (Tryd.prog.cellsOf 23)) = xs[5]? := hf 5 _ rfl
   have hxs : xs.length = 6 := hxl
   obtain ⟨v0, v1, v2, v3, v4, v5, rfl⟩ : ∃ v0 v1 v2 v3 v4 v5, cs = [v0, v1, v2, v3, v4, v5] := by
    match cs, hcl with
    | [v0, v1, v2, v3, v4, v5], _ => exact ⟨v0, v1, v2, v3, v4, v5, rfl⟩
   obtain ⟨x0, x1, x2, x3, x4, x5, rfl⟩ : ∃ x0 x1 x2 x3 x4 x5, xs = [x0, x1, x2, x3, x4, x5] := by
    match xs, hxs with
    | [x0, x1, x2, x3, x4, x5], _ => exact ⟨x0, x1, x2, x3, x4, x5, rfl⟩
   rw [cells3] at f0
   rw [cells4] at f1
   rw [cells2] at f2
   rw [cells9] at f3
   rw [cells22] at f4
   rw [cells23] at f5
   obtain ⟨k, hk, hx0, _⟩ := DataW.trod_int Tryd.underlying3 (show DataW.trod enc Tryd.prog W base sp held n 3 [v0] = some x0 from f0)
   obtain ⟨b, hb, hx1⟩ := DataW.trod_bool Tryd.underlying4 (show DataW.trod enc Tryd.prog W base sp held n 4 [v1] = some x1 from f1)
   obtain ⟨m, hm, hx2, _⟩ := DataW.trod_int Tryd.underlying2 (show DataW.trod enc Tryd.prog W base sp held n 2 [v2] = some x2 from f2)
   obtain ⟨t, ht, hx3, _⟩ := DataW.trod_string Tryd.underlying9 (show DataW.trod enc Tryd.prog W base sp held n 9 [v3] = some x3 from f3)
   obtain ⟨ks, hks, hkb⟩ := strs_of (show DataW.trod enc Tryd.prog W base sp held n 22 [v4] = some x4 from f4)
   injection hk with hk _
   injection hb with hb _
   injection hm with hm _
   injection ht with ht _
   subst hk hb hm ht
   have hvs : ∃ vs, JsX W (fun _ => True) v5 vs ∧ sizeL vs + 1 ≤ Rows.uptoBulk x5.1 := by
    rcases DataW.trod_slice Tryd.underlying23 (show DataW.trod enc Tryd.prog W base sp held n 23 [v5] = some x5 from f5) with ⟨hc, hx⟩ | ⟨a, len, cap, elems, rest, n', hn', hc, hx5, _, hl, _, hel, hget, _, _⟩
    · injection hc with hc _
      subst hc
      exact ⟨[], ⟨none, 0, fun _ _ => .nilIface, rfl, Nat.le_refl _, fun i hi => absurd hi (Nat.not_lt_zero _), fun i hi => absurd hi (Nat.not_lt_zero _)⟩, by simpa [sizeL] using bulk_one x5.1⟩
    · injection hc with hc _
      subst hc
      have hsp : 0 < len → ∃ b o, a = ⟨b, o, none⟩ := by
       intro h0
       have hg0 := hget 0 h0
       rw [List.getElem?_eq_getElem (by omega), cells25] at hg0
       obtain ⟨cs0, hcs0, _⟩ := Option.bind_eq_some_iff.1 hg0
       obtain ⟨_, hlen0, hcell0⟩ := World.cells?_some hcs0
       have := hcell0 0 (by omega)
       rw [List.getElem?_eq_getElem (by omega), show (0 * 6 : Nat) = 0 from rfl, show (a.add 0).add 0 = a by simp [Addr.add]] at this
       exact spot_none this
      have key : ∀ i, i < len → ∃ j : J, ∃ u : Nat → Value, (∃ y, elems[i]? = some y ∧ sizeJ j ≤ Rows.uptoBulk y.1) ∧ JX W (fun _ => True) (.agg #[u 0, u 1, u 2, u 3, u 4, u 5]) j ∧ ∃ b o, a = ⟨b, o, none⟩ ∧ Six W b (o + i * 6) (u 0) (u 1) (u 2) (u 3) (u 4) (u 5) := by
       intro i hi
       have hg := hget i hi
       rw [List.getElem?_eq_getElem (by omega), cells25] at hg
       obtain ⟨cs, hcs, hst⟩ := Option.bind_eq_some_iff.1 hg
       obtain ⟨_, hlen, hcell⟩ := World.cells?_some hcs
       obtain ⟨w0, w1, w2, w3, w4, w5, j, rfl, hj, hjb⟩ := ih n' (by omega) hst
       obtain ⟨b, o, rfl⟩ := hsp (by omega)
       have e0 := hcell 0 (by decide)
       have e1 := hcell 1 (by decide)
       have e2 := hcell 2 (by decide)
       have e3 := hcell 3 (by decide)
       have e4 := hcell 4 (by decide)
       have e5 := hcell 5 (by decide)
       simp only [add_at] at e0 e1 e2 e3 e4 e5
       exact ⟨j, fun i => [w0, w1, w2, w3, w4, w5].getD i .nilIface, ⟨_, List.getElem?_eq_getElem (by omega), hjb⟩, hj, b, o, rfl, ⟨⟨e0, e1, e2⟩, e3, e4, e5⟩⟩
      obtain ⟨vs, hvl, hp⟩ := list_of (α := J) key
      have hchoose : ∀ i : Nat, ∃ u : Nat → Value, i < len → (JX W (fun _ => True) (.agg #[u 0, u 1, u 2, u 3, u 4, u 5]) (vs.getD i default) ∧ ∃ b o, a = ⟨b, o, none⟩ ∧ Six W b (o + i * 6) (u 0) (u 1) (u 2) (u 3) (u 4) (u 5)) := fun i => by
       by_cases hi : i < len
       · obtain ⟨u, _, h1, h2⟩ := hp i hi
         exact ⟨u, fun _ => ⟨h1, h2⟩⟩
       · exact ⟨fun _ => .nilIface, fun h => absurd h hi⟩
      refine ⟨vs, ⟨some a, cap, fun i => (hchoose i).choose, by rw [hvl], by omega, fun i hi => ?_, fun i hi => ((hchoose i).choose_spec (by omega)).1⟩, ?_⟩
      · obtain ⟨b, o, rfl, h6⟩ := ((hchoose i).choose_spec (by omega)).2
        exact ⟨b, o, rfl, trivial, h6⟩
      · have hs := bulk_sum sizeJ vs elems (by omega) (fun i hi j y hj hy => by
         obtain ⟨u, ⟨y', hy', hb⟩, _⟩ := hp i (by omega)
         rw [hy] at hy'
         injection hy' with hy'
         subst hy'
         have e : vs.getD i default = j := by rw [List.getD_eq_getElem?_getD, hj]; rfl
         rw [← e]
         exact hb)
        rw [sizeL_sum, hx5]
        simp only [Rows.uptoBulk]
        omega
   obtain ⟨vs, hvs, hvb⟩ := hvs
   refine ⟨_, _, _, _, _, _, .mk k b m t ks vs, rfl, JX.close hks hvs, ?_⟩
   have h3 : Rows.uptoBulk x3.1 = t.size + 1 := by rw [hx3]; exact bulk_string t
   have h0 := bulk_one x0.1
   have h1 := bulk_one x1.1
   have h2 := bulk_one x2.1
   rw [hx]
   unfold sizeJ
   simp only [Rows.uptoBulk, List.map_cons, List.map_nil, Rows.uptoBulkAll]
   omega
end
end Go.Proofs.WV
