/-
 Write and Check, by the program, in memory. Condition: the value lies, and is not too large to count.
-/
import Derived.Test.YtcmmnbipaemgiaaDoorMp1
import Derived.Deep.LoopGhost
namespace Go.Proofs.WV
open Go.RowKit Go.Proofs.KL Go.Proofs.WM
set_option maxRecDepth 100000
set_option linter.unusedSimpArgs false
set_option linter.unusedVariables false

theorem text_ne (j : J) : textJ j ≠ [] := by
 obtain ⟨k, b, n, t, ks, vs⟩ := j
 unfold textJ
 split
 · simp
 split
 · split <;> simp
 split
 · obtain ⟨c, q, e, _⟩ := itoa_head (n := n); rw [e]; simp
 split
 · simp [quoteB]
 split <;> simp
def writeJ (j : J) : Bs × Int := if formedJ j = false then ([], 4) else if 40 < levelsJ j ∨ 1000000 < (textJ j).length then ([], 3) else (textJ j, 0)
theorem writeJ_check (j : J) : (writeJ j).2 = checkJ j := by
 unfold writeJ checkJ
 split
 · rfl
 split <;> rfl
theorem Tab.up {W : World} {a b : Nat} (h : Tab W a) (hb : a ≤ b) : Tab W b := by
 obtain ⟨g, h1, h2, h3⟩ := h
 exact ⟨g, h1, by omega, h3⟩
theorem JX.low {W : World} {X : Nat → Prop} {v : Value} {j : J} (h : JX W X v j) : JX W (fun b => b < W.heap.size) v j := h.keep (Keeps.refl Nob W) (fun _ _ _ => id) (fun _ hb _ => hb)
def RetStrInt (t : Bs) (n : Int) (W : World) (e : Ending) (w' : World) : Prop := e = .returned (.tuple #[.string (mkB t), .int .i64 n]) ∧ Keeps Nob W w'
set_option maxHeartbeats 4000000 in
theorem write15 {W : World} {X : Nat → Prop} {v : Value} {j : J} (h : JX W X v j) (ht : Tab W W.heap.size) (hs : sizeJ j ≤ 10000000000) : Calls Tryd.prog 15 #[v] W (RetStrInt (writeJ j).1 (writeJ j).2 W) := by
 obtain ⟨k, b, n, t, ks, vs, kv, vv, hj, rfl, hkv, hvv⟩ := h.open
 obtain ⟨kA, kc, rfl, -, -⟩ := id hkv
 obtain ⟨vA, vc, u, rfl, -, -, -⟩ := id hvv
 have H37 := Lib.hid (fun W' hk => formed37 h W' hk (by omega))
 have H38 := Lib.hid (fun W' hk => levels38 h W' hk (by omega))
 have H39 := Lib.hid (fun W' (hk : Keeps Nob W W') (g : Nat) hb hg (hf : formedJ j = true) (hl : ([] : Bs).length + (textJ j).length ≤ 1000000000000) => value39 h.low W' g W.heap.size (.slice none 0 0) [] hk.any (fun _ hb => hb) (ht.keep hk.any) hb hg hk.size hf hl)
 have Hlen := Lib.hid (fun (hf : formedJ j = true) => text_size j hf)
 have Hs := Lib.hid hs
 have Hne := Lib.hid (text_ne j)
 have hlv : levelsJ j ≤ 10000000000 := Nat.le_trans (levels_size j) hs
 obtain ⟨R, hR⟩ : ∃ x, writeJ j = x := ⟨_, rfl⟩
 rw [hR]
 have HR := Lib.hid hR
 obtain ⟨fm, hfm⟩ : ∃ x, formedJ j = x := ⟨_, rfl⟩
 rw [hfm] at H37 H39 Hlen
 have Hfm := Lib.hid hfm
 obtain ⟨lv, hlve⟩ : ∃ x, levelsJ j = x := ⟨_, rfl⟩
 rw [hlve] at H38 hlv
 have Hlv := Lib.hid hlve
 generalize ks.length = nk at *
 generalize vs.length = nv at *
 clear h hkv hvv ht hs hR hfm hlve hj
 cases fm
 · go_enter Tryd.func15, Tryd.ntmps15
   go_wp2_with (first
    | ((with_reducible refine at_dst (N := 1) rfl ?_); go_must (refine ev_box (cs := #[.int .i64 k, .bool b, .int .i64 n, .string t, .slice kA nk kc, .slice vA nv vc]) rfl rfl rfl ?_; intro g1 w1 hg1 hl1 hb1 hk1)
       have v0 := (blk_cell hb1 0).trans rfl
       have v1 := (blk_cell hb1 1).trans rfl
       have v2 := (blk_cell hb1 2).trans rfl
       have v3 := (blk_cell hb1 3).trans rfl
       have v4 := (blk_cell hb1 4).trans rfl
       have v5 := (blk_cell hb1 5).trans rfl
       have HK1 := Lib.hid hk1
       clear hb1 hk1
       (try simp only [PU]))
    | (go_at_call 37; go_must (refine (H37.out w1 HK1.out).mono ?_; rintro e w2 ⟨rfl, hk2⟩); have HK2 := Lib.hid (HK1.out.trans hk2 (fun _ _ h => h)); clear hk2; (try simp only [PU]))
   )
   go_ret2
   refine ⟨?_, HK2.out⟩
   rw [← HR.out]
   unfold writeJ
   rw [if_pos Hfm.out]
   rfl
 · by_cases hdeep : 40 < lv
   · go_enter Tryd.func15, Tryd.ntmps15
     go_wp2_with (first
      | ((with_reducible refine at_dst (N := 1) rfl ?_); go_must (refine ev_box (cs := #[.int .i64 k, .bool b, .int .i64 n, .string t, .slice kA nk kc, .slice vA nv vc]) rfl rfl rfl ?_; intro g1 w1 hg1 hl1 hb1 hk1)
         have v0 := (blk_cell hb1 0).trans rfl
         have v1 := (blk_cell hb1 1).trans rfl
         have v2 := (blk_cell hb1 2).trans rfl
         have v3 := (blk_cell hb1 3).trans rfl
         have v4 := (blk_cell hb1 4).trans rfl
         have v5 := (blk_cell hb1 5).trans rfl
         have HK1 := Lib.hid hk1
         have Hb1 := Lib.hid hb1
         clear hb1 hk1
         (try simp only [PU]))
      | (go_at_call 37; go_must (refine (H37.out w1 HK1.out).mono ?_; rintro e w2 ⟨rfl, hk2⟩)
         clear v0 v1 v2 v3 v4 v5
         have hb2 := hk2.blk Hb1.out id
         have v0 := (blk_cell hb2 0).trans rfl
         have v1 := (blk_cell hb2 1).trans rfl
         have v2 := (blk_cell hb2 2).trans rfl
         have v3 := (blk_cell hb2 3).trans rfl
         have v4 := (blk_cell hb2 4).trans rfl
         have v5 := (blk_cell hb2 5).trans rfl
         have HK2 := Lib.hid (HK1.out.trans hk2 (fun _ _ h => h))
         have Hb2 := Lib.hid hb2
         clear hk2 hb2
         (try simp only [PU]))
      | (go_at_call 38; go_must (refine (H38.out w2 HK2.out).mono ?_; rintro e w3 ⟨rfl, hk3⟩)
         clear v0 v1 v2 v3 v4 v5
         have HK3 := Lib.hid (HK2.out.trans hk3 (fun _ _ h => h))
         have Hb3 := Lib.hid (hk3.blk Hb2.out id)
         clear hk3
         (try simp only [PU]))
      | ((with_reducible refine at_dst (N := 14) rfl ?_); go_must (refine ev_box (cs := #[.pointer none, .slice none 0 0]) rfl rfl rfl ?_; intro g4 w4 hg4 hl4 hb4 hk4)
         have hb5 := hk4.blk Hb3.out id
         have v0 := (blk_cell hb5 0).trans rfl
         have v1 := (blk_cell hb5 1).trans rfl
         have v2 := (blk_cell hb5 2).trans rfl
         have v3 := (blk_cell hb5 3).trans rfl
         have v4 := (blk_cell hb5 4).trans rfl
         have v5 := (blk_cell hb5 5).trans rfl
         have HK4 := Lib.hid (HK3.out.trans hk4 (fun _ _ h => h))
         have Hb4 := Lib.hid (show Bld w4 g4 W.heap.size (.slice none 0 0) [] from ⟨⟨_, hb4, .inl rfl⟩, .inl ⟨rfl, rfl⟩⟩)
         have Hg4 := Lib.hid (show W.heap.size ≤ g4 by have := HK3.out.size; omega)
         clear hk4 hb4 hb5
         (try simp only [PU]))
      | (go_at_call 39; go_must (refine (H39.out w4 HK4.out g4 Hb4.out Hg4.out rfl (by have := Hlen.out rfl; have := Hs.out; simp only [List.length_nil]; omega)).mono ?_; rintro e w5 ⟨x5, v9, rfl, hb5, hw5⟩)
         rw [List.nil_append] at hb5
         have HB5 := Lib.hid hb5
         have HK5 := Lib.hid (show Keeps Nob W w5 from HK4.out.trans hw5.keep (fun q hq e => e.elim (fun e => by have := Hg4.out; omega) (fun e => by cases e)))
         clear v0 v1 v2 v3 v4 v5
         clear hb5 hw5
         (try simp only [PU]))
      | (go_at_call 40; go_must (refine (bldLen HB5.out).mono ?_; rintro e w6 ⟨rfl, rfl⟩); rw [Htl.out]; (try simp only [PU]))
      | (go_at_call 41; go_must (refine (bldString HB5.out Hne.out).mono ?_; rintro e w6 ⟨rfl, hk6⟩); have HK6 := Lib.hid (show Keeps Nob W w6 from HK5.out.trans hk6 (fun q hq e => by have := (HB5.out.own.lt q e.symm).1; omega)); clear hk6; (try simp only [PU]))
     )
     go_ret2
     refine ⟨?_, HK3.out⟩
     rw [← HR.out]
     unfold writeJ
     rw [if_neg (by rw [Hfm.out]; decide), if_pos (.inl (by rw [Hlv.out]; exact hdeep))]
     rfl
   · by_cases hlong : 1000000 < (textJ j).length
     · obtain ⟨tl, htl⟩ : ∃ x, (textJ j).length = x := ⟨_, rfl⟩
       have Htl := Lib.hid htl
       rw [htl] at hlong
       clear htl
       go_enter Tryd.func15, Tryd.ntmps15
       go_wp2_with (first
        | ((with_reducible refine at_dst (N := 1) rfl ?_); go_must (refine ev_box (cs := #[.int .i64 k, .bool b, .int .i64 n, .string t, .slice kA nk kc, .slice vA nv vc]) rfl rfl rfl ?_; intro g1 w1 hg1 hl1 hb1 hk1)
           have v0 := (blk_cell hb1 0).trans rfl
           have v1 := (blk_cell hb1 1).trans rfl
           have v2 := (blk_cell hb1 2).trans rfl
           have v3 := (blk_cell hb1 3).trans rfl
           have v4 := (blk_cell hb1 4).trans rfl
           have v5 := (blk_cell hb1 5).trans rfl
           have HK1 := Lib.hid hk1
           have Hb1 := Lib.hid hb1
           clear hb1 hk1
           (try simp only [PU]))
        | (go_at_call 37; go_must (refine (H37.out w1 HK1.out).mono ?_; rintro e w2 ⟨rfl, hk2⟩)
           clear v0 v1 v2 v3 v4 v5
           have hb2 := hk2.blk Hb1.out id
           have v0 := (blk_cell hb2 0).trans rfl
           have v1 := (blk_cell hb2 1).trans rfl
           have v2 := (blk_cell hb2 2).trans rfl
           have v3 := (blk_cell hb2 3).trans rfl
           have v4 := (blk_cell hb2 4).trans rfl
           have v5 := (blk_cell hb2 5).trans rfl
           have HK2 := Lib.hid (HK1.out.trans hk2 (fun _ _ h => h))
           have Hb2 := Lib.hid hb2
           clear hk2 hb2
           (try simp only [PU]))
        | (go_at_call 38; go_must (refine (H38.out w2 HK2.out).mono ?_; rintro e w3 ⟨rfl, hk3⟩)
           clear v0 v1 v2 v3 v4 v5
           have HK3 := Lib.hid (HK2.out.trans hk3 (fun _ _ h => h))
           have Hb3 := Lib.hid (hk3.blk Hb2.out id)
           clear hk3
           (try simp only [PU]))
        | ((with_reducible refine at_dst (N := 14) rfl ?_); go_must (refine ev_box (cs := #[.pointer none, .slice none 0 0]) rfl rfl rfl ?_; intro g4 w4 hg4 hl4 hb4 hk4)
           have hb5 := hk4.blk Hb3.out id
           have v0 := (blk_cell hb5 0).trans rfl
           have v1 := (blk_cell hb5 1).trans rfl
           have v2 := (blk_cell hb5 2).trans rfl
           have v3 := (blk_cell hb5 3).trans rfl
           have v4 := (blk_cell hb5 4).trans rfl
           have v5 := (blk_cell hb5 5).trans rfl
           have HK4 := Lib.hid (HK3.out.trans hk4 (fun _ _ h => h))
           have Hb4 := Lib.hid (show Bld w4 g4 W.heap.size (.slice none 0 0) [] from ⟨⟨_, hb4, .inl rfl⟩, .inl ⟨rfl, rfl⟩⟩)
           have Hg4 := Lib.hid (show W.heap.size ≤ g4 by have := HK3.out.size; omega)
           clear hk4 hb4 hb5
           (try simp only [PU]))
        | (go_at_call 39; go_must (refine (H39.out w4 HK4.out g4 Hb4.out Hg4.out rfl (by have := Hlen.out rfl; have := Hs.out; simp only [List.length_nil]; omega)).mono ?_; rintro e w5 ⟨x5, v9, rfl, hb5, hw5⟩)
           rw [List.nil_append] at hb5
           have HB5 := Lib.hid hb5
           have HK5 := Lib.hid (show Keeps Nob W w5 from HK4.out.trans hw5.keep (fun q hq e => e.elim (fun e => by have := Hg4.out; omega) (fun e => by cases e)))
           clear v0 v1 v2 v3 v4 v5
           clear hb5 hw5
           (try simp only [PU]))
        | (go_at_call 40; go_must (refine (bldLen HB5.out).mono ?_; rintro e w6 ⟨rfl, rfl⟩); rw [Htl.out]; (try simp only [PU]))
        | (go_at_call 41; go_must (refine (bldString HB5.out Hne.out).mono ?_; rintro e w6 ⟨rfl, hk6⟩); have HK6 := Lib.hid (show Keeps Nob W w6 from HK5.out.trans hk6 (fun q hq e => by have := (HB5.out.own.lt q e.symm).1; omega)); clear hk6; (try simp only [PU]))
       )
       go_ret2
       refine ⟨?_, HK5.out⟩
       rw [← HR.out]
       unfold writeJ
       rw [if_neg (by rw [Hfm.out]; decide), if_pos (.inr (by rw [Htl.out]; exact hlong))]
       rfl
     · obtain ⟨tl, htl⟩ : ∃ x, (textJ j).length = x := ⟨_, rfl⟩
       have Htl := Lib.hid htl
       rw [htl] at hlong
       clear htl
       go_enter Tryd.func15, Tryd.ntmps15
       go_wp2_with (first
        | ((with_reducible refine at_dst (N := 1) rfl ?_); go_must (refine ev_box (cs := #[.int .i64 k, .bool b, .int .i64 n, .string t, .slice kA nk kc, .slice vA nv vc]) rfl rfl rfl ?_; intro g1 w1 hg1 hl1 hb1 hk1)
           have v0 := (blk_cell hb1 0).trans rfl
           have v1 := (blk_cell hb1 1).trans rfl
           have v2 := (blk_cell hb1 2).trans rfl
           have v3 := (blk_cell hb1 3).trans rfl
           have v4 := (blk_cell hb1 4).trans rfl
           have v5 := (blk_cell hb1 5).trans rfl
           have HK1 := Lib.hid hk1
           have Hb1 := Lib.hid hb1
           clear hb1 hk1
           (try simp only [PU]))
        | (go_at_call 37; go_must (refine (H37.out w1 HK1.out).mono ?_; rintro e w2 ⟨rfl, hk2⟩)
           clear v0 v1 v2 v3 v4 v5
           have hb2 := hk2.blk Hb1.out id
           have v0 := (blk_cell hb2 0).trans rfl
           have v1 := (blk_cell hb2 1).trans rfl
           have v2 := (blk_cell hb2 2).trans rfl
           have v3 := (blk_cell hb2 3).trans rfl
           have v4 := (blk_cell hb2 4).trans rfl
           have v5 := (blk_cell hb2 5).trans rfl
           have HK2 := Lib.hid (HK1.out.trans hk2 (fun _ _ h => h))
           have Hb2 := Lib.hid hb2
           clear hk2 hb2
           (try simp only [PU]))
        | (go_at_call 38; go_must (refine (H38.out w2 HK2.out).mono ?_; rintro e w3 ⟨rfl, hk3⟩)
           clear v0 v1 v2 v3 v4 v5
           have HK3 := Lib.hid (HK2.out.trans hk3 (fun _ _ h => h))
           have Hb3 := Lib.hid (hk3.blk Hb2.out id)
           clear hk3
           (try simp only [PU]))
        | ((with_reducible refine at_dst (N := 14) rfl ?_); go_must (refine ev_box (cs := #[.pointer none, .slice none 0 0]) rfl rfl rfl ?_; intro g4 w4 hg4 hl4 hb4 hk4)
           have hb5 := hk4.blk Hb3.out id
           have v0 := (blk_cell hb5 0).trans rfl
           have v1 := (blk_cell hb5 1).trans rfl
           have v2 := (blk_cell hb5 2).trans rfl
           have v3 := (blk_cell hb5 3).trans rfl
           have v4 := (blk_cell hb5 4).trans rfl
           have v5 := (blk_cell hb5 5).trans rfl
           have HK4 := Lib.hid (HK3.out.trans hk4 (fun _ _ h => h))
           have Hb4 := Lib.hid (show Bld w4 g4 W.heap.size (.slice none 0 0) [] from ⟨⟨_, hb4, .inl rfl⟩, .inl ⟨rfl, rfl⟩⟩)
           have Hg4 := Lib.hid (show W.heap.size ≤ g4 by have := HK3.out.size; omega)
           clear hk4 hb4 hb5
           (try simp only [PU]))
        | (go_at_call 39; go_must (refine (H39.out w4 HK4.out g4 Hb4.out Hg4.out rfl (by have := Hlen.out rfl; have := Hs.out; simp only [List.length_nil]; omega)).mono ?_; rintro e w5 ⟨x5, v9, rfl, hb5, hw5⟩)
           rw [List.nil_append] at hb5
           have HB5 := Lib.hid hb5
           have HK5 := Lib.hid (show Keeps Nob W w5 from HK4.out.trans hw5.keep (fun q hq e => e.elim (fun e => by have := Hg4.out; omega) (fun e => by cases e)))
           clear v0 v1 v2 v3 v4 v5
           clear hb5 hw5
           (try simp only [PU]))
        | (go_at_call 40; go_must (refine (bldLen HB5.out).mono ?_; rintro e w6 ⟨rfl, rfl⟩); rw [Htl.out]; (try simp only [PU]))
        | (go_at_call 41; go_must (refine (bldString HB5.out Hne.out).mono ?_; rintro e w6 ⟨rfl, hk6⟩); have HK6 := Lib.hid (show Keeps Nob W w6 from HK5.out.trans hk6 (fun q hq e => by have := (HB5.out.own.lt q e.symm).1; omega)); clear hk6; (try simp only [PU]))
       )
       go_ret2
       refine ⟨?_, HK6.out⟩
       rw [← HR.out]
       unfold writeJ
       rw [if_neg (by rw [Hfm.out]; decide), if_neg (by rw [Hlv.out, Htl.out]; omega)]
       rfl
set_option maxHeartbeats 1000000 in
theorem check16 {W : World} {X : Nat → Prop} {v : Value} {j : J} (h : JX W X v j) (ht : Tab W W.heap.size) (hs : sizeJ j ≤ 10000000000) : Calls Tryd.prog 16 #[v] W fun e w' => e = .returned (.int .i64 (checkJ j)) ∧ Keeps Nob W w' := by
 obtain ⟨k, b, n, t, ks, vs, kv, vv, hj, rfl, hkv, hvv⟩ := h.open
 obtain ⟨kA, kc, rfl, -, -⟩ := id hkv
 obtain ⟨vA, vc, u, rfl, -, -, -⟩ := id hvv
 have H15 := Lib.hid (fun W' (hk : Keeps Nob W W') => write15 (h.after hk) (Tab.up (ht.keep hk.any) hk.size) hs)
 rw [← writeJ_check]
 generalize writeJ j = R at *
 obtain ⟨R1, R2⟩ := R
 generalize ks.length = nk at *
 generalize vs.length = nv at *
 clear h hkv hvv ht hs hj
 go_enter Tryd.func16, Tryd.ntmps16
 go_wp2_with (first
  | ((with_reducible refine at_dst (N := 1) rfl ?_); go_must (refine ev_box (cs := #[.int .i64 k, .bool b, .int .i64 n, .string t, .slice kA nk kc, .slice vA nv vc]) rfl rfl rfl ?_; intro g1 w1 hg1 hl1 hb1 hk1)
     have v0 := (blk_cell hb1 0).trans rfl
     have v1 := (blk_cell hb1 1).trans rfl
     have v2 := (blk_cell hb1 2).trans rfl
     have v3 := (blk_cell hb1 3).trans rfl
     have v4 := (blk_cell hb1 4).trans rfl
     have v5 := (blk_cell hb1 5).trans rfl
     have HK1 := Lib.hid hk1
     clear hb1 hk1
     (try simp only [PU]))
  | (go_at_call 15; go_must (refine (H15.out w1 HK1.out).mono ?_; rintro e w2 ⟨rfl, hk2⟩); have HK2 := Lib.hid (HK1.out.trans hk2 (fun _ _ h => h)); clear hk2; (try simp only [PU]))
 )
 go_ret
 exact ⟨rfl, HK2.out⟩
end Go.Proofs.WV

namespace Go.Proofs.WV
open Go.RowKit Go.Proofs.KL Go.Proofs.WM
set_option maxRecDepth 100000
set_option linter.unusedSimpArgs false
set_option linter.unusedVariables false

theorem equal54 {W : World} {X Y : Nat → Prop} {v v' : Value} {ks ks' : List ByteArray} (h : StrsX W X v ks) (h' : StrsX W Y v' ks') (hl : ks.length ≤ 1000000000000) (hl' : ks'.length ≤ 1000000000000) :
  Calls Tryd.prog 54 #[v, v'] W fun e w' => e = .returned (.bool (decide (ks = ks'))) ∧ Keeps Nob W w' := by
 obtain ⟨A, c, rfl, hc, hx⟩ := h
 obtain ⟨A', c', rfl, hc', hx'⟩ := h'
 by_cases hn : ks.length = ks'.length
 · by_cases h0 : ks.length = 0
   · have e1 : ks = [] := List.length_eq_zero_iff.1 h0
     have e2 : ks' = [] := List.length_eq_zero_iff.1 (by omega)
     subst e1 e2
     refine (Tryd.slices_Equal_string_empty A A' c 0 c' W (by omega)).mono ?_
     rintro e w' ⟨rfl, rfl⟩
     exact ⟨rfl, Keeps.refl _ _⟩
   · obtain ⟨b, o, rfl, -, -⟩ := hx 0 (by omega)
     obtain ⟨b', o', rfl, -, -⟩ := hx' 0 (by omega)
     have g1 : ∀ j, j < ks.length → W.cell? ⟨b, o + j, none⟩ = some (.string (ks.getD j ByteArray.empty)) := fun j hj => by
      obtain ⟨b2, o2, e, -, hcell⟩ := hx j hj
      injection e with e; injection e with e1 e2; subst e1 e2; exact hcell
     have g2 : ∀ j, j < ks'.length → W.cell? ⟨b', o' + j, none⟩ = some (.string (ks'.getD j ByteArray.empty)) := fun j hj => by
      obtain ⟨b2, o2, e, -, hcell⟩ := hx' j hj
      injection e with e; injection e with e1 e2; subst e1 e2; exact hcell
     refine (Tryd.slices_Equal_string b o ks.length c b' o' ks'.length c' ks ks' W (Nat.le_refl _) (Nat.le_refl _) (by omega) (by omega) g1 g2).mono ?_
     rintro e w' ⟨rfl, q, rfl⟩
     rw [List.take_length, List.take_length]
     exact ⟨rfl, Keeps.drewN (Keeps.refl _ _) q⟩
 · refine (Tryd.slices_Equal_string_lens A A' ks.length c ks'.length c' W hn).mono ?_
   rintro e w' ⟨rfl, rfl⟩
   rw [decide_eq_false (fun e : ks = ks' => hn (by rw [e]))]
   exact ⟨rfl, Keeps.refl _ _⟩
theorem sameL_len : ∀ (a b : List J), a.length ≠ b.length → sameL a b = false
 | [], [], h => absurd rfl h
 | [], _ :: _, _ => by unfold sameL; rfl
 | _ :: _, [], _ => by unfold sameL; rfl
 | v :: r, v' :: r', h => by unfold sameL; rw [sameL_len r r' (by simpa using h), Bool.and_false]
theorem sameL_get : ∀ (a b : List J), a.length = b.length → (sameL a b = true ↔ ∀ i, i < a.length → sameJ (a.getD i default) (b.getD i default) = true)
 | [], [], _ => by unfold sameL; simp
 | v :: r, v' :: r', h => by
   unfold sameL
   rw [Bool.and_eq_true, sameL_get r r' (by simpa using h)]
   constructor
   · rintro ⟨h1, h2⟩ i hi
     cases i with
     | zero => simpa using h1
     | succ i => simp only [List.getD_cons_succ]; exact h2 i (by simpa using hi)
   · intro h3
     exact ⟨by simpa using h3 0 (by simp), fun i hi => by simpa using h3 (i + 1) (by simpa using hi)⟩
set_option maxHeartbeats 4000000 in
theorem equal55 {w W : World} {X Y : Nat → Prop} {A A' : Option Addr} {c c' : Nat} {u u' : Nat → Nat → Value} {vs vs' : List J} (hw : Keeps Nob w W) (hl : vs.length ≤ 1000000000000) (hl' : vs'.length ≤ 1000000000000)
  (hA : ∀ i, i < vs.length → ∃ b o, A = some ⟨b, o, none⟩ ∧ X b ∧ Six w b (o + i * 6) (u i 0) (u i 1) (u i 2) (u i 3) (u i 4) (u i 5))
  (hv : ∀ i, i < vs.length → JX w X (.agg #[u i 0, u i 1, u i 2, u i 3, u i 4, u i 5]) (vs.getD i default))
  (hA' : ∀ i, i < vs'.length → ∃ b o, A' = some ⟨b, o, none⟩ ∧ Y b ∧ Six w b (o + i * 6) (u' i 0) (u' i 1) (u' i 2) (u' i 3) (u' i 4) (u' i 5))
  (hv' : ∀ i, i < vs'.length → JX w Y (.agg #[u' i 0, u' i 1, u' i 2, u' i 3, u' i 4, u' i 5]) (vs'.getD i default))
  (hp : ∀ i, i < vs.length → i < vs'.length → ∀ W', Keeps Nob w W' → Calls Tryd.prog 23 #[.agg #[u i 0, u i 1, u i 2, u i 3, u i 4, u i 5], .agg #[u' i 0, u' i 1, u' i 2, u' i 3, u' i 4, u' i 5]] W' fun e w' => e = .returned (.bool (sameJ (vs.getD i default) (vs'.getD i default))) ∧ Keeps Nob W' w') :
  Calls Tryd.prog 55 #[.slice A vs.length c, .slice A' vs'.length c', .func (.func 23) #[] #[]] W fun e w' => e = .returned (.bool (sameL vs vs')) ∧ Keeps Nob W w' := by
 obtain ⟨i25, hi25, hs25⟩ := info25
 have HI := Lib.hid (And.intro hi25 hs25)
 have HA := Lib.hid hA
 have HV := Lib.hid hv
 have HA' := Lib.hid hA'
 have HV' := Lib.hid hv'
 have HP := Lib.hid hp
 have HW := Lib.hid hw
 clear hA hv hA' hv' hp hw hi25 hs25
 by_cases hn : vs.length = vs'.length
 · rw [← hn] at hl' ⊢
   obtain ⟨R, hR⟩ : ∃ x, sameL vs vs' = x := ⟨_, rfl⟩
   rw [hR]
   have HR := Lib.hid hR
   obtain ⟨len, hlen⟩ : ∃ x, vs.length = x := ⟨_, rfl⟩
   have Hlen := Lib.hid (And.intro hlen (show vs'.length = len by omega))
   rw [hlen] at hl ⊢
   clear hR hlen hn hl'
   go_enter Tryd.func55, Tryd.ntmps55
   go_wp2
   go_loopw [7, 8, 9, 17] (fun n1 n2 n3 iv wr => ∃ j : Nat, iv = .int .i64 j ∧ j ≤ len ∧ Hid (Keeps Nob W wr) ∧ Hid (∀ i, i < j → sameJ (vs.getD i default) (vs'.getD i default) = true)) (fun _ _ _ iv _ => len - (intOf iv).toNat)
   case atStart => exact ⟨0, rfl, Nat.zero_le _, Lib.hid (Keeps.refl _ _), Lib.hid (fun i h => absurd h (Nat.not_lt_zero _))⟩
   case round =>
    obtain ⟨j, rfl, hj, HKr, HF⟩ := hrel
    by_cases hlt : j < len
    · obtain ⟨b1, o1, rfl, -, h6⟩ := HA.out j (by rw [Hlen.out.1]; exact hlt)
      obtain ⟨b2, o2, rfl, -, h6'⟩ := HA'.out j (by rw [Hlen.out.2]; exact hlt)
      obtain ⟨⟨e0, e1, e2⟩, e3, e4, e5⟩ := h6.keep (HW.out.trans HKr.out (fun _ _ h => h)) id
      have H6' := Lib.hid (h6'.keep (HW.out.trans HKr.out (fun _ _ h => h)) id)
      have Hrun := Lib.hid (fun W' hk => HP.out j (by rw [Hlen.out.1]; exact hlt) (by rw [Hlen.out.2]; exact hlt) W' hk)
      have hsix := (HV.out j (by rw [Hlen.out.1]; exact hlt)).six
      have hsix' := (HV'.out j (by rw [Hlen.out.2]; exact hlt)).six
      generalize u j 0 = x0 at *
      generalize u j 1 = x1 at *
      generalize u j 2 = x2 at *
      generalize u j 3 = x3 at *
      generalize u j 4 = x4 at *
      generalize u j 5 = x5 at *
      generalize u' j 0 = x0' at *
      generalize u' j 1 = x1' at *
      generalize u' j 2 = x2' at *
      generalize u' j 3 = x3' at *
      generalize u' j 4 = x4' at *
      generalize u' j 5 = x5' at *
      obtain ⟨y0, y1, y2, y3, yA, yn, yc, yB, ym, yd, ⟨rfl, rfl, rfl⟩, rfl, rfl, rfl⟩ := hsix
      obtain ⟨z0, z1, z2, z3, zA, zn, zc, zB, zm, zd, ⟨rfl, rfl, rfl⟩, rfl, rfl, rfl⟩ := hsix'
      obtain ⟨fj, hfj⟩ : ∃ x, sameJ (vs.getD j default) (vs'.getD j default) = x := ⟨_, rfl⟩
      rw [hfj] at Hrun
      have Hfj := Lib.hid hfj
      clear h6 h6' hfj
      cases fj
      · skip
        go_wp2_with (first
         | ((with_reducible refine at_dst (N := 8) rfl ?_); go_must (refine ev_alloc rfl rfl zero25 rfl ?_; intro g5 w2 hg5 hl5 hb5 hk5)
            have Hb5 := Lib.hid hb5
            have HK2 := Lib.hid hk5
            clear hb5 hk5
            (try simp only [PU]))
         | ((with_reducible refine at_store (t := 25) (p := 8) rfl ?_); go_must (refine ev_store (cs' := #[.int .i64 y0, .bool y1, .int .i64 y2, .string y3, .slice yA yn yc, .slice yB ym yd]) rfl rfl rfl rfl rfl rfl HI.out.1 HI.out.2 rfl Hb5.out (Nat.le_of_ble_eq_true rfl) rfl ?_; intro w3 hb3 hk3)
            have HKa := Lib.hid (show Keeps Nob wr w3 from HK2.out.own hk3 hg5)
            have HK3 := Lib.hid (show Keeps Nob W w3 from HKr.out.trans HKa.out (fun _ _ h => h))
            have Hb3 := Lib.hid hb3
            clear e0 e1 e2 e3 e4 e5
            obtain ⟨⟨e0, e1, e2⟩, e3, e4, e5⟩ := H6'.out.keep HKa.out id
            clear hb3 hk3
            (try simp only [PU]))
         | ((with_reducible refine at_dst (N := 9) rfl ?_); go_must (refine ev_alloc rfl rfl zero25 rfl ?_; intro g6 w4 hg6 hl6 hb6 hk6)
            have Hb6 := Lib.hid hb6
            have HK4 := Lib.hid hk6
            clear hb6 hk6
            (try simp only [PU]))
         | ((with_reducible refine at_store (t := 25) (p := 9) rfl ?_); go_must (refine ev_store (cs' := #[.int .i64 z0, .bool z1, .int .i64 z2, .string z3, .slice zA zn zc, .slice zB zm zd]) rfl rfl rfl rfl rfl rfl HI.out.1 HI.out.2 rfl Hb6.out (Nat.le_of_ble_eq_true rfl) rfl ?_; intro w5 hb7 hk7)
            have HKb := Lib.hid (show Keeps Nob w3 w5 from HK4.out.own hk7 hg6)
            have HK5 := Lib.hid (show Keeps Nob W w5 from HK3.out.trans HKb.out (fun _ _ h => h))
            have hb8 := HKb.out.blk Hb3.out id
            have s0 := (blk_cell hb8 0).trans rfl
            have s1 := (blk_cell hb8 1).trans rfl
            have s2 := (blk_cell hb8 2).trans rfl
            have s3 := (blk_cell hb8 3).trans rfl
            have s4 := (blk_cell hb8 4).trans rfl
            have s5 := (blk_cell hb8 5).trans rfl
            have r0 := (blk_cell hb7 0).trans rfl
            have r1 := (blk_cell hb7 1).trans rfl
            have r2 := (blk_cell hb7 2).trans rfl
            have r3 := (blk_cell hb7 3).trans rfl
            have r4 := (blk_cell hb7 4).trans rfl
            have r5 := (blk_cell hb7 5).trans rfl
            clear hb7 hk7 hb8
            (try simp only [PU]))
         | (go_at_call 23; go_must (refine (Hrun.out w5 (HW.out.trans HK5.out (fun _ _ h => h))).mono ?_; rintro e w6 ⟨rfl, hk8⟩); have HK6 := Lib.hid (HK5.out.trans hk8 (fun _ _ h => h)); clear hk8; (try simp only [PU]))
        )
        go_ret
        refine ⟨?_, HK6.out⟩
        rcases hfl : sameL vs vs' with _ | _
        · rw [← HR.out, hfl]; rfl
        · have := (sameL_get vs vs' (by rw [Hlen.out.1, Hlen.out.2])).1 hfl j (by rw [Hlen.out.1]; exact hlt)
          rw [Hfj.out] at this
          cases this
      · skip
        go_wp2_with (first
         | ((with_reducible refine at_dst (N := 8) rfl ?_); go_must (refine ev_alloc rfl rfl zero25 rfl ?_; intro g5 w2 hg5 hl5 hb5 hk5)
            have Hb5 := Lib.hid hb5
            have HK2 := Lib.hid hk5
            clear hb5 hk5
            (try simp only [PU]))
         | ((with_reducible refine at_store (t := 25) (p := 8) rfl ?_); go_must (refine ev_store (cs' := #[.int .i64 y0, .bool y1, .int .i64 y2, .string y3, .slice yA yn yc, .slice yB ym yd]) rfl rfl rfl rfl rfl rfl HI.out.1 HI.out.2 rfl Hb5.out (Nat.le_of_ble_eq_true rfl) rfl ?_; intro w3 hb3 hk3)
            have HKa := Lib.hid (show Keeps Nob wr w3 from HK2.out.own hk3 hg5)
            have HK3 := Lib.hid (show Keeps Nob W w3 from HKr.out.trans HKa.out (fun _ _ h => h))
            have Hb3 := Lib.hid hb3
            clear e0 e1 e2 e3 e4 e5
            obtain ⟨⟨e0, e1, e2⟩, e3, e4, e5⟩ := H6'.out.keep HKa.out id
            clear hb3 hk3
            (try simp only [PU]))
         | ((with_reducible refine at_dst (N := 9) rfl ?_); go_must (refine ev_alloc rfl rfl zero25 rfl ?_; intro g6 w4 hg6 hl6 hb6 hk6)
            have Hb6 := Lib.hid hb6
            have HK4 := Lib.hid hk6
            clear hb6 hk6
            (try simp only [PU]))
         | ((with_reducible refine at_store (t := 25) (p := 9) rfl ?_); go_must (refine ev_store (cs' := #[.int .i64 z0, .bool z1, .int .i64 z2, .string z3, .slice zA zn zc, .slice zB zm zd]) rfl rfl rfl rfl rfl rfl HI.out.1 HI.out.2 rfl Hb6.out (Nat.le_of_ble_eq_true rfl) rfl ?_; intro w5 hb7 hk7)
            have HKb := Lib.hid (show Keeps Nob w3 w5 from HK4.out.own hk7 hg6)
            have HK5 := Lib.hid (show Keeps Nob W w5 from HK3.out.trans HKb.out (fun _ _ h => h))
            have hb8 := HKb.out.blk Hb3.out id
            have s0 := (blk_cell hb8 0).trans rfl
            have s1 := (blk_cell hb8 1).trans rfl
            have s2 := (blk_cell hb8 2).trans rfl
            have s3 := (blk_cell hb8 3).trans rfl
            have s4 := (blk_cell hb8 4).trans rfl
            have s5 := (blk_cell hb8 5).trans rfl
            have r0 := (blk_cell hb7 0).trans rfl
            have r1 := (blk_cell hb7 1).trans rfl
            have r2 := (blk_cell hb7 2).trans rfl
            have r3 := (blk_cell hb7 3).trans rfl
            have r4 := (blk_cell hb7 4).trans rfl
            have r5 := (blk_cell hb7 5).trans rfl
            clear hb7 hk7 hb8
            (try simp only [PU]))
         | (go_at_call 23; go_must (refine (Hrun.out w5 (HW.out.trans HK5.out (fun _ _ h => h))).mono ?_; rintro e w6 ⟨rfl, hk8⟩); have HK6 := Lib.hid (HK5.out.trans hk8 (fun _ _ h => h)); clear hk8; (try simp only [PU]))
        )
        go_roundw
        case rel =>
         refine ⟨j + 1, by go_num, by omega, HK6, Lib.hid (fun i hi => ?_)⟩
         by_cases e : i = j
         · rw [e]; exact Hfj.out
         · exact HF.out i (by omega)
        case measure => simp [intOf]; omega
    · have hj' : j = len := by omega
      subst hj'
      go_wp2
      go_ret
      have hfl := (sameL_get vs vs' (by rw [Hlen.out.1, Hlen.out.2])).2 (fun i hi => HF.out i (by rw [← Hlen.out.1]; exact hi))
      rw [HR.out] at hfl
      exact ⟨by rw [hfl]; rfl, HKr.out⟩
 · rw [sameL_len vs vs' hn]
   generalize vs.length = n at *
   generalize vs'.length = n' at *
   go_enter Tryd.func55, Tryd.ntmps55
   go_wp2
   go_ret
   exact ⟨rfl, Keeps.refl _ _⟩
end Go.Proofs.WV

namespace Go.Proofs.WV
open Go.RowKit Go.Proofs.KL Go.Proofs.WM
set_option maxRecDepth 100000
set_option linter.unusedSimpArgs false
set_option linter.unusedVariables false

def sameC (k k' : Int) (b b' : Bool) (n n' : Int) (t t' : ByteArray) (E1 E2 : Bool) : Bool := decide (k = k') && (b == b') && decide (n = n') && decide (t.toList = t'.toList) && E1 && E2
theorem str_eq (t t' : ByteArray) : decide (t = t') = decide (t.toList = t'.toList) := by
 rw [decide_eq_decide, Lib.toList_data, Lib.toList_data]
 constructor
 · rintro rfl; rfl
 · intro h; obtain ⟨a⟩ := t; obtain ⟨a'⟩ := t'; have h2 : a = a' := Array.toList_inj.1 h; rw [h2]
set_option maxHeartbeats 4000000 in
theorem same23 {w : World} {X Y : Nat → Prop} {v : Value} {j : J} (h : JX w X v j) : ∀ (v2 : Value) (j2 : J), JX w Y v2 j2 → ∀ W, Keeps Nob w W → sizeJ j ≤ 1000000000000 → sizeJ j2 ≤ 1000000000000 → Calls Tryd.prog 23 #[v, v2] W fun e w' => e = .returned (.bool (sameJ j j2)) ∧ Keeps Nob W w' := by
 induction h with
 | mk k b n t ks vs kv A c u h1 hc hA hv ih =>
   intro v2 j2 h2 W hW hb hb2
   cases h2 with
   | mk k' b' n' t' ks' vs' kv' A' c' u' h1' hc' hA' hv' =>
     have hsz : vs.length ≤ 1000000000000 ∧ ks.length ≤ 1000000000000 ∧ sizeL vs ≤ 1000000000000 := by have h1 := size_len vs; unfold sizeJ at hb; omega
     have hsz2 : vs'.length ≤ 1000000000000 ∧ ks'.length ≤ 1000000000000 ∧ sizeL vs' ≤ 1000000000000 := by have h1 := size_len vs'; unfold sizeJ at hb2; omega
     obtain ⟨kA, kc, rfl, hkc, hkx⟩ := id h1
     obtain ⟨kA', kc', rfl, hkc', hkx'⟩ := id h1'
     have H54 := Lib.hid (fun W' (hk : Keeps Nob w W') => equal54 (h1.after hk) (h1'.after hk) hsz.2.1 hsz2.2.1)
     have H55 := Lib.hid (fun W' (hk : Keeps Nob w W') => equal55 (c := c) (c' := c') hk hsz.1 hsz2.1 hA hv hA' hv' (fun i hi hi' W'' hk' => ih i hi _ _ (hv' i hi') W'' hk'
      (by have := size_get (vs := vs) (i := i) hi; omega) (by have := size_get (vs := vs') (i := i) hi'; omega)))
     have HW := Lib.hid hW
     have hsame : sameJ (.mk k b n t ks vs) (.mk k' b' n' t' ks' vs') = sameC k k' b b' n n' t t' (decide (ks = ks')) (sameL vs vs') := by unfold sameJ sameC; rw [str_eq]
     rw [hsame]
     obtain ⟨E1, hE1⟩ : ∃ x, decide (ks = ks') = x := ⟨_, rfl⟩
     obtain ⟨E2, hE2⟩ : ∃ x, sameL vs vs' = x := ⟨_, rfl⟩
     rw [hE1] at H54 ⊢
     rw [hE2] at H55 ⊢
     generalize ks.length = nk at *
     generalize vs.length = nv at *
     generalize ks'.length = nk' at *
     generalize vs'.length = nv' at *
     clear h1 h1' hc hc' hA hA' hv hv' ih hW hb hb2 hsz hsz2 hkc hkc' hkx hkx' hsame hE1 hE2
     obtain ⟨R, hR⟩ : ∃ x, sameC k k' b b' n n' t t' E1 E2 = x := ⟨_, rfl⟩
     rw [hR]
     have HR := Lib.hid hR
     clear hR
     go_enter Tryd.func23, Tryd.ntmps23
     go_wp2_with (first
      | ((with_reducible refine at_dst (N := 2) rfl ?_); go_must (refine ev_box (cs := #[.int .i64 k, .bool b, .int .i64 n, .string t, .slice kA nk kc, .slice A nv c]) rfl rfl rfl ?_; intro g1 w1 hg1 hl1 hb1 hk1)
         have Hb1 := Lib.hid hb1
         have HK1 := Lib.hid hk1
         clear hb1 hk1
         (try simp only [PU]))
      | ((with_reducible refine at_dst (N := 3) rfl ?_); go_must (refine ev_box (cs := #[.int .i64 k', .bool b', .int .i64 n', .string t', .slice kA' nk' kc', .slice A' nv' c']) rfl rfl rfl ?_; intro g2 w2 hg2 hl2 hb2 hk2)
         have hb3 := hk2.blk Hb1.out id
         have s0 := (blk_cell hb3 0).trans rfl
         have s1 := (blk_cell hb3 1).trans rfl
         have s2 := (blk_cell hb3 2).trans rfl
         have s3 := (blk_cell hb3 3).trans rfl
         have s4 := (blk_cell hb3 4).trans rfl
         have r0 := (blk_cell hb2 0).trans rfl
         have r1 := (blk_cell hb2 1).trans rfl
         have r2 := (blk_cell hb2 2).trans rfl
         have r3 := (blk_cell hb2 3).trans rfl
         have r4 := (blk_cell hb2 4).trans rfl
         have Hb2 := Lib.hid (And.intro hb3 hb2)
         have HK2 := Lib.hid (HK1.out.trans hk2 (fun _ _ h => h))
         clear hb2 hk2 hb3
         (try simp only [PU]))
      | (go_at_call 54; go_must (refine (H54.out w2 (HW.out.trans HK2.out (fun _ _ h => h))).mono ?_; rintro e w3 ⟨rfl, hk3⟩)
         have s5 := (blk_cell (hk3.blk Hb2.out.1 id) 5).trans rfl
         have r5 := (blk_cell (hk3.blk Hb2.out.2 id) 5).trans rfl
         have HK3 := Lib.hid (HK2.out.trans hk3 (fun _ _ h => h)); clear hk3; (try simp only [PU]))
      | (go_at_call 55; go_must (refine (H55.out w3 (HW.out.trans HK3.out (fun _ _ h => h))).mono ?_; rintro e w4 ⟨rfl, hk4⟩); have HK4 := Lib.hid (HK3.out.trans hk4 (fun _ _ h => h)); clear hk4; (try simp only [PU]))
     )
     all_goals
      go_ret
      refine ⟨?_, by first | exact HK4.out | exact HK3.out | exact HK2.out⟩
      rw [← HR.out]
      first
      | (simp [sameC, *]; done)
      | (simp_all [sameC]; done)
end Go.Proofs.WV

namespace Go.Proofs.WV
open Go.RowKit Go.Proofs.KL Go.Proofs.WM
set_option maxRecDepth 100000
set_option linter.unusedSimpArgs false
set_option linter.unusedVariables false

theorem keys_eq (ks ks' : List ByteArray) (hl : ks.length = ks'.length) : ks = ks' ↔ ∀ i, i < ks.length → ks.getD i ByteArray.empty = ks'.getD i ByteArray.empty := by
 constructor
 · rintro rfl i _; rfl
 · intro h
   refine List.ext_getElem hl (fun i h1 h2 => ?_)
   have := h i h1
   simpa [List.getD_eq_getElem?_getD, h1, h2] using this
theorem str_ne {t t' : ByteArray} (h : ¬ t = t') : ¬ t.toList = t'.toList := fun e => h (by
 have := str_eq t t'
 rw [decide_eq_true e] at this
 exact of_decide_eq_true this)
def diffC (k k' : Int) (b b' : Bool) (n n' : Int) (t t' : ByteArray) (nk nk' nv nv' : Nat) : Prop := k ≠ k' ∨ b ≠ b' ∨ n ≠ n' ∨ t ≠ t' ∨ nk ≠ nk' ∨ nv ≠ nv'
set_option maxHeartbeats 4000000 in
theorem differ20 {W : World} {k k' : Int} {b b' : Bool} {n n' : Int} {t t' : ByteArray} {kA kA' A A' : Option Addr} {nk nk' kc kc' nv nv' c c' : Nat} (h : diffC k k' b b' n n' t t' nk nk' nv nv') :
  Calls Tryd.prog 20 #[.agg #[.int .i64 k, .bool b, .int .i64 n, .string t, .slice kA nk kc, .slice A nv c], .agg #[.int .i64 k', .bool b', .int .i64 n', .string t', .slice kA' nk' kc', .slice A' nv' c']] W fun e w' => e = .returned (.bool false) ∧ Keeps Nob W w' := by
 unfold diffC at h
 by_cases h0 : k = k'
 · subst h0
   by_cases h1 : b = b'
   · subst h1
     by_cases h2 : n = n'
     · subst h2
       by_cases h3 : t = t'
       · subst h3
         by_cases h4 : nk = nk'
         · subst h4
           have h5 : nv ≠ nv' := by
            rcases h with h | h | h | h | h | h
            · exact absurd rfl h
            · exact absurd rfl h
            · exact absurd rfl h
            · exact absurd rfl h
            · exact absurd rfl h
            · exact h
           have q1 : ((nv : Int) != (nv' : Int)) = true := by simp; omega
           clear h
           go_enter Tryd.func20, Tryd.ntmps20
           go_wp2_with (first
            | ((with_reducible refine at_dst (N := 2) rfl ?_); go_must (refine ev_box (cs := #[.int .i64 k, .bool b, .int .i64 n, .string t, .slice kA nk kc, .slice A nv c]) rfl rfl rfl ?_; intro g1 w1 hg1 hl1 hb1 hk1)
               have Hb1 := Lib.hid hb1
               have HK1 := Lib.hid hk1
               clear hb1 hk1
               (try simp only [PU]))
            | ((with_reducible refine at_dst (N := 3) rfl ?_); go_must (refine ev_box (cs := #[.int .i64 k, .bool b, .int .i64 n, .string t, .slice kA' nk kc', .slice A' nv' c']) rfl rfl rfl ?_; intro g2 w2 hg2 hl2 hb2 hk2)
               have hb3 := hk2.blk Hb1.out id
               have s0 := (blk_cell hb3 0).trans rfl
               have s1 := (blk_cell hb3 1).trans rfl
               have s2 := (blk_cell hb3 2).trans rfl
               have s3 := (blk_cell hb3 3).trans rfl
               have s4 := (blk_cell hb3 4).trans rfl
               have s5 := (blk_cell hb3 5).trans rfl
               have r0 := (blk_cell hb2 0).trans rfl
               have r1 := (blk_cell hb2 1).trans rfl
               have r2 := (blk_cell hb2 2).trans rfl
               have r3 := (blk_cell hb2 3).trans rfl
               have r4 := (blk_cell hb2 4).trans rfl
               have r5 := (blk_cell hb2 5).trans rfl
               have HK2 := Lib.hid (HK1.out.trans hk2 (fun _ _ h => h))
               clear hb2 hk2 hb3
               (try simp only [PU]))
           )
           go_ret
           exact ⟨rfl, HK2.out⟩
         · have q1 : ((nk : Int) != (nk' : Int)) = true := by simp; omega
           clear h
           go_enter Tryd.func20, Tryd.ntmps20
           go_wp2_with (first
            | ((with_reducible refine at_dst (N := 2) rfl ?_); go_must (refine ev_box (cs := #[.int .i64 k, .bool b, .int .i64 n, .string t, .slice kA nk kc, .slice A nv c]) rfl rfl rfl ?_; intro g1 w1 hg1 hl1 hb1 hk1)
               have Hb1 := Lib.hid hb1
               have HK1 := Lib.hid hk1
               clear hb1 hk1
               (try simp only [PU]))
            | ((with_reducible refine at_dst (N := 3) rfl ?_); go_must (refine ev_box (cs := #[.int .i64 k, .bool b, .int .i64 n, .string t, .slice kA' nk' kc', .slice A' nv' c']) rfl rfl rfl ?_; intro g2 w2 hg2 hl2 hb2 hk2)
               have hb3 := hk2.blk Hb1.out id
               have s0 := (blk_cell hb3 0).trans rfl
               have s1 := (blk_cell hb3 1).trans rfl
               have s2 := (blk_cell hb3 2).trans rfl
               have s3 := (blk_cell hb3 3).trans rfl
               have s4 := (blk_cell hb3 4).trans rfl
               have s5 := (blk_cell hb3 5).trans rfl
               have r0 := (blk_cell hb2 0).trans rfl
               have r1 := (blk_cell hb2 1).trans rfl
               have r2 := (blk_cell hb2 2).trans rfl
               have r3 := (blk_cell hb2 3).trans rfl
               have r4 := (blk_cell hb2 4).trans rfl
               have r5 := (blk_cell hb2 5).trans rfl
               have HK2 := Lib.hid (HK1.out.trans hk2 (fun _ _ h => h))
               clear hb2 hk2 hb3
               (try simp only [PU]))
           )
           go_ret
           exact ⟨rfl, HK2.out⟩
       · have q1 := str_ne h3
         clear h
         go_enter Tryd.func20, Tryd.ntmps20
         go_wp2_with (first
          | ((with_reducible refine at_dst (N := 2) rfl ?_); go_must (refine ev_box (cs := #[.int .i64 k, .bool b, .int .i64 n, .string t, .slice kA nk kc, .slice A nv c]) rfl rfl rfl ?_; intro g1 w1 hg1 hl1 hb1 hk1)
             have Hb1 := Lib.hid hb1
             have HK1 := Lib.hid hk1
             clear hb1 hk1
             (try simp only [PU]))
          | ((with_reducible refine at_dst (N := 3) rfl ?_); go_must (refine ev_box (cs := #[.int .i64 k, .bool b, .int .i64 n, .string t', .slice kA' nk' kc', .slice A' nv' c']) rfl rfl rfl ?_; intro g2 w2 hg2 hl2 hb2 hk2)
             have hb3 := hk2.blk Hb1.out id
             have s0 := (blk_cell hb3 0).trans rfl
             have s1 := (blk_cell hb3 1).trans rfl
             have s2 := (blk_cell hb3 2).trans rfl
             have s3 := (blk_cell hb3 3).trans rfl
             have s4 := (blk_cell hb3 4).trans rfl
             have s5 := (blk_cell hb3 5).trans rfl
             have r0 := (blk_cell hb2 0).trans rfl
             have r1 := (blk_cell hb2 1).trans rfl
             have r2 := (blk_cell hb2 2).trans rfl
             have r3 := (blk_cell hb2 3).trans rfl
             have r4 := (blk_cell hb2 4).trans rfl
             have r5 := (blk_cell hb2 5).trans rfl
             have HK2 := Lib.hid (HK1.out.trans hk2 (fun _ _ h => h))
             clear hb2 hk2 hb3
             (try simp only [PU]))
         )
         go_ret
         exact ⟨rfl, HK2.out⟩
     · have q1 : (n != n') = true := by simpa using h2
       clear h
       go_enter Tryd.func20, Tryd.ntmps20
       go_wp2_with (first
        | ((with_reducible refine at_dst (N := 2) rfl ?_); go_must (refine ev_box (cs := #[.int .i64 k, .bool b, .int .i64 n, .string t, .slice kA nk kc, .slice A nv c]) rfl rfl rfl ?_; intro g1 w1 hg1 hl1 hb1 hk1)
           have Hb1 := Lib.hid hb1
           have HK1 := Lib.hid hk1
           clear hb1 hk1
           (try simp only [PU]))
        | ((with_reducible refine at_dst (N := 3) rfl ?_); go_must (refine ev_box (cs := #[.int .i64 k, .bool b, .int .i64 n', .string t', .slice kA' nk' kc', .slice A' nv' c']) rfl rfl rfl ?_; intro g2 w2 hg2 hl2 hb2 hk2)
           have hb3 := hk2.blk Hb1.out id
           have s0 := (blk_cell hb3 0).trans rfl
           have s1 := (blk_cell hb3 1).trans rfl
           have s2 := (blk_cell hb3 2).trans rfl
           have s3 := (blk_cell hb3 3).trans rfl
           have s4 := (blk_cell hb3 4).trans rfl
           have s5 := (blk_cell hb3 5).trans rfl
           have r0 := (blk_cell hb2 0).trans rfl
           have r1 := (blk_cell hb2 1).trans rfl
           have r2 := (blk_cell hb2 2).trans rfl
           have r3 := (blk_cell hb2 3).trans rfl
           have r4 := (blk_cell hb2 4).trans rfl
           have r5 := (blk_cell hb2 5).trans rfl
           have HK2 := Lib.hid (HK1.out.trans hk2 (fun _ _ h => h))
           clear hb2 hk2 hb3
           (try simp only [PU]))
       )
       go_ret
       exact ⟨rfl, HK2.out⟩
   · clear h
     cases b
     · cases b'
       · exact absurd rfl h1
       clear h1
       go_enter Tryd.func20, Tryd.ntmps20
       go_wp2_with (first
        | ((with_reducible refine at_dst (N := 2) rfl ?_); go_must (refine ev_box (cs := #[.int .i64 k, .bool false, .int .i64 n, .string t, .slice kA nk kc, .slice A nv c]) rfl rfl rfl ?_; intro g1 w1 hg1 hl1 hb1 hk1)
           have Hb1 := Lib.hid hb1
           have HK1 := Lib.hid hk1
           clear hb1 hk1
           (try simp only [PU]))
        | ((with_reducible refine at_dst (N := 3) rfl ?_); go_must (refine ev_box (cs := #[.int .i64 k, .bool true, .int .i64 n', .string t', .slice kA' nk' kc', .slice A' nv' c']) rfl rfl rfl ?_; intro g2 w2 hg2 hl2 hb2 hk2)
           have hb3 := hk2.blk Hb1.out id
           have s0 := (blk_cell hb3 0).trans rfl
           have s1 := (blk_cell hb3 1).trans rfl
           have s2 := (blk_cell hb3 2).trans rfl
           have s3 := (blk_cell hb3 3).trans rfl
           have s4 := (blk_cell hb3 4).trans rfl
           have s5 := (blk_cell hb3 5).trans rfl
           have r0 := (blk_cell hb2 0).trans rfl
           have r1 := (blk_cell hb2 1).trans rfl
           have r2 := (blk_cell hb2 2).trans rfl
           have r3 := (blk_cell hb2 3).trans rfl
           have r4 := (blk_cell hb2 4).trans rfl
           have r5 := (blk_cell hb2 5).trans rfl
           have HK2 := Lib.hid (HK1.out.trans hk2 (fun _ _ h => h))
           clear hb2 hk2 hb3
           (try simp only [PU]))
       )
       go_ret
       exact ⟨rfl, HK2.out⟩
     · cases b'
       case true => exact absurd rfl h1
       clear h1
       go_enter Tryd.func20, Tryd.ntmps20
       go_wp2_with (first
        | ((with_reducible refine at_dst (N := 2) rfl ?_); go_must (refine ev_box (cs := #[.int .i64 k, .bool true, .int .i64 n, .string t, .slice kA nk kc, .slice A nv c]) rfl rfl rfl ?_; intro g1 w1 hg1 hl1 hb1 hk1)
           have Hb1 := Lib.hid hb1
           have HK1 := Lib.hid hk1
           clear hb1 hk1
           (try simp only [PU]))
        | ((with_reducible refine at_dst (N := 3) rfl ?_); go_must (refine ev_box (cs := #[.int .i64 k, .bool false, .int .i64 n', .string t', .slice kA' nk' kc', .slice A' nv' c']) rfl rfl rfl ?_; intro g2 w2 hg2 hl2 hb2 hk2)
           have hb3 := hk2.blk Hb1.out id
           have s0 := (blk_cell hb3 0).trans rfl
           have s1 := (blk_cell hb3 1).trans rfl
           have s2 := (blk_cell hb3 2).trans rfl
           have s3 := (blk_cell hb3 3).trans rfl
           have s4 := (blk_cell hb3 4).trans rfl
           have s5 := (blk_cell hb3 5).trans rfl
           have r0 := (blk_cell hb2 0).trans rfl
           have r1 := (blk_cell hb2 1).trans rfl
           have r2 := (blk_cell hb2 2).trans rfl
           have r3 := (blk_cell hb2 3).trans rfl
           have r4 := (blk_cell hb2 4).trans rfl
           have r5 := (blk_cell hb2 5).trans rfl
           have HK2 := Lib.hid (HK1.out.trans hk2 (fun _ _ h => h))
           clear hb2 hk2 hb3
           (try simp only [PU]))
       )
       go_ret
       exact ⟨rfl, HK2.out⟩
 · have q1 : (k != k') = true := by simpa using h0
   clear h
   go_enter Tryd.func20, Tryd.ntmps20
   go_wp2_with (first
    | ((with_reducible refine at_dst (N := 2) rfl ?_); go_must (refine ev_box (cs := #[.int .i64 k, .bool b, .int .i64 n, .string t, .slice kA nk kc, .slice A nv c]) rfl rfl rfl ?_; intro g1 w1 hg1 hl1 hb1 hk1)
       have Hb1 := Lib.hid hb1
       have HK1 := Lib.hid hk1
       clear hb1 hk1
       (try simp only [PU]))
    | ((with_reducible refine at_dst (N := 3) rfl ?_); go_must (refine ev_box (cs := #[.int .i64 k', .bool b', .int .i64 n', .string t', .slice kA' nk' kc', .slice A' nv' c']) rfl rfl rfl ?_; intro g2 w2 hg2 hl2 hb2 hk2)
       have hb3 := hk2.blk Hb1.out id
       have s0 := (blk_cell hb3 0).trans rfl
       have s1 := (blk_cell hb3 1).trans rfl
       have s2 := (blk_cell hb3 2).trans rfl
       have s3 := (blk_cell hb3 3).trans rfl
       have s4 := (blk_cell hb3 4).trans rfl
       have s5 := (blk_cell hb3 5).trans rfl
       have r0 := (blk_cell hb2 0).trans rfl
       have r1 := (blk_cell hb2 1).trans rfl
       have r2 := (blk_cell hb2 2).trans rfl
       have r3 := (blk_cell hb2 3).trans rfl
       have r4 := (blk_cell hb2 4).trans rfl
       have r5 := (blk_cell hb2 5).trans rfl
       have HK2 := Lib.hid (HK1.out.trans hk2 (fun _ _ h => h))
       clear hb2 hk2 hb3
       (try simp only [PU]))
   )
   go_ret
   exact ⟨rfl, HK2.out⟩
end Go.Proofs.WV

namespace Go.Proofs.WV
open Go.RowKit Go.Proofs.KL Go.Proofs.WM
set_option maxRecDepth 100000
set_option linter.unusedSimpArgs false
set_option linter.unusedVariables false

set_option maxHeartbeats 4000000 in
theorem same20 {w : World} {X Y : Nat → Prop} {v : Value} {j : J} (h : JX w X v j) : ∀ (v2 : Value) (j2 : J), JX w Y v2 j2 → ∀ W, Keeps Nob w W → sizeJ j ≤ 1000000000000 → sizeJ j2 ≤ 1000000000000 → Calls Tryd.prog 20 #[v, v2] W fun e w' => e = .returned (.bool (sameJ j j2)) ∧ Keeps Nob W w' := by
 induction h with
 | mk k b n t ks vs kv A c u h1 hc hA hv ih =>
   intro v2 j2 h2 W hW hb hb2
   cases h2 with
   | mk k' b' n' t' ks' vs' kv' A' c' u' h1' hc' hA' hv' =>
     have hsz : vs.length ≤ 1000000000000 ∧ ks.length ≤ 1000000000000 ∧ sizeL vs ≤ 1000000000000 := by have h1 := size_len vs; unfold sizeJ at hb; omega
     have hsz2 : vs'.length ≤ 1000000000000 ∧ ks'.length ≤ 1000000000000 ∧ sizeL vs' ≤ 1000000000000 := by have h1 := size_len vs'; unfold sizeJ at hb2; omega
     obtain ⟨kA, kc, rfl, hkc, hkx⟩ := id h1
     obtain ⟨kA', kc', rfl, hkc', hkx'⟩ := id h1'
     by_cases hd : diffC k k' b b' n n' t t' ks.length ks'.length vs.length vs'.length
     · have hf : sameJ (.mk k b n t ks vs) (.mk k' b' n' t' ks' vs') = false := by
        rcases hs : sameJ (.mk k b n t ks vs) (.mk k' b' n' t' ks' vs') with _ | _
        · rfl
        · have := (sameJ_iff _ _).1 hs
          injection this with e1 e2 e3 e4 e5 e6
          subst e1 e2 e3 e4 e5 e6
          unfold diffC at hd
          simp at hd
       rw [hf]
       exact differ20 hd
     have hq : (k = k' ∧ b = b' ∧ n = n' ∧ t = t') ∧ ks.length = ks'.length ∧ vs.length = vs'.length := by
      unfold diffC at hd
      simp only [not_or, ne_eq, Decidable.not_not] at hd
      obtain ⟨h1, h2, h3, h4, h5, h6⟩ := hd
      exact ⟨⟨h1, h2, h3, h4⟩, h5, h6⟩
     obtain ⟨⟨rfl, rfl, rfl, rfl⟩, hkl, hvl⟩ := hq
     have hsame : sameJ (.mk k b n t ks vs) (.mk k b n t ks' vs') = (decide (ks = ks') && sameL vs vs') := by unfold sameJ; simp
     rw [hsame]
     obtain ⟨R, hR⟩ : ∃ x, (decide (ks = ks') && sameL vs vs') = x := ⟨_, rfl⟩
     rw [hR]
     have HR := Lib.hid hR
     have HW := Lib.hid hW
     have HA := Lib.hid hA
     have HA' := Lib.hid hA'
     have Hkx := Lib.hid hkx
     have Hkx' := Lib.hid hkx'
     have IH := Lib.hid (fun i (hi : i < vs.length) (hi' : i < vs'.length) W'' hk' => ih i hi _ _ (hv' i hi') W'' hk'
      (by have := size_get (vs := vs) (i := i) hi; omega) (by have := size_get (vs := vs') (i := i) hi'; omega))
     obtain ⟨nk, hnk⟩ : ∃ x, ks.length = x := ⟨_, rfl⟩
     obtain ⟨nv, hnv⟩ : ∃ x, vs.length = x := ⟨_, rfl⟩
     have Hnk := Lib.hid (And.intro hnk (hkl.symm.trans hnk))
     have Hnv := Lib.hid (And.intro hnv (hvl.symm.trans hnv))
     rw [← hkl, ← hvl, hnk, hnv]
     rw [hnk, hnv] at hsz
     obtain ⟨hs1, hs2, -⟩ := hsz
     clear h1 h1' hc hc' hA hA' hv hv' ih hW hb hb2 hsz2 hkc hkc' hkx hkx' hsame hR hd hnk hnv hkl hvl
     go_enter Tryd.func20, Tryd.ntmps20
     go_wp2_with (first
      | ((with_reducible refine at_dst (N := 2) rfl ?_); go_must (refine ev_box (cs := #[.int .i64 k, .bool b, .int .i64 n, .string t, .slice kA nk kc, .slice A nv c]) rfl rfl rfl ?_; intro g1 w1 hg1 hl1 hb1 hk1)
         have Hb1 := Lib.hid hb1
         have HK1 := Lib.hid hk1
         clear hb1 hk1
         (try simp only [PU]))
      | ((with_reducible refine at_dst (N := 3) rfl ?_); go_must (refine ev_box (cs := #[.int .i64 k, .bool b, .int .i64 n, .string t, .slice kA' nk kc', .slice A' nv c']) rfl rfl rfl ?_; intro g2 w2 hg2 hl2 hb2 hk2)
         have hb3 := hk2.blk Hb1.out id
         have s0 := (blk_cell hb3 0).trans rfl
         have s1 := (blk_cell hb3 1).trans rfl
         have s2 := (blk_cell hb3 2).trans rfl
         have s3 := (blk_cell hb3 3).trans rfl
         have s4 := (blk_cell hb3 4).trans rfl
         have s5 := (blk_cell hb3 5).trans rfl
         have r0 := (blk_cell hb2 0).trans rfl
         have r1 := (blk_cell hb2 1).trans rfl
         have r2 := (blk_cell hb2 2).trans rfl
         have r3 := (blk_cell hb2 3).trans rfl
         have r4 := (blk_cell hb2 4).trans rfl
         have r5 := (blk_cell hb2 5).trans rfl
         have Hb2 := Lib.hid (And.intro hb3 hb2)
         have HK2 := Lib.hid (HK1.out.trans hk2 (fun _ _ h => h))
         clear hb2 hk2 hb3
         (try simp only [PU]))
     )
     clear s0 s1 s2 s3 s4 s5 r0 r1 r2 r3 r4 r5
     go_loopw [5, 54] (fun n1 iv wr => ∃ j : Nat, iv = .int .i64 j ∧ j ≤ nk ∧ Hid (Keeps Nob w2 wr) ∧ Hid (∀ i, i < j → ks.getD i ByteArray.empty = ks'.getD i ByteArray.empty)) (fun _ iv _ => nk - (intOf iv).toNat)
     case atStart => exact ⟨0, rfl, Nat.zero_le _, Lib.hid (Keeps.refl _ _), Lib.hid (fun i h => absurd h (Nat.not_lt_zero _))⟩
     case round =>
      obtain ⟨j, rfl, hj, HKr, HF⟩ := hrel
      by_cases hlt : j < nk
      · obtain ⟨q1, o1, rfl, -, x1⟩ := Hkx.out j (by rw [Hnk.out.1]; exact hlt)
        obtain ⟨q2, o2, rfl, -, x2⟩ := Hkx'.out j (by rw [Hnk.out.2]; exact hlt)
        have HKw := Lib.hid (show Keeps Nob w wr from (HW.out.trans HK2.out (fun _ _ h => h)).trans HKr.out (fun _ _ h => h))
        have e1 := HKw.out.cell x1 id
        have e2 := HKw.out.cell x2 id
        have c1 := (blk_cell (HKr.out.blk Hb2.out.1 id) 4).trans rfl
        have c2 := (blk_cell (HKr.out.blk Hb2.out.2 id) 4).trans rfl
        obtain ⟨y1, hy1⟩ : ∃ x, ks.getD j ByteArray.empty = x := ⟨_, rfl⟩
        obtain ⟨y2, hy2⟩ : ∃ x, ks'.getD j ByteArray.empty = x := ⟨_, rfl⟩
        rw [hy1] at e1
        rw [hy2] at e2
        have Hy := Lib.hid (And.intro hy1 hy2)
        clear x1 x2 hy1 hy2
        by_cases hyy : y1 = y2
        · subst hyy
          go_wp2_with fail
          refine wp_region_perm [(0, true), (1, true), (2, true), (3, true), (4, true), (5, true), (6, true), (7, true), (8, true), (9, true), (10, true)] (fun w' => (w'.cell? ⟨g1, 4, none⟩ = some (.slice (some ⟨q1, o1, none⟩) nk kc) ∧ w'.cell? ⟨g2, 4, none⟩ = some (.slice (some ⟨q2, o2, none⟩) nk kc')) ∧ w'.cell? ⟨q1, o1 + j, none⟩ = some (.string y1) ∧ w'.cell? ⟨q2, o2 + j, none⟩ = some (.string y1)) rfl (by kernel_rfl) (by kernel_rfl) (by decide) (fun c a d v w h => by cases d <;> exact h) ⟨⟨c1, c2⟩, e1, e2⟩ ?_
          refine pq (some 57) ?_; (try simp only [PU])
          refine pq (some 58) ?_; (try simp only [PU])
          refine pq (some 59) ?_; (try simp only [PU])
          refine pq (some 60) ?_; (try simp only [PU])
          refine pq (some 61) ?_; (try simp only [PU])
          refine pq (some 62) ?_; (try simp only [PU])
          refine pq (some 63) ?_; (try simp only [PU])
          refine pq (some 64) ?_; (try simp only [PU])
          refine pq (some 65) ?_; (try simp only [PU])
          refine pq (some 66) ?_; (try simp only [PU])
          refine pq (some 67) ?_; (try simp only [PU])
          refine perm_nil ?_
          go_wp2
          go_roundw
          case rel =>
           refine ⟨j + 1, by go_num, by omega, Lib.hid (HKr.out.then (Keeps.refl Nob wr).drew), Lib.hid (fun i hi => ?_)⟩
           by_cases e : i = j
           · rw [e, Hy.out.1, Hy.out.2]
           · exact HF.out i (by omega)
          case measure => simp [intOf]; omega
        · have hne : (y1.toList == y2.toList) = false := by simpa using str_ne hyy
          have Hyy := Lib.hid hyy
          clear hyy
          go_wp2_with fail
          refine wp_region_perm [(0, true), (1, true), (2, true), (3, true), (4, true), (5, true), (6, true), (7, true), (8, true), (9, true), (10, true)] (fun w' => (w'.cell? ⟨g1, 4, none⟩ = some (.slice (some ⟨q1, o1, none⟩) nk kc) ∧ w'.cell? ⟨g2, 4, none⟩ = some (.slice (some ⟨q2, o2, none⟩) nk kc')) ∧ w'.cell? ⟨q1, o1 + j, none⟩ = some (.string y1) ∧ w'.cell? ⟨q2, o2 + j, none⟩ = some (.string y2)) rfl (by kernel_rfl) (by kernel_rfl) (by decide) (fun c a d v w h => by cases d <;> exact h) ⟨⟨c1, c2⟩, e1, e2⟩ ?_
          refine pq (some 57) ?_; (try simp only [PU])
          refine pq (some 58) ?_; (try simp only [PU])
          refine pq (some 59) ?_; (try simp only [PU])
          refine pq (some 60) ?_; (try simp only [PU])
          refine pq (some 61) ?_; (try simp only [PU])
          refine pq (some 62) ?_; (try simp only [PU])
          refine pq (some 63) ?_; (try simp only [PU])
          refine pq (some 64) ?_; (try simp only [PU])
          refine pq (some 65) ?_; (try simp only [PU])
          refine pq (some 66) ?_; (try simp only [PU])
          refine pq (some 67) ?_; (try simp only [PU])
          refine perm_nil ?_
          go_wp2
          go_ret
          refine ⟨?_, HK2.out.trans ((HKr.out.then (Keeps.refl Nob wr).drew)) (fun _ _ h => h)⟩
          have hkn : ¬ ks = ks' := fun e => by
           have := (keys_eq ks ks' (by rw [Hnk.out.1, Hnk.out.2])).1 e j (by rw [Hnk.out.1]; exact hlt)
           rw [Hy.out.1, Hy.out.2] at this
           exact Hyy.out this
          rw [← HR.out, decide_eq_false hkn]
          rfl
      · have hj' : j = nk := by omega
        subst hj'
        obtain ⟨wq, rfl⟩ : ∃ x, x = wr := ⟨_, rfl⟩
        have hkk : ks = ks' := (keys_eq ks ks' (by rw [Hnk.out.1, Hnk.out.2])).2 (fun i hi => HF.out i (by rw [← Hnk.out.1]; exact hi))
        have HRv := Lib.hid (show sameL vs vs' = R by rw [← HR.out, decide_eq_true hkk]; rfl)
        have HK3 := Lib.hid (show Keeps Nob W wq from HK2.out.trans HKr.out (fun _ _ h => h))
        have Hb3 := Lib.hid (And.intro (HKr.out.blk Hb2.out.1 id) (HKr.out.blk Hb2.out.2 id))
        have s5 := (blk_cell Hb3.out.1 5).trans rfl
        clear hkk
        go_wp2
        go_loopw [6, 72] (fun n1 iv wr => ∃ j : Nat, iv = .int .i64 j ∧ j ≤ nv ∧ Hid (Keeps Nob wq wr) ∧ Hid (∀ i, i < j → sameJ (vs.getD i default) (vs'.getD i default) = true)) (fun _ iv _ => nv - (intOf iv).toNat)
        case atStart => exact ⟨0, rfl, Nat.zero_le _, Lib.hid (Keeps.refl _ _), Lib.hid (fun i h => absurd h (Nat.not_lt_zero _))⟩
        case round =>
         obtain ⟨m, rfl, hm, HKm, HG⟩ := hrel
         clear s5
         by_cases hlt2 : m < nv
         · obtain ⟨q1, o1, rfl, -, h6⟩ := HA.out m (by rw [Hnv.out.1]; exact hlt2)
           obtain ⟨q2, o2, rfl, -, h6'⟩ := HA'.out m (by rw [Hnv.out.2]; exact hlt2)
           have HKw := Lib.hid (show Keeps Nob w wr from (HW.out.trans HK3.out (fun _ _ h => h)).trans HKm.out (fun _ _ h => h))
           obtain ⟨⟨e0, e1, e2⟩, e3, e4, e5⟩ := h6.keep HKw.out id
           obtain ⟨⟨f0, f1, f2⟩, f3, f4, f5⟩ := h6'.keep HKw.out id
           have c1 := (blk_cell (HKm.out.blk Hb3.out.1 id) 5).trans rfl
           have c2 := (blk_cell (HKm.out.blk Hb3.out.2 id) 5).trans rfl
           have Hrun := Lib.hid (fun W' hk => IH.out m (by rw [Hnv.out.1]; exact hlt2) (by rw [Hnv.out.2]; exact hlt2) W' hk)
           generalize u m 0 = x0 at *
           generalize u m 1 = x1 at *
           generalize u m 2 = x2 at *
           generalize u m 3 = x3 at *
           generalize u m 4 = x4 at *
           generalize u m 5 = x5 at *
           generalize u' m 0 = x0' at *
           generalize u' m 1 = x1' at *
           generalize u' m 2 = x2' at *
           generalize u' m 3 = x3' at *
           generalize u' m 4 = x4' at *
           generalize u' m 5 = x5' at *
           obtain ⟨fj, hfj⟩ : ∃ x, sameJ (vs.getD m default) (vs'.getD m default) = x := ⟨_, rfl⟩
           rw [hfj] at Hrun
           have Hfj := Lib.hid hfj
           clear h6 h6' hfj
           cases fj
           · skip
             go_wp2_with fail
             refine wp_region_perm [(0, true), (1, true), (2, true), (3, true), (4, true), (5, true), (6, true), (7, true), (8, true), (9, true), (10, false), (11, true)] (fun w' => (w'.cell? ⟨g1, 5, none⟩ = some (.slice (some ⟨q1, o1, none⟩) nv c) ∧ w'.cell? ⟨g2, 5, none⟩ = some (.slice (some ⟨q2, o2, none⟩) nv c')) ∧ (w'.cell? ⟨q1, o1 + m * 6, none⟩ = some x0 ∧ w'.cell? ⟨q1, o1 + m * 6 + 1, none⟩ = some x1 ∧ w'.cell? ⟨q1, o1 + m * 6 + 2, none⟩ = some x2 ∧ w'.cell? ⟨q1, o1 + m * 6 + 3, none⟩ = some x3 ∧ w'.cell? ⟨q1, o1 + m * 6 + 4, none⟩ = some x4 ∧ w'.cell? ⟨q1, o1 + m * 6 + 5, none⟩ = some x5) ∧ w'.cell? ⟨q2, o2 + m * 6, none⟩ = some x0' ∧ w'.cell? ⟨q2, o2 + m * 6 + 1, none⟩ = some x1' ∧ w'.cell? ⟨q2, o2 + m * 6 + 2, none⟩ = some x2' ∧ w'.cell? ⟨q2, o2 + m * 6 + 3, none⟩ = some x3' ∧ w'.cell? ⟨q2, o2 + m * 6 + 4, none⟩ = some x4' ∧ w'.cell? ⟨q2, o2 + m * 6 + 5, none⟩ = some x5') rfl (by kernel_rfl) (by kernel_rfl) (by decide) (fun c a d v w h => by cases d <;> exact h) ⟨⟨c1, c2⟩, ⟨e0, e1, e2, e3, e4, e5⟩, f0, f1, f2, f3, f4, f5⟩ ?_
             refine pq (some 75) ?_; (try simp only [PU])
             refine pq (some 76) ?_; (try simp only [PU])
             refine pq (some 77) ?_; (try simp only [PU])
             refine pq (some 78) ?_; (try simp only [PU])
             refine pq (some 79) ?_; (try simp only [PU])
             refine pq (some 80) ?_; (try simp only [PU])
             refine pq (some 81) ?_; (try simp only [PU])
             refine pq (some 82) ?_; (try simp only [PU])
             refine pq (some 83) ?_; (try simp only [PU])
             refine pq (some 84) ?_; (try simp only [PU])
             refine perm_e rfl ?_
             go_wp2_with (go_at_call 20; go_must (refine (Hrun.out _ (HKw.out.then (Keeps.refl Nob wr).drew)).mono ?_; rintro e w4 ⟨rfl, hk4⟩))
             have HK4 := Lib.hid hk4
             clear hk4
             (try simp only [PU])
             refine ⟨⟨⟨HK4.out.cell (w := wr.drew) c1 id, HK4.out.cell (w := wr.drew) c2 id⟩, ⟨HK4.out.cell (w := wr.drew) e0 id, HK4.out.cell (w := wr.drew) e1 id, HK4.out.cell (w := wr.drew) e2 id, HK4.out.cell (w := wr.drew) e3 id, HK4.out.cell (w := wr.drew) e4 id, HK4.out.cell (w := wr.drew) e5 id⟩, HK4.out.cell (w := wr.drew) f0 id, HK4.out.cell (w := wr.drew) f1 id, HK4.out.cell (w := wr.drew) f2 id, HK4.out.cell (w := wr.drew) f3 id, HK4.out.cell (w := wr.drew) f4 id, HK4.out.cell (w := wr.drew) f5 id⟩, ?_⟩
             refine pq (some 86) ?_; (try simp only [PU])
             refine perm_nil ?_
             go_wp2
             go_ret
             refine ⟨?_, HK3.out.trans (HKm.out.trans ((Keeps.refl Nob wr).drew.trans HK4.out (fun _ _ h => h)) (fun _ _ h => h)) (fun _ _ h => h)⟩
             rcases hfl : sameL vs vs' with _ | _
             · rw [← HRv.out, hfl]; rfl
             · have := (sameL_get vs vs' (by rw [Hnv.out.1, Hnv.out.2])).1 hfl m (by rw [Hnv.out.1]; exact hlt2)
               rw [Hfj.out] at this
               cases this
           · skip
             go_wp2_with fail
             refine wp_region_perm [(0, true), (1, true), (2, true), (3, true), (4, true), (5, true), (6, true), (7, true), (8, true), (9, true), (10, false), (11, true)] (fun w' => (w'.cell? ⟨g1, 5, none⟩ = some (.slice (some ⟨q1, o1, none⟩) nv c) ∧ w'.cell? ⟨g2, 5, none⟩ = some (.slice (some ⟨q2, o2, none⟩) nv c')) ∧ (w'.cell? ⟨q1, o1 + m * 6, none⟩ = some x0 ∧ w'.cell? ⟨q1, o1 + m * 6 + 1, none⟩ = some x1 ∧ w'.cell? ⟨q1, o1 + m * 6 + 2, none⟩ = some x2 ∧ w'.cell? ⟨q1, o1 + m * 6 + 3, none⟩ = some x3 ∧ w'.cell? ⟨q1, o1 + m * 6 + 4, none⟩ = some x4 ∧ w'.cell? ⟨q1, o1 + m * 6 + 5, none⟩ = some x5) ∧ w'.cell? ⟨q2, o2 + m * 6, none⟩ = some x0' ∧ w'.cell? ⟨q2, o2 + m * 6 + 1, none⟩ = some x1' ∧ w'.cell? ⟨q2, o2 + m * 6 + 2, none⟩ = some x2' ∧ w'.cell? ⟨q2, o2 + m * 6 + 3, none⟩ = some x3' ∧ w'.cell? ⟨q2, o2 + m * 6 + 4, none⟩ = some x4' ∧ w'.cell? ⟨q2, o2 + m * 6 + 5, none⟩ = some x5') rfl (by kernel_rfl) (by kernel_rfl) (by decide) (fun c a d v w h => by cases d <;> exact h) ⟨⟨c1, c2⟩, ⟨e0, e1, e2, e3, e4, e5⟩, f0, f1, f2, f3, f4, f5⟩ ?_
             refine pq (some 75) ?_; (try simp only [PU])
             refine pq (some 76) ?_; (try simp only [PU])
             refine pq (some 77) ?_; (try simp only [PU])
             refine pq (some 78) ?_; (try simp only [PU])
             refine pq (some 79) ?_; (try simp only [PU])
             refine pq (some 80) ?_; (try simp only [PU])
             refine pq (some 81) ?_; (try simp only [PU])
             refine pq (some 82) ?_; (try simp only [PU])
             refine pq (some 83) ?_; (try simp only [PU])
             refine pq (some 84) ?_; (try simp only [PU])
             refine perm_e rfl ?_
             go_wp2_with (go_at_call 20; go_must (refine (Hrun.out _ (HKw.out.then (Keeps.refl Nob wr).drew)).mono ?_; rintro e w4 ⟨rfl, hk4⟩))
             have HK4 := Lib.hid hk4
             clear hk4
             (try simp only [PU])
             refine ⟨⟨⟨HK4.out.cell (w := wr.drew) c1 id, HK4.out.cell (w := wr.drew) c2 id⟩, ⟨HK4.out.cell (w := wr.drew) e0 id, HK4.out.cell (w := wr.drew) e1 id, HK4.out.cell (w := wr.drew) e2 id, HK4.out.cell (w := wr.drew) e3 id, HK4.out.cell (w := wr.drew) e4 id, HK4.out.cell (w := wr.drew) e5 id⟩, HK4.out.cell (w := wr.drew) f0 id, HK4.out.cell (w := wr.drew) f1 id, HK4.out.cell (w := wr.drew) f2 id, HK4.out.cell (w := wr.drew) f3 id, HK4.out.cell (w := wr.drew) f4 id, HK4.out.cell (w := wr.drew) f5 id⟩, ?_⟩
             refine pq (some 86) ?_; (try simp only [PU])
             refine perm_nil ?_
             go_wp2
             go_roundw
             case rel =>
              refine ⟨m + 1, by go_num, by omega, Lib.hid (HKm.out.trans ((Keeps.refl Nob wr).drew.trans HK4.out (fun _ _ h => h)) (fun _ _ h => h)), Lib.hid (fun i hi => ?_)⟩
              by_cases e : i = m
              · rw [e]; exact Hfj.out
              · exact HG.out i (by omega)
             case measure => simp [intOf]; omega
         · have hm' : m = nv := by omega
           subst hm'
           go_wp2
           go_ret
           refine ⟨?_, HK3.out.trans HKm.out (fun _ _ h => h)⟩
           have hfl := (sameL_get vs vs' (by rw [Hnv.out.1, Hnv.out.2])).2 (fun i hi => HG.out i (by rw [← Hnv.out.1]; exact hi))
           rw [HRv.out] at hfl
           rw [hfl]; rfl
end Go.Proofs.WV

namespace Go.Proofs.WV
open Go.RowKit Go.Proofs.KL Go.Proofs.WM
set_option maxRecDepth 100000
set_option linter.unusedSimpArgs false
set_option linter.unusedVariables false

structure Rd (w : World) (r : Nat) (T : ByteArray) (s : Bs) : Prop where
 blk : w.heap[r]? = some (.cells #[.string T, .int .i64 (T.size - s.length : Nat)] 80 (0, 0))
 suf : ∃ p, bl T = p ++ s
 len : T.size ≤ 1000000
theorem Rd.lt {w : World} {r : Nat} {T : ByteArray} {s : Bs} (h : Rd w r T s) : r < w.heap.size := blk_lt h.blk
theorem Rd.keep {M : Nat → Prop} {w w' : World} {r : Nat} {T : ByteArray} {s : Bs} (h : Rd w r T s) (hk : Keeps M w w') (hn : ¬ M r) : Rd w' r T s := ⟨hk.blk h.blk hn, h.suf, h.len⟩
theorem Rd.le {w : World} {r : Nat} {T : ByteArray} {s : Bs} (h : Rd w r T s) : s.length ≤ T.size := by
 obtain ⟨p, hp⟩ := h.suf
 have := congrArg List.length hp
 rw [bl_len, List.length_append] at this
 omega
theorem Rd.cons {w : World} {r : Nat} {T : ByteArray} {c : UInt8} {q : Bs} (h : Rd w r T (c :: q)) :
  ∃ (a : Nat) (ha : a < T.size), (w.heap[r]? = some (.cells #[.string T, .int .i64 (a : Nat)] 80 (0, 0)) ∧ ((T[a].toNat : Nat) : Int) = (c.toNat : Int)) ∧ T.size ≤ 1000000 ∧ a + (q.length + 1) = T.size ∧
   ∀ w', w'.heap[r]? = some (.cells #[.string T, .int .i64 ((a : Int) + 1)] 80 (0, 0)) → Rd w' r T q := by
 have hl := h.le
 obtain ⟨p, hp⟩ := h.suf
 have hlen := congrArg List.length hp
 rw [bl_len, List.length_append, List.length_cons] at hlen
 simp only [List.length_cons] at hl
 have ha : T.size - (q.length + 1) < T.size := by omega
 have hpa : T.size - (q.length + 1) = p.length := by omega
 have hb := h.blk
 rw [List.length_cons] at hb
 refine ⟨T.size - (q.length + 1), ha, ⟨hb, ?_⟩, h.len, by omega, fun w' hw => ⟨?_, ⟨p ++ [c], by rw [hp]; simp⟩, h.len⟩⟩
 · have hg : T[T.size - (q.length + 1)] = c := by
    have h1 : (bl T)[p.length]? = some c := by rw [hp]; simp
    have h2 : (bl T)[T.size - (q.length + 1)]? = some c := by rw [hpa]; exact h1
    have h3 : (bl T)[T.size - (q.length + 1)]? = some T[T.size - (q.length + 1)] := by
     rw [List.getElem?_eq_getElem (by rw [bl_len]; exact ha)]
     rfl
    rw [h3] at h2
    exact Option.some.inj h2
   rw [hg]
 · rw [hw, show T.size - q.length = T.size - (q.length + 1) + 1 by omega]
   rfl
theorem Rd.nil {w : World} {r : Nat} {T : ByteArray} (h : Rd w r T []) : w.heap[r]? = some (.cells #[.string T, .int .i64 (T.size : Nat)] 80 (0, 0)) := h.blk
def headN : Bs → Int
 | [] => 0
 | c :: _ => c.toNat
theorem headN_lt (s : Bs) : 0 ≤ headN s ∧ headN s ≤ 255 := by
 cases s with
 | nil => simp [headN]
 | cons c q => have := c.toNat_lt; simp only [headN]; omega
def stopAt (T : ByteArray) (n : Nat) : Ending := .panicked [{ v := .iface 76 (.int .i64 (T.size - n : Nat)), recovered := false }]
theorem infoS3 : ∃ i, Tryd.prog.info? 3 = some i ∧ i.size = 1 := by
 have h : (Tryd.prog.info? 3).map (·.size) = some 1 := by kernel_rfl
 obtain ⟨i, hi, hs⟩ := Option.map_eq_some_iff.1 h
 exact ⟨i, hi, hs⟩
set_option maxHeartbeats 1000000 in
theorem fail47 {w : World} {r : Nat} {T : ByteArray} {s : Bs} (h : Rd w r T s) (n : Nat) (hn : n ≤ T.size) : Calls Tryd.prog 47 #[.pointer (some ⟨r, 0, none⟩), .int .i64 (T.size - n : Nat)] w fun e w' => e = stopAt T n ∧ w' = w := by
 obtain ⟨a, ha⟩ : ∃ a, T.size - n = a := ⟨_, rfl⟩
 unfold stopAt
 rw [ha]
 have hle : a ≤ T.size := by omega
 have hT := h.len
 have c0 := (blk_cell h.blk 0).trans rfl
 clear h ha hn
 have hmin : (if (T.size : Int) < (a : Int) then (T.size : Int) else (a : Int)) = (a : Int) := by rw [if_neg (by omega)]
 have hmin2 : min (a : Int) (T.size : Int) = (a : Int) := by omega
 go_enter Tryd.func47, Tryd.ntmps47
 go_wp2
 first
 | exact ⟨rfl, rfl⟩
 | exact ⟨rfl, rfl, rfl⟩
set_option maxHeartbeats 1000000 in
theorem next73 {w : World} {r : Nat} {T : ByteArray} {s : Bs} (h : Rd w r T s) : Calls Tryd.prog 73 #[.pointer (some ⟨r, 0, none⟩)] w fun e w' => e = .returned (.int .u8 (headN s)) ∧ Keeps Nob w w' := by
 cases s with
 | nil =>
   have hT := h.len
   have c0 := (blk_cell h.nil 0).trans rfl
   have c1 := (blk_cell h.nil 1).trans rfl
   clear h
   go_enter Tryd.func73, Tryd.ntmps73
   go_wp2_with fail
   refine wp_region_perm [(0, true), (1, true), (2, true), (3, true), (4, true), (5, true), (6, true), (7, true), (8, true), (9, true)] (fun w' => w'.cell? ⟨r, 0, none⟩ = some (.string T) ∧ w'.cell? ⟨r, 1, none⟩ = some (.int .i64 T.size)) rfl (by kernel_rfl) (by kernel_rfl) (by decide) (fun c a d v w h => by cases d <;> exact h) ⟨c0, c1⟩ ?_
   refine pq (some 3) ?_; (try simp only [PU])
   refine pq (some 4) ?_; (try simp only [PU])
   refine pq (some 5) ?_; (try simp only [PU])
   refine pq (some 6) ?_; (try simp only [PU])
   refine pq (some 7) ?_; (try simp only [PU])
   refine pq (some 8) ?_; (try simp only [PU])
   refine pq (some 9) ?_; (try simp only [PU])
   refine pq (some 10) ?_; (try simp only [PU])
   refine pq (some 11) ?_; (try simp only [PU])
   refine pq (some 12) ?_; (try simp only [PU])
   refine perm_nil ?_
   go_wp2
   go_ret
   exact ⟨rfl, (Keeps.refl Nob w).drew⟩
 | cons c q =>
   obtain ⟨a, ha, ⟨hb, hc⟩, hT, -, -⟩ := h.cons
   have c0 := (blk_cell hb 0).trans rfl
   have c1 := (blk_cell hb 1).trans rfl
   show Calls _ _ _ _ fun e w' => e = .returned (.int .u8 (c.toNat : Int)) ∧ _
   generalize (c.toNat : Int) = cv at *
   clear h hb
   go_enter Tryd.func73, Tryd.ntmps73
   go_wp2_with fail
   refine wp_region_perm [(0, true), (1, true), (2, true), (3, true), (4, true), (5, true), (6, true), (7, true), (8, true), (9, true)] (fun w' => w'.cell? ⟨r, 0, none⟩ = some (.string T) ∧ w'.cell? ⟨r, 1, none⟩ = some (.int .i64 a)) rfl (by kernel_rfl) (by kernel_rfl) (by decide) (fun c a d v w h => by cases d <;> exact h) ⟨c0, c1⟩ ?_
   refine pq (some 3) ?_; (try simp only [PU])
   refine pq (some 4) ?_; (try simp only [PU])
   refine pq (some 5) ?_; (try simp only [PU])
   refine pq (some 6) ?_; (try simp only [PU])
   refine pq (some 7) ?_; (try simp only [PU])
   refine pq (some 8) ?_; (try simp only [PU])
   refine pq (some 9) ?_; (try simp only [PU])
   refine pq (some 10) ?_; (try simp only [PU])
   refine pq (some 11) ?_; (try simp only [PU])
   refine pq (some 12) ?_; (try simp only [PU])
   refine perm_nil ?_
   go_wp2_with fail
   refine wp_region_perm [(0, true), (1, true), (2, true), (3, true), (4, true), (5, true), (6, true), (7, true), (8, true), (9, true)] (fun w' => w'.cell? ⟨r, 0, none⟩ = some (.string T) ∧ w'.cell? ⟨r, 1, none⟩ = some (.int .i64 a)) rfl (by kernel_rfl) (by kernel_rfl) (by decide) (fun c a d v w h => by cases d <;> exact h) ⟨c0, c1⟩ ?_
   refine pq (some 13) ?_; (try simp only [PU])
   refine pq (some 14) ?_; (try simp only [PU])
   refine pq (some 15) ?_; (try simp only [PU])
   refine pq (some 16) ?_; (try simp only [PU])
   refine pq (some 17) ?_; (try simp only [PU])
   refine pq (some 18) ?_; (try simp only [PU])
   refine pq (some 19) ?_; (try simp only [PU])
   refine pq (some 20) ?_; (try simp only [PU])
   refine pq (some 21) ?_; (try simp only [PU])
   refine pq (some 2) ?_; (try simp only [PU])
   refine perm_nil ?_
   go_wp2
   go_ret
   exact ⟨rfl, ((Keeps.refl Nob w).drew).then (Keeps.refl Nob w.drew).drew⟩
def isB (c0 : UInt8) : Bs → Bool × Bs
 | [] => (false, [])
 | c :: q => if c = c0 then (true, q) else (false, c :: q)
theorem isB_at (c0 : UInt8) (q : Bs) : isB c0 (c0 :: q) = (true, q) := by simp [isB]
theorem isB_ne {c c0 : UInt8} (h : ¬ c = c0) (q : Bs) : isB c0 (c :: q) = (false, c :: q) := by simp [isB, h]
def IsOut (w : World) (r : Nat) (T : ByteArray) (x : Bool × Bs) (e : Ending) (w' : World) : Prop := e = .returned (.bool x.1) ∧ Rd w' r T x.2 ∧ Keeps (· = r) w w'
set_option maxHeartbeats 2000000 in
theorem is101 {w : World} {r : Nat} {T : ByteArray} {s : Bs} (h : Rd w r T s) (c0 : UInt8) (v0 : Int) (hv0 : v0 = (c0.toNat : Int)) : Calls Tryd.prog 101 #[.pointer (some ⟨r, 0, none⟩), .int .u8 v0] w (IsOut w r T (isB c0 s)) := by
 obtain ⟨i3, hi3, hs3⟩ := infoS3
 have HI := Lib.hid (And.intro hi3 hs3)
 clear hi3 hs3
 cases s with
 | nil =>
   have hT := h.len
   have c0' := (blk_cell h.nil 0).trans rfl
   have c1' := (blk_cell h.nil 1).trans rfl
   have H := Lib.hid h
   clear h hv0
   go_enter Tryd.func101, Tryd.ntmps101
   go_wp2_with fail
   refine wp_region_perm [(0, true), (1, true), (2, true), (3, true), (4, true), (5, true), (6, true), (7, true), (8, true), (9, true), (10, true), (11, true), (12, true), (13, true), (14, true), (15, true), (16, true), (17, true), (18, true), (19, true), (20, true), (21, true), (22, true)] (fun w' => w'.cell? ⟨r, 0, none⟩ = some (.string T) ∧ w'.cell? ⟨r, 1, none⟩ = some (.int .i64 T.size)) rfl (by kernel_rfl) (by kernel_rfl) (by decide) (fun c a d v w h => by cases d <;> exact h) ⟨c0', c1'⟩ ?_
   refine pq (some 5) ?_; (try simp only [PU])
   refine pq (some 6) ?_; (try simp only [PU])
   refine pq (some 7) ?_; (try simp only [PU])
   refine pq (some 8) ?_; (try simp only [PU])
   refine pq (some 9) ?_; (try simp only [PU])
   refine pq (some 10) ?_; (try simp only [PU])
   refine pq (some 11) ?_; (try simp only [PU])
   refine pq (some 12) ?_; (try simp only [PU])
   refine pq (some 13) ?_; (try simp only [PU])
   refine pq (some 14) ?_; (try simp only [PU])
   refine pq (some 15) ?_; (try simp only [PU])
   refine perm_skip (some 16) rfl rfl rfl ?_; (try simp only [PU])
   refine perm_skip (some 17) rfl rfl rfl ?_; (try simp only [PU])
   refine perm_skip (some 18) rfl rfl rfl ?_; (try simp only [PU])
   refine perm_skip (some 19) rfl rfl rfl ?_; (try simp only [PU])
   refine perm_skip (some 20) rfl rfl rfl ?_; (try simp only [PU])
   refine perm_skip (some 21) rfl rfl rfl ?_; (try simp only [PU])
   refine perm_skip (some 22) rfl rfl rfl ?_; (try simp only [PU])
   refine perm_skip (some 23) rfl rfl rfl ?_; (try simp only [PU])
   refine perm_skip (some 24) rfl rfl rfl ?_; (try simp only [PU])
   refine perm_skip (some 25) rfl rfl rfl ?_; (try simp only [PU])
   refine perm_skip (some 26) rfl rfl rfl ?_; (try simp only [PU])
   refine pq (some 27) ?_; (try simp only [PU])
   refine perm_nil ?_
   go_wp2
   go_ret
   exact ⟨rfl, H.out.keep (Keeps.refl Nob w).drew id, (Keeps.refl _ w).drew⟩
 | cons c q =>
   obtain ⟨a, ha, ⟨hb, hc⟩, hT, -, hn⟩ := h.cons
   have c0' := (blk_cell hb 0).trans rfl
   have c1' := (blk_cell hb 1).trans rfl
   have H := Lib.hid h
   have Hn := Lib.hid hn
   have Hb := Lib.hid hb
   have hai : (a : Int) < (T.size : Int) := by omega
   clear h hb hn
   by_cases he : c = c0
   · subst he
     rw [isB_at]
     subst hv0
     generalize (c.toNat : Int) = cv at *
     go_enter Tryd.func101, Tryd.ntmps101
     go_wp2_with fail
     refine wp_region_perm [(0, true), (1, true), (2, true), (3, true), (4, true), (5, true), (6, true), (7, true), (8, true), (9, true), (10, true), (11, true), (12, true), (13, true), (14, true), (15, true), (16, true), (17, true), (18, true), (19, true), (20, true), (21, true), (22, true)] (fun w' => w'.cell? ⟨r, 0, none⟩ = some (.string T) ∧ w'.cell? ⟨r, 1, none⟩ = some (.int .i64 a)) rfl (by kernel_rfl) (by kernel_rfl) (by decide) (fun c a d v w h => by cases d <;> exact h) ⟨c0', c1'⟩ ?_
     refine pq (some 5) ?_; (try simp only [PU])
     refine pq (some 6) ?_; (try simp only [PU])
     refine pq (some 7) ?_; (try simp only [PU])
     refine pq (some 8) ?_; (try simp only [PU])
     refine pq (some 9) ?_; (try simp only [PU])
     refine pq (some 10) ?_; (try simp only [PU])
     refine pq (some 11) ?_; (try simp only [PU])
     refine pq (some 12) ?_; (try simp only [PU])
     refine pq (some 13) ?_; (try simp only [PU])
     refine pq (some 14) ?_; (try simp only [PU])
     refine pq (some 15) ?_; (try simp only [PU])
     refine pq (some 16) ?_; (try simp only [PU])
     refine pq (some 17) ?_; (try simp only [PU])
     refine pq (some 18) ?_; (try simp only [PU])
     refine pq (some 19) ?_; (try simp only [PU])
     refine pq (some 20) ?_; (try simp only [PU])
     refine pq (some 21) ?_; (try simp only [PU])
     refine pq (some 22) ?_; (try simp only [PU])
     refine pq (some 23) ?_; (try simp only [PU])
     refine pq (some 24) ?_; (try simp only [PU])
     refine pq (some 25) ?_; (try simp only [PU])
     refine pq (some 26) ?_; (try simp only [PU])
     refine pq (some 27) ?_; (try simp only [PU])
     refine perm_nil ?_
     go_wp2_with ((with_reducible refine at_store (t := 3) rfl ?_); go_must (refine ev_store (W := w.drew) (cs' := #[.string T, .int .i64 ((a : Int) + 1)]) rfl rfl rfl rfl rfl rfl HI.out.1 HI.out.2 rfl Hb.out (Nat.le_of_ble_eq_true rfl) rfl ?_; intro w1 hb1 hk1); have Hb1 := Lib.hid hb1; have HK1 := Lib.hid hk1; clear hb1 hk1; (try simp only [PU]))
     go_ret
     exact ⟨rfl, Hn.out w1 Hb1.out, (Keeps.refl _ w).drew.trans HK1.out (fun _ _ h => h)⟩
   · rw [isB_ne he]
     have hne : ((c.toNat : Int) == v0) = false := by
      subst hv0
      exact beq_eq_false_iff_ne.2 (fun e => he (UInt8.toNat_inj.1 (by omega)))
     generalize (c.toNat : Int) = cv at *
     clear hv0
     go_enter Tryd.func101, Tryd.ntmps101
     go_wp2_with fail
     refine wp_region_perm [(0, true), (1, true), (2, true), (3, true), (4, true), (5, true), (6, true), (7, true), (8, true), (9, true), (10, true), (11, true), (12, true), (13, true), (14, true), (15, true), (16, true), (17, true), (18, true), (19, true), (20, true), (21, true), (22, true)] (fun w' => w'.cell? ⟨r, 0, none⟩ = some (.string T) ∧ w'.cell? ⟨r, 1, none⟩ = some (.int .i64 a)) rfl (by kernel_rfl) (by kernel_rfl) (by decide) (fun c a d v w h => by cases d <;> exact h) ⟨c0', c1'⟩ ?_
     refine pq (some 5) ?_; (try simp only [PU])
     refine pq (some 6) ?_; (try simp only [PU])
     refine pq (some 7) ?_; (try simp only [PU])
     refine pq (some 8) ?_; (try simp only [PU])
     refine pq (some 9) ?_; (try simp only [PU])
     refine pq (some 10) ?_; (try simp only [PU])
     refine pq (some 11) ?_; (try simp only [PU])
     refine pq (some 12) ?_; (try simp only [PU])
     refine pq (some 13) ?_; (try simp only [PU])
     refine pq (some 14) ?_; (try simp only [PU])
     refine pq (some 15) ?_; (try simp only [PU])
     refine pq (some 16) ?_; (try simp only [PU])
     refine pq (some 17) ?_; (try simp only [PU])
     refine pq (some 18) ?_; (try simp only [PU])
     refine pq (some 19) ?_; (try simp only [PU])
     refine pq (some 20) ?_; (try simp only [PU])
     refine pq (some 21) ?_; (try simp only [PU])
     refine pq (some 22) ?_; (try simp only [PU])
     refine pq (some 23) ?_; (try simp only [PU])
     refine pq (some 24) ?_; (try simp only [PU])
     refine pq (some 25) ?_; (try simp only [PU])
     refine pq (some 26) ?_; (try simp only [PU])
     refine pq (some 27) ?_; (try simp only [PU])
     refine perm_nil ?_
     go_wp2
     go_ret
     exact ⟨rfl, H.out.keep (Keeps.refl Nob w).drew id, (Keeps.refl _ w).drew⟩
theorem digit_head (s : Bs) : startsDigit s = (decide (48 ≤ headN s) && decide (headN s ≤ 57)) := by
 cases s with
 | nil => rfl
 | cons c q =>
   show isDigit c = _
   unfold isDigit headN
   rw [Bool.eq_iff_iff]
   simp only [Bool.and_eq_true, decide_eq_true_eq, UInt8.le_iff_toNat_le]
   have h1 : (48 : UInt8).toNat = 48 := rfl
   have h2 : (57 : UInt8).toNat = 57 := rfl
   rw [h1, h2]
   omega
set_option maxHeartbeats 1000000 in
theorem digit76 {w : World} {r : Nat} {T : ByteArray} {s : Bs} (h : Rd w r T s) : Calls Tryd.prog 76 #[.pointer (some ⟨r, 0, none⟩)] w fun e w' => e = .returned (.bool (startsDigit s)) ∧ Keeps Nob w w' := by
 have H73 := Lib.hid (fun W (hk : Keeps Nob w W) => next73 (h.keep hk id))
 have hb := headN_lt s
 rw [digit_head]
 obtain ⟨hv, hhv⟩ : ∃ x, headN s = x := ⟨_, rfl⟩
 rw [hhv] at H73 hb ⊢
 obtain ⟨hb0, hb1⟩ := hb
 clear h hhv
 by_cases h48 : 48 ≤ hv
 · by_cases h57 : hv ≤ 57
   · go_enter Tryd.func76, Tryd.ntmps76
     have HK := Lib.hid (Keeps.refl Nob w)
     go_wp2_with (go_at_call 73; go_must (refine (H73.out _ HK.out).mono ?_; rintro e w1 ⟨rfl, hk1⟩); have HK := Lib.hid (HK.out.trans hk1 (fun _ _ h => h)); clear hk1; (try simp only [PU]))
     go_ret
     exact ⟨by simp [h48, h57], HK.out⟩
   · go_enter Tryd.func76, Tryd.ntmps76
     have HK := Lib.hid (Keeps.refl Nob w)
     go_wp2_with (go_at_call 73; go_must (refine (H73.out _ HK.out).mono ?_; rintro e w1 ⟨rfl, hk1⟩); have HK := Lib.hid (HK.out.trans hk1 (fun _ _ h => h)); clear hk1; (try simp only [PU]))
     go_ret
     exact ⟨by simp [h48, h57], HK.out⟩
 · go_enter Tryd.func76, Tryd.ntmps76
   have HK := Lib.hid (Keeps.refl Nob w)
   go_wp2_with (go_at_call 73; go_must (refine (H73.out _ HK.out).mono ?_; rintro e w1 ⟨rfl, hk1⟩); have HK := Lib.hid (HK.out.trans hk1 (fun _ _ h => h)); clear hk1; (try simp only [PU]))
   go_ret
   exact ⟨by simp; omega, HK.out⟩
theorem idxBlank (c : UInt8) : 0 ≤ Lib.indexByte [32, 9, 10, 13] c ↔ isBlank c = true := by
 by_cases h1 : c = 32
 · subst h1; decide
 by_cases h2 : c = 9
 · subst h2; decide
 by_cases h3 : c = 10
 · subst h3; decide
 by_cases h4 : c = 13
 · subst h4; decide
 have e1 : ((32 : UInt8) == c) = false := beq_eq_false_iff_ne.2 (fun e => h1 e.symm)
 have e2 : ((9 : UInt8) == c) = false := beq_eq_false_iff_ne.2 (fun e => h2 e.symm)
 have e3 : ((10 : UInt8) == c) = false := beq_eq_false_iff_ne.2 (fun e => h3 e.symm)
 have e4 : ((13 : UInt8) == c) = false := beq_eq_false_iff_ne.2 (fun e => h4 e.symm)
 simp [Lib.indexByte, isBlank, e1, e2, e3, e4, h1, h2, h3, h4]
theorem u8_back (c : UInt8) : ((c.toNat : Int)).toNat.toUInt8 = c := by
 rw [Int.toNat_natCast]
 exact UInt8.ofNat_toNat
theorem blank72 (c : UInt8) (cv : Int) (hcv : cv = (c.toNat : Int)) (w : World) : Calls Tryd.prog 72 #[.string ⟨#[32, 9, 10, 13]⟩, .int .u8 cv] w fun e w' => (∃ iv : Int, e = .returned (.int .i64 iv) ∧ (0 ≤ iv ↔ isBlank c = true)) ∧ w' = w := by
 subst hcv
 refine (Tryd.strings_IndexByte ⟨#[32, 9, 10, 13]⟩ (c.toNat : Int) w).mono ?_
 rintro e w' ⟨rfl, rfl⟩
 rw [u8_back]
 exact ⟨⟨_, rfl, idxBlank c⟩, rfl⟩
def DoneOut (w : World) (r : Nat) (T : ByteArray) (s : Bs) (e : Ending) (w' : World) : Prop := (∃ x, e = .returned x) ∧ Rd w' r T s ∧ Keeps (· = r) w w'
set_option maxHeartbeats 2000000 in
theorem blanks45 {w : World} {r : Nat} {T : ByteArray} {s : Bs} (h : Rd w r T s) : Calls Tryd.prog 45 #[.pointer (some ⟨r, 0, none⟩)] w (DoneOut w r T (blanksB s)) := by
 obtain ⟨i3, hi3, hs3⟩ := infoS3
 have HI := Lib.hid (And.intro hi3 hs3)
 have H := Lib.hid h
 clear hi3 hs3 h
 go_enter Tryd.func45, Tryd.ntmps45
 go_wp2
 go_loopg [] s.length (fun k wr => ∃ s' : Bs, s'.length ≤ k ∧ Hid (Rd wr r T s') ∧ Hid (Keeps (· = r) w wr) ∧ Hid (blanksB s' = blanksB s))
 case atStart => exact ⟨s, Nat.le_refl _, H, Lib.hid (Keeps.refl _ _), Lib.hid rfl⟩
 case round =>
  obtain ⟨s', hl, Hr, HK, HE⟩ := hrel
  cases s' with
  | nil =>
    have hT := Hr.out.len
    have c0' := (blk_cell Hr.out.nil 0).trans rfl
    have c1' := (blk_cell Hr.out.nil 1).trans rfl
    go_wp2_with fail
    refine wp_region_perm [(0, true), (1, true), (2, true), (3, true), (4, true), (5, true), (6, true), (7, true), (8, true), (9, true), (10, true), (11, true), (12, true), (13, true), (14, true), (15, true), (16, true), (17, true), (18, true), (19, true), (20, false), (21, true), (22, true)] (fun w' => w'.cell? ⟨r, 0, none⟩ = some (.string T) ∧ w'.cell? ⟨r, 1, none⟩ = some (.int .i64 T.size)) rfl (by kernel_rfl) (by kernel_rfl) (by decide) (fun c a d v w h => by cases d <;> exact h) ⟨c0', c1'⟩ ?_
    refine pq (some 2) ?_; (try simp only [PU])
    refine pq (some 3) ?_; (try simp only [PU])
    refine pq (some 4) ?_; (try simp only [PU])
    refine pq (some 5) ?_; (try simp only [PU])
    refine pq (some 6) ?_; (try simp only [PU])
    refine pq (some 7) ?_; (try simp only [PU])
    refine pq (some 8) ?_; (try simp only [PU])
    refine pq (some 9) ?_; (try simp only [PU])
    refine pq (some 10) ?_; (try simp only [PU])
    refine pq (some 11) ?_; (try simp only [PU])
    refine pq (some 12) ?_; (try simp only [PU])
    refine perm_skip (some 13) rfl rfl rfl ?_; (try simp only [PU])
    refine perm_skip (some 14) rfl rfl rfl ?_; (try simp only [PU])
    refine perm_skip (some 15) rfl rfl rfl ?_; (try simp only [PU])
    refine perm_skip (some 16) rfl rfl rfl ?_; (try simp only [PU])
    refine perm_skip (some 17) rfl rfl rfl ?_; (try simp only [PU])
    refine perm_skip (some 18) rfl rfl rfl ?_; (try simp only [PU])
    refine perm_skip (some 19) rfl rfl rfl ?_; (try simp only [PU])
    refine perm_skip (some 20) rfl rfl rfl ?_; (try simp only [PU])
    refine perm_skip (some 21) rfl rfl rfl ?_; (try simp only [PU])
    refine perm_e rfl ?_
    go_wp2_with fail
    (try simp only [PU])
    refine ⟨⟨c0', c1'⟩, ?_⟩
    refine perm_skip (some 23) rfl rfl rfl ?_; (try simp only [PU])
    refine pq (some 24) ?_; (try simp only [PU])
    refine perm_nil ?_
    go_wp2
    go_end0
    refine ⟨⟨_, rfl⟩, ?_, HK.out.then (Keeps.refl Nob wr).drew⟩
    rw [← HE.out]
    exact Hr.out.keep (Keeps.refl Nob wr).drew id
  | cons c q =>
    obtain ⟨a, ha, ⟨hb, hc⟩, hT, -, hn⟩ := Hr.out.cons
    have c0' := (blk_cell hb 0).trans rfl
    have c1' := (blk_cell hb 1).trans rfl
    have Hn := Lib.hid hn
    have Hb := Lib.hid hb
    have hai : (a : Int) < (T.size : Int) := by omega
    have H72 := Lib.hid (fun cv (h : cv = (c.toNat : Int)) w => blank72 c cv h w)
    obtain ⟨cv, hcv⟩ : ∃ x : Int, (c.toNat : Int) = x := ⟨_, rfl⟩
    rw [hcv] at hc
    have Hcv := Lib.hid hcv.symm
    clear hb hn hcv
    simp only [List.length_cons] at hl
    rcases hbl : isBlank c with _ | _
    · rw [hbl] at H72
      have Hbl := Lib.hid hbl
      clear hbl
      go_wp2_with fail
      refine wp_region_perm [(0, true), (1, true), (2, true), (3, true), (4, true), (5, true), (6, true), (7, true), (8, true), (9, true), (10, true), (11, true), (12, true), (13, true), (14, true), (15, true), (16, true), (17, true), (18, true), (19, true), (20, false), (21, true), (22, true)] (fun w' => w'.cell? ⟨r, 0, none⟩ = some (.string T) ∧ w'.cell? ⟨r, 1, none⟩ = some (.int .i64 a)) rfl (by kernel_rfl) (by kernel_rfl) (by decide) (fun c a d v w h => by cases d <;> exact h) ⟨c0', c1'⟩ ?_
      refine pq (some 2) ?_; (try simp only [PU])
      refine pq (some 3) ?_; (try simp only [PU])
      refine pq (some 4) ?_; (try simp only [PU])
      refine pq (some 5) ?_; (try simp only [PU])
      refine pq (some 6) ?_; (try simp only [PU])
      refine pq (some 7) ?_; (try simp only [PU])
      refine pq (some 8) ?_; (try simp only [PU])
      refine pq (some 9) ?_; (try simp only [PU])
      refine pq (some 10) ?_; (try simp only [PU])
      refine pq (some 11) ?_; (try simp only [PU])
      refine pq (some 12) ?_; (try simp only [PU])
      refine pq (some 13) ?_; (try simp only [PU])
      refine pq (some 14) ?_; (try simp only [PU])
      refine pq (some 15) ?_; (try simp only [PU])
      refine pq (some 16) ?_; (try simp only [PU])
      refine pq (some 17) ?_; (try simp only [PU])
      refine pq (some 18) ?_; (try simp only [PU])
      refine pq (some 19) ?_; (try simp only [PU])
      refine pq (some 20) ?_; (try simp only [PU])
      refine pq (some 21) ?_; (try simp only [PU])
      refine perm_e rfl ?_
      go_wp2_with (go_at_call 72; go_must (refine (H72.out _ Hcv.out _).mono ?_; rintro e w1 ⟨⟨iv, rfl, hiv⟩, rfl⟩))
      have hneg : iv < 0 := by rcases Int.lt_or_le iv 0 with h | h; exact h; exact absurd (hiv.1 h) (by decide)
      clear hiv
      (try simp only [PU])
      refine ⟨⟨c0', c1'⟩, ?_⟩
      refine pq (some 23) ?_; (try simp only [PU])
      refine pq (some 24) ?_; (try simp only [PU])
      refine perm_nil ?_
      go_wp2
      go_end0
      refine ⟨⟨_, rfl⟩, ?_, HK.out.then (Keeps.refl Nob wr).drew⟩
      rw [← HE.out, show blanksB (c :: q) = c :: q by simp [blanksB, Hbl.out]]
      exact Hr.out.keep (Keeps.refl Nob wr).drew id
    · rw [hbl] at H72
      have Hbl := Lib.hid hbl
      clear hbl
      go_wp2_with fail
      refine wp_region_perm [(0, true), (1, true), (2, true), (3, true), (4, true), (5, true), (6, true), (7, true), (8, true), (9, true), (10, true), (11, true), (12, true), (13, true), (14, true), (15, true), (16, true), (17, true), (18, true), (19, true), (20, false), (21, true), (22, true)] (fun w' => w'.cell? ⟨r, 0, none⟩ = some (.string T) ∧ w'.cell? ⟨r, 1, none⟩ = some (.int .i64 a)) rfl (by kernel_rfl) (by kernel_rfl) (by decide) (fun c a d v w h => by cases d <;> exact h) ⟨c0', c1'⟩ ?_
      refine pq (some 2) ?_; (try simp only [PU])
      refine pq (some 3) ?_; (try simp only [PU])
      refine pq (some 4) ?_; (try simp only [PU])
      refine pq (some 5) ?_; (try simp only [PU])
      refine pq (some 6) ?_; (try simp only [PU])
      refine pq (some 7) ?_; (try simp only [PU])
      refine pq (some 8) ?_; (try simp only [PU])
      refine pq (some 9) ?_; (try simp only [PU])
      refine pq (some 10) ?_; (try simp only [PU])
      refine pq (some 11) ?_; (try simp only [PU])
      refine pq (some 12) ?_; (try simp only [PU])
      refine pq (some 13) ?_; (try simp only [PU])
      refine pq (some 14) ?_; (try simp only [PU])
      refine pq (some 15) ?_; (try simp only [PU])
      refine pq (some 16) ?_; (try simp only [PU])
      refine pq (some 17) ?_; (try simp only [PU])
      refine pq (some 18) ?_; (try simp only [PU])
      refine pq (some 19) ?_; (try simp only [PU])
      refine pq (some 20) ?_; (try simp only [PU])
      refine pq (some 21) ?_; (try simp only [PU])
      refine perm_e rfl ?_
      go_wp2_with (go_at_call 72; go_must (refine (H72.out _ Hcv.out _).mono ?_; rintro e w1 ⟨⟨iv, rfl, hiv⟩, rfl⟩))
      have hpos : 0 ≤ iv := hiv.2 (by first | trivial | rfl)
      clear hiv
      (try simp only [PU])
      refine ⟨⟨c0', c1'⟩, ?_⟩
      refine pq (some 23) ?_; (try simp only [PU])
      refine pq (some 24) ?_; (try simp only [PU])
      refine perm_nil ?_
      go_wp2_with ((with_reducible refine at_store (t := 3) rfl ?_); go_must (refine ev_store (W := wr.drew) (cs' := #[.string T, .int .i64 ((a : Int) + 1)]) rfl rfl rfl rfl rfl rfl HI.out.1 HI.out.2 rfl Hb.out (Nat.le_of_ble_eq_true rfl) rfl ?_; intro w1 hb1 hk1); have Hb1 := Lib.hid hb1; have HK1 := Lib.hid hk1; clear hb1 hk1; (try simp only [PU]))
      go_roundg q.length
      case measure => omega
      case rel => exact ⟨q, Nat.le_refl _, Lib.hid (Hn.out w1 Hb1.out), Lib.hid (HK.out.trans ((Keeps.refl _ wr).drew.trans HK1.out (fun _ _ h => h)) (fun _ _ h => h)), Lib.hid (by rw [← HE.out]; simp [blanksB, Hbl.out])⟩
end Go.Proofs.WV

namespace Go.Proofs.WV
open Go.RowKit Go.Proofs.KL Go.Proofs.WM
set_option maxRecDepth 100000
set_option linter.unusedSimpArgs false
set_option linter.unusedVariables false

def EndU (w : World) (r : Nat) (T : ByteArray) : Except Nat Bs → Ending → World → Prop
 | .ok s', e, w' => DoneOut w r T s' e w'
 | .error n, e, w' => e = stopAt T n ∧ Keeps (· = r) w w'
def EndR (w : World) (r : Nat) (T : ByteArray) {α : Type} (val : α → Value) : R α → Ending → World → Prop
 | .ok x, e, w' => e = .returned (val x.1) ∧ Rd w' r T x.2 ∧ Keeps (· = r) w w'
 | .error n, e, w' => e = stopAt T n ∧ Keeps (· = r) w w'
theorem wordB_nil (r : Bs) : wordB [] r = .ok r := by cases r <;> rfl
theorem drop_byte (W : ByteArray) (i : Nat) (h : i < W.size) : (bl W).drop i = W[i] :: (bl W).drop (i + 1) := by
 rw [List.drop_eq_getElem_cons (by rw [bl_len]; exact h)]
 rfl
set_option maxHeartbeats 2000000 in
theorem word74 {w : World} {r : Nat} {T : ByteArray} {s : Bs} (h : Rd w r T s) (V : ByteArray) (hV : V.size ≤ 10) (hz : ∀ i (hi : i < V.size), V[i] ≠ 0) : Calls Tryd.prog 74 #[.pointer (some ⟨r, 0, none⟩), .string V] w (EndU w r T (wordB (bl V) s)) := by
 obtain ⟨i3, hi3, hs3⟩ := infoS3
 have HI := Lib.hid (And.intro hi3 hs3)
 have H := Lib.hid h
 have Hz := Lib.hid hz
 obtain ⟨R, hR⟩ : ∃ x, wordB (bl V) s = x := ⟨_, rfl⟩
 rw [hR]
 have HR := Lib.hid hR
 clear hi3 hs3 h hz hR
 go_enter Tryd.func74, Tryd.ntmps74
 go_wp2
 go_loopw [4, 7] (fun n1 iv wr => ∃ (i : Nat) (s' : Bs), iv = .int .i64 i ∧ i ≤ V.size ∧ Hid (Rd wr r T s') ∧ Hid (Keeps (· = r) w wr) ∧ Hid (wordB ((bl V).drop i) s' = R)) (fun _ iv _ => V.size - (intOf iv).toNat)
 case atStart => exact ⟨0, s, rfl, Nat.zero_le _, H, Lib.hid (Keeps.refl _ _), HR⟩
 case round =>
  obtain ⟨i, s', rfl, hi, Hr, HK, HE⟩ := hrel
  by_cases hlt : i < V.size
  · have hdr := drop_byte V i hlt
    obtain ⟨c, hc⟩ : ∃ c, V[i] = c := ⟨_, rfl⟩
    have hvi : ((V[i].toNat : Nat) : Int) = (c.toNat : Int) := by rw [hc]
    have hc0 : c ≠ 0 := hc ▸ Hz.out i hlt
    rw [hc] at hdr
    obtain ⟨cv, hcv⟩ : ∃ x : Int, (c.toNat : Int) = x := ⟨_, rfl⟩
    rw [hcv] at hvi
    have HE2 := Lib.hid (show wordB (c :: (bl V).drop (i + 1)) s' = R by rw [← hdr]; exact HE.out)
    have Hcv := Lib.hid hcv
    have Hc0 := Lib.hid hc0
    have H73 := Lib.hid (fun W (hk : Keeps Nob wr W) => next73 (Hr.out.keep hk id))
    have hcases : (headN s' ≠ cv ∧ wordB (c :: (bl V).drop (i + 1)) s' = .error s'.length) ∨ (headN s' = cv ∧ ∃ q, s' = c :: q) := by
     cases s' with
     | nil => exact .inl ⟨fun e => hc0 (UInt8.toNat_inj.1 (by simp only [headN] at e; show c.toNat = 0; omega)), rfl⟩
     | cons d q =>
       by_cases hd : d = c
       · subst hd; exact .inr ⟨hcv, q, rfl⟩
       · exact .inl ⟨fun e => hd (UInt8.toNat_inj.1 (by simp only [headN] at e; omega)), by simp [wordB, hd]⟩
    obtain ⟨hv, hhv⟩ : ∃ x, headN s' = x := ⟨_, rfl⟩
    rw [hhv] at H73 hcases
    clear hdr hc hcv hc0 hhv
    rcases hcases with ⟨hne, herr⟩ | ⟨heq, q, hq⟩
    · have hne2 : (hv != cv) = true := by simpa using hne
      have HR2 := Lib.hid (show R = .error s'.length by rw [← HE2.out, herr])
      have Hle := Lib.hid Hr.out.le
      have Hfail := Lib.hid (fun W (hk : Keeps Nob wr W) => fail47 (Hr.out.keep hk id) s'.length Hr.out.le)
      obtain ⟨n, hn⟩ : ∃ x, s'.length = x := ⟨_, rfl⟩
      rw [hn] at HR2 Hfail
      have Hn := Lib.hid hn
      clear hne herr hn
      go_wp2_with fail
      refine wp_region_perm [(0, true), (2, true), (3, true), (4, true), (1, false), (5, true)] (fun w' => True) rfl (by kernel_rfl) (by kernel_rfl) (by decide) (fun c a d v w h => by cases d <;> exact h) trivial ?_
      refine pq (some 10) ?_; (try simp only [PU])
      refine pq (some 12) ?_; (try simp only [PU])
      refine pq (some 13) ?_; (try simp only [PU])
      refine pq (some 14) ?_; (try simp only [PU])
      refine perm_e rfl ?_
      go_wp2_with (go_at_call 73; go_must (refine (H73.out _ (Keeps.refl Nob wr).drew).mono ?_; rintro e w1 ⟨rfl, hk1⟩); have HK1 := Lib.hid (show Keeps Nob wr w1 from (Keeps.refl Nob wr).drew.trans hk1 (fun _ _ h => h)); clear hk1; (try simp only [PU]))
      refine ⟨trivial, ?_⟩
      refine pq (some 15) ?_; (try simp only [PU])
      refine perm_nil ?_
      have q1 := (blk_cell (HK1.out.blk Hr.out.blk id) 1).trans rfl
      rw [Hn.out] at q1
      go_wp2_with (go_at_call 47; go_must (refine (Hfail.out _ HK1.out).mono ?_; rintro e w2 ⟨rfl, rfl⟩); unfold stopAt; (try simp only [PU]))
      refine ⟨rfl, ?_⟩
      rw [HR2.out]
      exact ⟨rfl, HK.out.then HK1.out⟩
    · subst heq
      subst hq
      have HR2 := Lib.hid (show wordB ((bl V).drop (i + 1)) q = R by rw [← HE2.out]; simp [wordB])
      obtain ⟨a, ha, ⟨hb, -⟩, hT, -, hn⟩ := Hr.out.cons
      have Hn := Lib.hid hn
      have Hb := Lib.hid hb
      clear hn hb
      go_wp2_with fail
      refine wp_region_perm [(0, true), (2, true), (3, true), (4, true), (1, false), (5, true)] (fun w' => True) rfl (by kernel_rfl) (by kernel_rfl) (by decide) (fun c a d v w h => by cases d <;> exact h) trivial ?_
      refine pq (some 10) ?_; (try simp only [PU])
      refine pq (some 12) ?_; (try simp only [PU])
      refine pq (some 13) ?_; (try simp only [PU])
      refine pq (some 14) ?_; (try simp only [PU])
      refine perm_e rfl ?_
      go_wp2_with (go_at_call 73; go_must (refine (H73.out _ (Keeps.refl Nob wr).drew).mono ?_; rintro e w1 ⟨rfl, hk1⟩); have HK1 := Lib.hid (show Keeps Nob wr w1 from (Keeps.refl Nob wr).drew.trans hk1 (fun _ _ h => h)); clear hk1; (try simp only [PU]))
      refine ⟨trivial, ?_⟩
      refine pq (some 15) ?_; (try simp only [PU])
      refine perm_nil ?_
      have Hb1 := Lib.hid (HK1.out.blk Hb.out id)
      have q1 := (blk_cell Hb1.out 1).trans rfl
      go_wp2_with ((with_reducible refine at_store (t := 3) rfl ?_); go_must (refine ev_store (cs' := #[.string T, .int .i64 ((a : Int) + 1)]) rfl rfl rfl rfl rfl rfl HI.out.1 HI.out.2 rfl Hb1.out (Nat.le_of_ble_eq_true rfl) rfl ?_; intro w2 hb2 hk2); have Hb2 := Lib.hid hb2; have HK2 := Lib.hid hk2; clear hb2 hk2; (try simp only [PU]))
      go_roundw
      case rel => exact ⟨i + 1, q, by go_num, by omega, Lib.hid (Hn.out w2 Hb2.out), Lib.hid ((HK.out.then HK1.out).trans HK2.out (fun _ _ h => h)), HR2⟩
      case measure => simp [intOf]; omega
  · have hi' : i = V.size := by omega
    have hd : (bl V).drop i = [] := List.drop_eq_nil_iff.2 (by rw [bl_len]; omega)
    have HR2 := Lib.hid (show R = .ok s' by rw [← HE.out, hd, wordB_nil])
    subst hi'
    clear hd
    go_wp2
    go_end0
    rw [HR2.out]
    exact ⟨⟨_, rfl⟩, Hr.out, HK.out⟩
end Go.Proofs.WV

namespace Go.Proofs.WV
open Go.RowKit Go.Proofs.KL Go.Proofs.WM
set_option maxRecDepth 100000
set_option linter.unusedSimpArgs false
set_option linter.unusedVariables false

def signed (m : Bool) (n : Nat) : Int := if m then -(n : Int) else (n : Int)
def signR (m : Bool) : R Nat → R Int
 | .ok x => .ok (signed m x.1, x.2)
 | .error e => .error e
theorem intB_is (s : Bs) : intB s = signR (isB 45 s).1 (digitsB (isB 45 s).1 (isB 45 s).2) := by
 cases s with
 | nil => rfl
 | cons c q =>
   by_cases h : c = 45
   · subst h
     rw [isB_at]
     show (match digitsB true q with | .ok (n, r1) => (Except.ok (-(n : Int), r1) : R Int) | .error e => .error e) = signR true (digitsB true q)
     cases digitsB true q <;> rfl
   · rw [isB_ne h]
     unfold intB
     split
     · rename_i heq
       injection heq with h1 h2
       exact absurd h1 h
     · show (match digitsB false (c :: q) with | .ok (n, r1) => (Except.ok ((n : Int), r1) : R Int) | .error e => .error e) = signR false (digitsB false (c :: q))
       cases digitsB false (c :: q) <;> rfl
theorem dig_int (c : UInt8) (h : isDigit c = true) : 48 ≤ (c.toNat : Int) ∧ (c.toNat : Int) ≤ 57 ∧ (c.toNat : Int) - 48 = (digB c : Int) := by
 unfold isDigit at h
 simp only [Bool.and_eq_true, decide_eq_true_eq, UInt8.le_iff_toNat_le] at h
 have h1 : (48 : UInt8).toNat = 48 := rfl
 have h2 : (57 : UInt8).toNat = 57 := rfl
 rw [h1, h2] at h
 unfold digB
 omega
theorem numB_stop (m f : Bool) (n : Nat) (s : Bs) (h : startsDigit s = false) : numB m f n s = .ok (n, s) := by
 cases s with
 | nil => rfl
 | cons c q => unfold startsDigit at h; unfold numB; simp [h]
theorem numB_step (m f : Bool) (n : Nat) (c : UInt8) (q : Bs) (h : isDigit c = true) : numB m f n (c :: q) = if (f = false ∧ n = 0) ∨ (m = true ∧ f = true ∧ c = 48) ∨ 9007199254740991 < n * 10 + digB c then .error (q.length + 1) else numB m false (n * 10 + digB c) q := by
 rw [numB, if_pos h]
set_option maxHeartbeats 4000000 in
theorem int77 {w : World} {r : Nat} {T : ByteArray} {s : Bs} (h : Rd w r T s) : Calls Tryd.prog 77 #[.pointer (some ⟨r, 0, none⟩)] w (EndR w r T (Value.int .i64) (intB s)) := by
 obtain ⟨i3, hi3, hs3⟩ := infoS3
 have HI := Lib.hid (And.intro hi3 hs3)
 rw [intB_is]
 have H101 := Lib.hid (is101 h 45 45 rfl)
 rcases hx : isB 45 s with ⟨m, s1⟩
 rw [hx] at H101
 unfold IsOut at H101
 simp only at H101 ⊢
 obtain ⟨R0, hR0⟩ : ∃ x, numB m true 0 s1 = x := ⟨_, rfl⟩
 obtain ⟨RR, hRR⟩ : ∃ x, signR m (digitsB m s1) = x := ⟨_, rfl⟩
 rw [hRR]
 unfold digitsB at hRR
 rw [hR0] at hRR
 have HR0 := Lib.hid hR0
 have HRR0 := Lib.hid hRR
 have Hdig := Lib.hid (fun W (h : Rd W r T s1) => digit76 h)
 clear hi3 hs3 h hx hR0 hRR
 rcases hdg : startsDigit s1 with _ | _
 · rw [hdg] at HRR0 Hdig
   have HR2 := Lib.hid (show RR = .error s1.length from HRR0.out.symm)
   clear hdg
   go_enter Tryd.func77, Tryd.ntmps77
   go_wp2_with (first
    | (go_at_call 101; go_must (refine H101.out.mono ?_; rintro e w1 ⟨rfl, hr1, hk1⟩)
       have HKs := Lib.hid hk1
       have Hr1 := Lib.hid hr1
       have Hle := Lib.hid hr1.le
       clear hk1 hr1
       (try simp only [PU]))
    | (go_at_call 76; go_must (refine (Hdig.out w1 Hr1.out).mono ?_; rintro e w2 ⟨rfl, hk1⟩); have HK1 := Lib.hid hk1
       have q1 := (blk_cell (hk1.blk Hr1.out.blk id) 1).trans rfl
       clear hk1; (try simp only [PU]))
    | (go_at_call 47; go_must (refine (fail47 (Hr1.out.keep HK1.out id) s1.length Hle.out).mono ?_; rintro e w3 ⟨rfl, rfl⟩); unfold stopAt; (try simp only [PU]))
   )
   refine ⟨rfl, ?_⟩
   rw [HR2.out]
   exact ⟨rfl, HKs.out.then HK1.out⟩
 · rw [hdg] at HRR0 Hdig
   have HRR := Lib.hid (show RR = signR m R0 from HRR0.out.symm)
   clear hdg HRR0
   cases m
   · go_enter Tryd.func77, Tryd.ntmps77
     go_wp2_with (first
      | (go_at_call 101; go_must (refine H101.out.mono ?_; rintro e w1 ⟨rfl, hr1, hk1⟩)
         have HKs0 := Lib.hid hk1
         have Hr1 := Lib.hid hr1
         clear hk1 hr1
         (try simp only [PU]))
      | (go_at_call 76; go_must (refine (Hdig.out w1 Hr1.out).mono ?_; rintro e w2 ⟨rfl, hk1⟩)
         have HKs := Lib.hid (HKs0.out.then hk1)
         have HR1 := Lib.hid (Hr1.out.keep hk1 id)
         clear hk1; (try simp only [PU]))
     )
     go_loopg [4, 5] s1.length (fun k nv fv wr => ∃ (n : Nat) (f : Bool) (s' : Bs), nv = .int .i64 n ∧ fv = .bool f ∧ s'.length ≤ k ∧ n ≤ 9007199254740991 ∧ Hid (Rd wr r T s') ∧ Hid (Keeps (· = r) w wr) ∧ Hid (numB false f n s' = R0))
     case atStart => exact ⟨0, true, s1, rfl, rfl, Nat.le_refl _, by omega, HR1, HKs, HR0⟩
     case round =>
      obtain ⟨n, f, s', rfl, rfl, hl, hnb, Hr, HK, HE⟩ := hrel
      have H76 := Lib.hid (fun W (hk : Keeps Nob wr W) => digit76 (Hr.out.keep hk id))
      have HK1 := Lib.hid (Keeps.refl Nob wr)
      rcases hdg : startsDigit s' with _ | _
      · have hst := numB_stop false f n s' hdg
        rw [hdg] at H76
        have HR2 := Lib.hid (show R0 = .ok (n, s') by rw [← HE.out, hst])
        have HK1 := Lib.hid (Keeps.refl Nob wr)
        clear hst hdg
        have Hb := Lib.hid Hr.out.blk
        have q1 := (blk_cell Hr.out.blk 1).trans rfl
        have H73 := Lib.hid True.intro
        have Hfail := Lib.hid True.intro
        go_wp2_with (first
         | (go_at_call 76; go_must (refine (H76.out _ HK1.out).mono ?_; rintro e w2 ⟨rfl, hk1⟩); have HK1 := Lib.hid (HK1.out.trans hk1 (fun _ _ h => h)); clear hk1 q1; have q1 := (blk_cell (HK1.out.blk Hb.out id) 1).trans rfl; (try simp only [PU]))
        )
        go_ret
        rw [HRR.out, HR2.out]
        exact ⟨rfl, Hr.out.keep HK1.out id, HK.out.then HK1.out⟩
      · rw [hdg] at H76
        cases s' with
        | nil => cases hdg
        | cons c q =>
          have hdc : isDigit c = true := hdg
          obtain ⟨hd0, hd1, hd2⟩ := dig_int c hdc
          have H73 := Lib.hid (fun W (hk : Keeps Nob wr W) => next73 (Hr.out.keep hk id))
          have Hfail := Lib.hid (fun W (hk : Keeps Nob wr W) => fail47 (Hr.out.keep hk id) (q.length + 1) Hr.out.le)
          have hstep := numB_step false f n c q hdc
          have HS := Lib.hid (show (if (f = false ∧ n = 0) ∨ (false = true ∧ f = true ∧ c = 48) ∨ 9007199254740991 < n * 10 + digB c then .error (q.length + 1) else numB false false (n * 10 + digB c) q) = R0 by rw [← hstep]; exact HE.out)
          obtain ⟨a, ha, ⟨hb, -⟩, hT, hal, hn⟩ := Hr.out.cons
          have hat : T.size - (q.length + 1) = a := by omega
          rw [hat] at Hfail
          have Hn := Lib.hid hn
          have Hb := Lib.hid hb
          have q1 := (blk_cell hb 1).trans rfl
          have h48 : c = 48 ↔ (c.toNat : Int) = 48 := ⟨fun h => by rw [h]; rfl, fun h => UInt8.toNat_inj.1 (by show c.toNat = 48; omega)⟩
          have H48 := Lib.hid h48
          obtain ⟨cv, hcv⟩ : ∃ x : Int, (c.toNat : Int) = x := ⟨_, rfl⟩
          rw [hcv] at hd0 hd1 hd2 H48
          have hhd : headN (c :: q) = cv := hcv
          rw [hhd] at H73
          have Hd := Lib.hid (show ((n * 10 + digB c : Nat) : Int) = (n : Int) * 10 + (cv - 48) by rw [hd2]; rfl)
          simp only [List.length_cons] at hl
          clear hdg hdc hstep hn hb h48 hcv hhd hd2 hal hat
          cases f
          · by_cases h0 : n = 0
            · subst h0
              have HR2 := Lib.hid (show R0 = .error (q.length + 1) by rw [← HS.out, if_pos (.inl ⟨rfl, rfl⟩)])
              go_wp2_with (first
               | (go_at_call 76; go_must (refine (H76.out _ HK1.out).mono ?_; rintro e w2 ⟨rfl, hk1⟩); have HK1 := Lib.hid (HK1.out.trans hk1 (fun _ _ h => h)); clear hk1 q1; have q1 := (blk_cell (HK1.out.blk Hb.out id) 1).trans rfl; (try simp only [PU]))
               | (go_at_call 73; go_must (refine (H73.out _ HK1.out).mono ?_; rintro e w2 ⟨rfl, hk1⟩); have HK1 := Lib.hid (HK1.out.trans hk1 (fun _ _ h => h)); clear hk1 q1; have q1 := (blk_cell (HK1.out.blk Hb.out id) 1).trans rfl; (try simp only [PU]))
               | (go_at_call 47; go_must (refine (Hfail.out _ HK1.out).mono ?_; rintro e w3 ⟨rfl, rfl⟩); unfold stopAt; (try simp only [PU]))
               | ((with_reducible refine at_store (t := 3) rfl ?_); go_must (refine ev_store (cs' := #[.string T, .int .i64 ((a : Int) + 1)]) rfl rfl rfl rfl rfl rfl HI.out.1 HI.out.2 rfl (HK1.out.blk Hb.out id) (Nat.le_of_ble_eq_true rfl) rfl ?_; intro w4 hb2 hk2); have Hb2 := Lib.hid hb2; have HK2 := Lib.hid hk2; clear hb2 hk2; (try simp only [PU]))
              )
              refine ⟨rfl, ?_⟩
              rw [HRR.out, HR2.out]
              exact ⟨rfl, HK.out.then HK1.out⟩
            · have n0 : ((n : Int) == 0) = false := by simpa using h0
              by_cases hmx : 9007199254740991 < (n : Int) * 10 + (cv - 48)
              · have HR2 := Lib.hid (show R0 = .error (q.length + 1) by rw [← HS.out, if_pos (.inr (.inr (by have := Hd.out; omega)))])
                go_wp2_with (first
                 | (go_at_call 76; go_must (refine (H76.out _ HK1.out).mono ?_; rintro e w2 ⟨rfl, hk1⟩); have HK1 := Lib.hid (HK1.out.trans hk1 (fun _ _ h => h)); clear hk1 q1; have q1 := (blk_cell (HK1.out.blk Hb.out id) 1).trans rfl; (try simp only [PU]))
                 | (go_at_call 73; go_must (refine (H73.out _ HK1.out).mono ?_; rintro e w2 ⟨rfl, hk1⟩); have HK1 := Lib.hid (HK1.out.trans hk1 (fun _ _ h => h)); clear hk1 q1; have q1 := (blk_cell (HK1.out.blk Hb.out id) 1).trans rfl; (try simp only [PU]))
                 | (go_at_call 47; go_must (refine (Hfail.out _ HK1.out).mono ?_; rintro e w3 ⟨rfl, rfl⟩); unfold stopAt; (try simp only [PU]))
                 | ((with_reducible refine at_store (t := 3) rfl ?_); go_must (refine ev_store (cs' := #[.string T, .int .i64 ((a : Int) + 1)]) rfl rfl rfl rfl rfl rfl HI.out.1 HI.out.2 rfl (HK1.out.blk Hb.out id) (Nat.le_of_ble_eq_true rfl) rfl ?_; intro w4 hb2 hk2); have Hb2 := Lib.hid hb2; have HK2 := Lib.hid hk2; clear hb2 hk2; (try simp only [PU]))
                )
                refine ⟨rfl, ?_⟩
                rw [HRR.out, HR2.out]
                exact ⟨rfl, HK.out.then HK1.out⟩
              · have HR2 := Lib.hid (show numB false false (n * 10 + digB c) q = R0 by rw [← HS.out, if_neg (by have := Hd.out; simp; omega)])
                go_wp2_with (first
                 | (go_at_call 76; go_must (refine (H76.out _ HK1.out).mono ?_; rintro e w2 ⟨rfl, hk1⟩); have HK1 := Lib.hid (HK1.out.trans hk1 (fun _ _ h => h)); clear hk1 q1; have q1 := (blk_cell (HK1.out.blk Hb.out id) 1).trans rfl; (try simp only [PU]))
                 | (go_at_call 73; go_must (refine (H73.out _ HK1.out).mono ?_; rintro e w2 ⟨rfl, hk1⟩); have HK1 := Lib.hid (HK1.out.trans hk1 (fun _ _ h => h)); clear hk1 q1; have q1 := (blk_cell (HK1.out.blk Hb.out id) 1).trans rfl; (try simp only [PU]))
                 | (go_at_call 47; go_must (refine (Hfail.out _ HK1.out).mono ?_; rintro e w3 ⟨rfl, rfl⟩); unfold stopAt; (try simp only [PU]))
                 | ((with_reducible refine at_store (t := 3) rfl ?_); go_must (refine ev_store (cs' := #[.string T, .int .i64 ((a : Int) + 1)]) rfl rfl rfl rfl rfl rfl HI.out.1 HI.out.2 rfl (HK1.out.blk Hb.out id) (Nat.le_of_ble_eq_true rfl) rfl ?_; intro w4 hb2 hk2); have Hb2 := Lib.hid hb2; have HK2 := Lib.hid hk2; clear hb2 hk2; (try simp only [PU]))
                )
                go_roundg q.length
                case measure => omega
                case rel => exact ⟨n * 10 + digB c, false, q, by rw [Hd.out], rfl, Nat.le_refl _, by have := Hd.out; omega, Lib.hid (Hn.out w4 Hb2.out), Lib.hid ((HK.out.then HK1.out).trans HK2.out (fun _ _ h => h)), HR2⟩
          · skip
            by_cases hmx : 9007199254740991 < (n : Int) * 10 + (cv - 48)
            · have HR2 := Lib.hid (show R0 = .error (q.length + 1) by rw [← HS.out, if_pos (.inr (.inr (by have := Hd.out; omega)))])
              go_wp2_with (first
               | (go_at_call 76; go_must (refine (H76.out _ HK1.out).mono ?_; rintro e w2 ⟨rfl, hk1⟩); have HK1 := Lib.hid (HK1.out.trans hk1 (fun _ _ h => h)); clear hk1 q1; have q1 := (blk_cell (HK1.out.blk Hb.out id) 1).trans rfl; (try simp only [PU]))
               | (go_at_call 73; go_must (refine (H73.out _ HK1.out).mono ?_; rintro e w2 ⟨rfl, hk1⟩); have HK1 := Lib.hid (HK1.out.trans hk1 (fun _ _ h => h)); clear hk1 q1; have q1 := (blk_cell (HK1.out.blk Hb.out id) 1).trans rfl; (try simp only [PU]))
               | (go_at_call 47; go_must (refine (Hfail.out _ HK1.out).mono ?_; rintro e w3 ⟨rfl, rfl⟩); unfold stopAt; (try simp only [PU]))
               | ((with_reducible refine at_store (t := 3) rfl ?_); go_must (refine ev_store (cs' := #[.string T, .int .i64 ((a : Int) + 1)]) rfl rfl rfl rfl rfl rfl HI.out.1 HI.out.2 rfl (HK1.out.blk Hb.out id) (Nat.le_of_ble_eq_true rfl) rfl ?_; intro w4 hb2 hk2); have Hb2 := Lib.hid hb2; have HK2 := Lib.hid hk2; clear hb2 hk2; (try simp only [PU]))
              )
              refine ⟨rfl, ?_⟩
              rw [HRR.out, HR2.out]
              exact ⟨rfl, HK.out.then HK1.out⟩
            · have HR2 := Lib.hid (show numB false false (n * 10 + digB c) q = R0 by rw [← HS.out, if_neg (by have := Hd.out; simp; omega)])
              go_wp2_with (first
               | (go_at_call 76; go_must (refine (H76.out _ HK1.out).mono ?_; rintro e w2 ⟨rfl, hk1⟩); have HK1 := Lib.hid (HK1.out.trans hk1 (fun _ _ h => h)); clear hk1 q1; have q1 := (blk_cell (HK1.out.blk Hb.out id) 1).trans rfl; (try simp only [PU]))
               | (go_at_call 73; go_must (refine (H73.out _ HK1.out).mono ?_; rintro e w2 ⟨rfl, hk1⟩); have HK1 := Lib.hid (HK1.out.trans hk1 (fun _ _ h => h)); clear hk1 q1; have q1 := (blk_cell (HK1.out.blk Hb.out id) 1).trans rfl; (try simp only [PU]))
               | (go_at_call 47; go_must (refine (Hfail.out _ HK1.out).mono ?_; rintro e w3 ⟨rfl, rfl⟩); unfold stopAt; (try simp only [PU]))
               | ((with_reducible refine at_store (t := 3) rfl ?_); go_must (refine ev_store (cs' := #[.string T, .int .i64 ((a : Int) + 1)]) rfl rfl rfl rfl rfl rfl HI.out.1 HI.out.2 rfl (HK1.out.blk Hb.out id) (Nat.le_of_ble_eq_true rfl) rfl ?_; intro w4 hb2 hk2); have Hb2 := Lib.hid hb2; have HK2 := Lib.hid hk2; clear hb2 hk2; (try simp only [PU]))
              )
              go_roundg q.length
              case measure => omega
              case rel => exact ⟨n * 10 + digB c, false, q, by rw [Hd.out], rfl, Nat.le_refl _, by have := Hd.out; omega, Lib.hid (Hn.out w4 Hb2.out), Lib.hid ((HK.out.then HK1.out).trans HK2.out (fun _ _ h => h)), HR2⟩
   · go_enter Tryd.func77, Tryd.ntmps77
     go_wp2_with (first
      | (go_at_call 101; go_must (refine H101.out.mono ?_; rintro e w1 ⟨rfl, hr1, hk1⟩)
         have HKs0 := Lib.hid hk1
         have Hr1 := Lib.hid hr1
         clear hk1 hr1
         (try simp only [PU]))
      | (go_at_call 76; go_must (refine (Hdig.out w1 Hr1.out).mono ?_; rintro e w2 ⟨rfl, hk1⟩)
         have HKs := Lib.hid (HKs0.out.then hk1)
         have HR1 := Lib.hid (Hr1.out.keep hk1 id)
         clear hk1; (try simp only [PU]))
     )
     go_loopg [4, 5] s1.length (fun k nv fv wr => ∃ (n : Nat) (f : Bool) (s' : Bs), nv = .int .i64 n ∧ fv = .bool f ∧ s'.length ≤ k ∧ n ≤ 9007199254740991 ∧ Hid (Rd wr r T s') ∧ Hid (Keeps (· = r) w wr) ∧ Hid (numB true f n s' = R0))
     case atStart => exact ⟨0, true, s1, rfl, rfl, Nat.le_refl _, by omega, HR1, HKs, HR0⟩
     case round =>
      obtain ⟨n, f, s', rfl, rfl, hl, hnb, Hr, HK, HE⟩ := hrel
      have H76 := Lib.hid (fun W (hk : Keeps Nob wr W) => digit76 (Hr.out.keep hk id))
      have HK1 := Lib.hid (Keeps.refl Nob wr)
      rcases hdg : startsDigit s' with _ | _
      · have hst := numB_stop true f n s' hdg
        rw [hdg] at H76
        have HR2 := Lib.hid (show R0 = .ok (n, s') by rw [← HE.out, hst])
        have HK1 := Lib.hid (Keeps.refl Nob wr)
        clear hst hdg
        have Hb := Lib.hid Hr.out.blk
        have q1 := (blk_cell Hr.out.blk 1).trans rfl
        have H73 := Lib.hid True.intro
        have Hfail := Lib.hid True.intro
        go_wp2_with (first
         | (go_at_call 76; go_must (refine (H76.out _ HK1.out).mono ?_; rintro e w2 ⟨rfl, hk1⟩); have HK1 := Lib.hid (HK1.out.trans hk1 (fun _ _ h => h)); clear hk1 q1; have q1 := (blk_cell (HK1.out.blk Hb.out id) 1).trans rfl; (try simp only [PU]))
        )
        go_ret
        rw [HRR.out, HR2.out]
        exact ⟨rfl, Hr.out.keep HK1.out id, HK.out.then HK1.out⟩
      · rw [hdg] at H76
        cases s' with
        | nil => cases hdg
        | cons c q =>
          have hdc : isDigit c = true := hdg
          obtain ⟨hd0, hd1, hd2⟩ := dig_int c hdc
          have H73 := Lib.hid (fun W (hk : Keeps Nob wr W) => next73 (Hr.out.keep hk id))
          have Hfail := Lib.hid (fun W (hk : Keeps Nob wr W) => fail47 (Hr.out.keep hk id) (q.length + 1) Hr.out.le)
          have hstep := numB_step true f n c q hdc
          have HS := Lib.hid (show (if (f = false ∧ n = 0) ∨ (true = true ∧ f = true ∧ c = 48) ∨ 9007199254740991 < n * 10 + digB c then .error (q.length + 1) else numB true false (n * 10 + digB c) q) = R0 by rw [← hstep]; exact HE.out)
          obtain ⟨a, ha, ⟨hb, -⟩, hT, hal, hn⟩ := Hr.out.cons
          have hat : T.size - (q.length + 1) = a := by omega
          rw [hat] at Hfail
          have Hn := Lib.hid hn
          have Hb := Lib.hid hb
          have q1 := (blk_cell hb 1).trans rfl
          have h48 : c = 48 ↔ (c.toNat : Int) = 48 := ⟨fun h => by rw [h]; rfl, fun h => UInt8.toNat_inj.1 (by show c.toNat = 48; omega)⟩
          have H48 := Lib.hid h48
          obtain ⟨cv, hcv⟩ : ∃ x : Int, (c.toNat : Int) = x := ⟨_, rfl⟩
          rw [hcv] at hd0 hd1 hd2 H48
          have hhd : headN (c :: q) = cv := hcv
          rw [hhd] at H73
          have Hd := Lib.hid (show ((n * 10 + digB c : Nat) : Int) = (n : Int) * 10 + (cv - 48) by rw [hd2]; rfl)
          simp only [List.length_cons] at hl
          clear hdg hdc hstep hn hb h48 hcv hhd hd2 hal hat
          cases f
          · by_cases h0 : n = 0
            · subst h0
              have HR2 := Lib.hid (show R0 = .error (q.length + 1) by rw [← HS.out, if_pos (.inl ⟨rfl, rfl⟩)])
              go_wp2_with (first
               | (go_at_call 76; go_must (refine (H76.out _ HK1.out).mono ?_; rintro e w2 ⟨rfl, hk1⟩); have HK1 := Lib.hid (HK1.out.trans hk1 (fun _ _ h => h)); clear hk1 q1; have q1 := (blk_cell (HK1.out.blk Hb.out id) 1).trans rfl; (try simp only [PU]))
               | (go_at_call 73; go_must (refine (H73.out _ HK1.out).mono ?_; rintro e w2 ⟨rfl, hk1⟩); have HK1 := Lib.hid (HK1.out.trans hk1 (fun _ _ h => h)); clear hk1 q1; have q1 := (blk_cell (HK1.out.blk Hb.out id) 1).trans rfl; (try simp only [PU]))
               | (go_at_call 47; go_must (refine (Hfail.out _ HK1.out).mono ?_; rintro e w3 ⟨rfl, rfl⟩); unfold stopAt; (try simp only [PU]))
               | ((with_reducible refine at_store (t := 3) rfl ?_); go_must (refine ev_store (cs' := #[.string T, .int .i64 ((a : Int) + 1)]) rfl rfl rfl rfl rfl rfl HI.out.1 HI.out.2 rfl (HK1.out.blk Hb.out id) (Nat.le_of_ble_eq_true rfl) rfl ?_; intro w4 hb2 hk2); have Hb2 := Lib.hid hb2; have HK2 := Lib.hid hk2; clear hb2 hk2; (try simp only [PU]))
              )
              refine ⟨rfl, ?_⟩
              rw [HRR.out, HR2.out]
              exact ⟨rfl, HK.out.then HK1.out⟩
            · have n0 : ((n : Int) == 0) = false := by simpa using h0
              by_cases hmx : 9007199254740991 < (n : Int) * 10 + (cv - 48)
              · have HR2 := Lib.hid (show R0 = .error (q.length + 1) by rw [← HS.out, if_pos (.inr (.inr (by have := Hd.out; omega)))])
                go_wp2_with (first
                 | (go_at_call 76; go_must (refine (H76.out _ HK1.out).mono ?_; rintro e w2 ⟨rfl, hk1⟩); have HK1 := Lib.hid (HK1.out.trans hk1 (fun _ _ h => h)); clear hk1 q1; have q1 := (blk_cell (HK1.out.blk Hb.out id) 1).trans rfl; (try simp only [PU]))
                 | (go_at_call 73; go_must (refine (H73.out _ HK1.out).mono ?_; rintro e w2 ⟨rfl, hk1⟩); have HK1 := Lib.hid (HK1.out.trans hk1 (fun _ _ h => h)); clear hk1 q1; have q1 := (blk_cell (HK1.out.blk Hb.out id) 1).trans rfl; (try simp only [PU]))
                 | (go_at_call 47; go_must (refine (Hfail.out _ HK1.out).mono ?_; rintro e w3 ⟨rfl, rfl⟩); unfold stopAt; (try simp only [PU]))
                 | ((with_reducible refine at_store (t := 3) rfl ?_); go_must (refine ev_store (cs' := #[.string T, .int .i64 ((a : Int) + 1)]) rfl rfl rfl rfl rfl rfl HI.out.1 HI.out.2 rfl (HK1.out.blk Hb.out id) (Nat.le_of_ble_eq_true rfl) rfl ?_; intro w4 hb2 hk2); have Hb2 := Lib.hid hb2; have HK2 := Lib.hid hk2; clear hb2 hk2; (try simp only [PU]))
                )
                refine ⟨rfl, ?_⟩
                rw [HRR.out, HR2.out]
                exact ⟨rfl, HK.out.then HK1.out⟩
              · have HR2 := Lib.hid (show numB true false (n * 10 + digB c) q = R0 by rw [← HS.out, if_neg (by have := Hd.out; simp; omega)])
                go_wp2_with (first
                 | (go_at_call 76; go_must (refine (H76.out _ HK1.out).mono ?_; rintro e w2 ⟨rfl, hk1⟩); have HK1 := Lib.hid (HK1.out.trans hk1 (fun _ _ h => h)); clear hk1 q1; have q1 := (blk_cell (HK1.out.blk Hb.out id) 1).trans rfl; (try simp only [PU]))
                 | (go_at_call 73; go_must (refine (H73.out _ HK1.out).mono ?_; rintro e w2 ⟨rfl, hk1⟩); have HK1 := Lib.hid (HK1.out.trans hk1 (fun _ _ h => h)); clear hk1 q1; have q1 := (blk_cell (HK1.out.blk Hb.out id) 1).trans rfl; (try simp only [PU]))
                 | (go_at_call 47; go_must (refine (Hfail.out _ HK1.out).mono ?_; rintro e w3 ⟨rfl, rfl⟩); unfold stopAt; (try simp only [PU]))
                 | ((with_reducible refine at_store (t := 3) rfl ?_); go_must (refine ev_store (cs' := #[.string T, .int .i64 ((a : Int) + 1)]) rfl rfl rfl rfl rfl rfl HI.out.1 HI.out.2 rfl (HK1.out.blk Hb.out id) (Nat.le_of_ble_eq_true rfl) rfl ?_; intro w4 hb2 hk2); have Hb2 := Lib.hid hb2; have HK2 := Lib.hid hk2; clear hb2 hk2; (try simp only [PU]))
                )
                go_roundg q.length
                case measure => omega
                case rel => exact ⟨n * 10 + digB c, false, q, by rw [Hd.out], rfl, Nat.le_refl _, by have := Hd.out; omega, Lib.hid (Hn.out w4 Hb2.out), Lib.hid ((HK.out.then HK1.out).trans HK2.out (fun _ _ h => h)), HR2⟩
          · skip
            by_cases hz : cv = 48
            · have HR2 := Lib.hid (show R0 = .error (q.length + 1) by rw [← HS.out, if_pos (.inr (.inl ⟨rfl, rfl, H48.out.2 hz⟩))])
              subst hz
              go_wp2_with (first
               | (go_at_call 76; go_must (refine (H76.out _ HK1.out).mono ?_; rintro e w2 ⟨rfl, hk1⟩); have HK1 := Lib.hid (HK1.out.trans hk1 (fun _ _ h => h)); clear hk1 q1; have q1 := (blk_cell (HK1.out.blk Hb.out id) 1).trans rfl; (try simp only [PU]))
               | (go_at_call 73; go_must (refine (H73.out _ HK1.out).mono ?_; rintro e w2 ⟨rfl, hk1⟩); have HK1 := Lib.hid (HK1.out.trans hk1 (fun _ _ h => h)); clear hk1 q1; have q1 := (blk_cell (HK1.out.blk Hb.out id) 1).trans rfl; (try simp only [PU]))
               | (go_at_call 47; go_must (refine (Hfail.out _ HK1.out).mono ?_; rintro e w3 ⟨rfl, rfl⟩); unfold stopAt; (try simp only [PU]))
               | ((with_reducible refine at_store (t := 3) rfl ?_); go_must (refine ev_store (cs' := #[.string T, .int .i64 ((a : Int) + 1)]) rfl rfl rfl rfl rfl rfl HI.out.1 HI.out.2 rfl (HK1.out.blk Hb.out id) (Nat.le_of_ble_eq_true rfl) rfl ?_; intro w4 hb2 hk2); have Hb2 := Lib.hid hb2; have HK2 := Lib.hid hk2; clear hb2 hk2; (try simp only [PU]))
              )
              refine ⟨rfl, ?_⟩
              rw [HRR.out, HR2.out]
              exact ⟨rfl, HK.out.then HK1.out⟩
            · have Hz := Lib.hid (fun h => hz (H48.out.1 h))
              have hzb : (cv == 48) = false := by simpa using hz
              clear hz
              by_cases hmx : 9007199254740991 < (n : Int) * 10 + (cv - 48)
              · have HR2 := Lib.hid (show R0 = .error (q.length + 1) by rw [← HS.out, if_pos (.inr (.inr (by have := Hd.out; omega)))])
                go_wp2_with (first
                 | (go_at_call 76; go_must (refine (H76.out _ HK1.out).mono ?_; rintro e w2 ⟨rfl, hk1⟩); have HK1 := Lib.hid (HK1.out.trans hk1 (fun _ _ h => h)); clear hk1 q1; have q1 := (blk_cell (HK1.out.blk Hb.out id) 1).trans rfl; (try simp only [PU]))
                 | (go_at_call 73; go_must (refine (H73.out _ HK1.out).mono ?_; rintro e w2 ⟨rfl, hk1⟩); have HK1 := Lib.hid (HK1.out.trans hk1 (fun _ _ h => h)); clear hk1 q1; have q1 := (blk_cell (HK1.out.blk Hb.out id) 1).trans rfl; (try simp only [PU]))
                 | (go_at_call 47; go_must (refine (Hfail.out _ HK1.out).mono ?_; rintro e w3 ⟨rfl, rfl⟩); unfold stopAt; (try simp only [PU]))
                 | ((with_reducible refine at_store (t := 3) rfl ?_); go_must (refine ev_store (cs' := #[.string T, .int .i64 ((a : Int) + 1)]) rfl rfl rfl rfl rfl rfl HI.out.1 HI.out.2 rfl (HK1.out.blk Hb.out id) (Nat.le_of_ble_eq_true rfl) rfl ?_; intro w4 hb2 hk2); have Hb2 := Lib.hid hb2; have HK2 := Lib.hid hk2; clear hb2 hk2; (try simp only [PU]))
                )
                refine ⟨rfl, ?_⟩
                rw [HRR.out, HR2.out]
                exact ⟨rfl, HK.out.then HK1.out⟩
              · have HR2 := Lib.hid (show numB true false (n * 10 + digB c) q = R0 by rw [← HS.out, if_neg (fun h => h.elim (fun h => absurd h.1 (by decide)) (fun h => h.elim (fun h => Hz.out h.2.2) (fun h => by have := Hd.out; omega)))])
                go_wp2_with (first
                 | (go_at_call 76; go_must (refine (H76.out _ HK1.out).mono ?_; rintro e w2 ⟨rfl, hk1⟩); have HK1 := Lib.hid (HK1.out.trans hk1 (fun _ _ h => h)); clear hk1 q1; have q1 := (blk_cell (HK1.out.blk Hb.out id) 1).trans rfl; (try simp only [PU]))
                 | (go_at_call 73; go_must (refine (H73.out _ HK1.out).mono ?_; rintro e w2 ⟨rfl, hk1⟩); have HK1 := Lib.hid (HK1.out.trans hk1 (fun _ _ h => h)); clear hk1 q1; have q1 := (blk_cell (HK1.out.blk Hb.out id) 1).trans rfl; (try simp only [PU]))
                 | (go_at_call 47; go_must (refine (Hfail.out _ HK1.out).mono ?_; rintro e w3 ⟨rfl, rfl⟩); unfold stopAt; (try simp only [PU]))
                 | ((with_reducible refine at_store (t := 3) rfl ?_); go_must (refine ev_store (cs' := #[.string T, .int .i64 ((a : Int) + 1)]) rfl rfl rfl rfl rfl rfl HI.out.1 HI.out.2 rfl (HK1.out.blk Hb.out id) (Nat.le_of_ble_eq_true rfl) rfl ?_; intro w4 hb2 hk2); have Hb2 := Lib.hid hb2; have HK2 := Lib.hid hk2; clear hb2 hk2; (try simp only [PU]))
                )
                go_roundg q.length
                case measure => omega
                case rel => exact ⟨n * 10 + digB c, false, q, by rw [Hd.out], rfl, Nat.le_refl _, by have := Hd.out; omega, Lib.hid (Hn.out w4 Hb2.out), Lib.hid ((HK.out.then HK1.out).trans HK2.out (fun _ _ h => h)), HR2⟩
end Go.Proofs.WV

namespace Go.Proofs.WV
open Go.RowKit Go.Proofs.KL Go.Proofs.WM
set_option maxRecDepth 100000
set_option linter.unusedSimpArgs false
set_option linter.unusedVariables false

def shortT : Bs := [34, 92, 47, 98, 102, 110, 114, 116]
def meantT : Bs := [34, 92, 47, 8, 12, 10, 13, 9]
def hexT : Bs := [48, 49, 50, 51, 52, 53, 54, 55, 56, 57, 97, 98, 99, 100, 101, 102, 65, 66, 67, 68, 69, 70]
def chkS (n : Nat) : Bool := match shortB (UInt8.ofNat n) with
 | none => Lib.indexByte shortT (UInt8.ofNat n) == -1
 | some b => (List.range 8).any fun i => Lib.indexByte shortT (UInt8.ofNat n) == (i : Int) && meantT.getD i 0 == b
def chkH (n : Nat) : Bool := match hexD (UInt8.ofNat n) with
 | none => Lib.indexByte hexT (UInt8.ofNat n) == -1
 | some d => Nat.ble d 15 && ((Lib.indexByte hexT (UInt8.ofNat n) == (d : Int)) || (Lib.indexByte hexT (UInt8.ofNat n) == ((d + 6 : Nat) : Int) && Nat.ble 10 d))
theorem allS : (List.range 256).all chkS = true := by kernel_rfl
theorem allH : (List.range 256).all chkH = true := by kernel_rfl
theorem all_at {f : Nat → Bool} (h : (List.range 256).all f = true) (c : UInt8) : f c.toNat = true := List.all_eq_true.1 h _ (List.mem_range.2 c.toNat_lt)
theorem shortS (c : UInt8) : (shortB c = none ∧ Lib.indexByte shortT c = -1) ∨ ∃ b i, shortB c = some b ∧ i < 8 ∧ Lib.indexByte shortT c = (i : Nat) ∧ meantT.getD i 0 = b := by
 have h := all_at allS c
 unfold chkS at h
 rw [show UInt8.ofNat c.toNat = c from UInt8.ofNat_toNat] at h
 rcases hs : shortB c with _ | b
 · rw [hs] at h
   exact .inl ⟨rfl, by simpa using h⟩
 · rw [hs] at h
   simp only [List.any_eq_true, List.mem_range, Bool.and_eq_true, beq_iff_eq] at h
   obtain ⟨i, hi, h1, h2⟩ := h
   exact .inr ⟨b, i, rfl, hi, h1, h2⟩
theorem hexS (c : UInt8) : (hexD c = none ∧ Lib.indexByte hexT c = -1) ∨ ∃ d, hexD c = some d ∧ d ≤ 15 ∧ (Lib.indexByte hexT c = (d : Nat) ∨ (Lib.indexByte hexT c = (d : Nat) + 6 ∧ 10 ≤ d)) := by
 have h := all_at allH c
 unfold chkH at h
 rw [show UInt8.ofNat c.toNat = c from UInt8.ofNat_toNat] at h
 rcases hs : hexD c with _ | d
 · rw [hs] at h
   exact .inl ⟨rfl, by simpa using h⟩
 · rw [hs] at h
   simp only [Bool.and_eq_true, Bool.or_eq_true, beq_iff_eq, Nat.ble_eq] at h
   obtain ⟨h1, h2⟩ := h
   refine .inr ⟨d, rfl, h1, ?_⟩
   rcases h2 with h2 | ⟨h2, h3⟩
   · exact .inl h2
   · exact .inr ⟨by rw [h2]; push_cast; rfl, h3⟩
def headB : Bs → UInt8
 | [] => 0
 | c :: _ => c
theorem headN_B (s : Bs) : headN s = ((headB s).toNat : Int) := by cases s <;> rfl
theorem short72 (s : Bs) (w : World) : Calls Tryd.prog 72 #[.string ⟨#[34, 92, 47, 98, 102, 110, 114, 116]⟩, .int .u8 (headN s)] w fun e w' => e = .returned (.int .i64 (Lib.indexByte shortT (headB s))) ∧ w' = w := by
 rw [headN_B]
 refine (Tryd.strings_IndexByte ⟨#[34, 92, 47, 98, 102, 110, 114, 116]⟩ _ w).mono ?_
 rintro e w' ⟨rfl, rfl⟩
 rw [u8_back]
 exact ⟨rfl, rfl⟩
theorem hex72 (s : Bs) (w : World) : Calls Tryd.prog 72 #[.string ⟨#[48, 49, 50, 51, 52, 53, 54, 55, 56, 57, 97, 98, 99, 100, 101, 102, 65, 66, 67, 68, 69, 70]⟩, .int .u8 (headN s)] w fun e w' => e = .returned (.int .i64 (Lib.indexByte hexT (headB s))) ∧ w' = w := by
 rw [headN_B]
 refine (Tryd.strings_IndexByte ⟨#[48, 49, 50, 51, 52, 53, 54, 55, 56, 57, 97, 98, 99, 100, 101, 102, 65, 66, 67, 68, 69, 70]⟩ _ w).mono ?_
 rintro e w' ⟨rfl, rfl⟩
 rw [u8_back]
 exact ⟨rfl, rfl⟩
theorem escB_word (s : Bs) (h : shortB (headB s) = none) : escB s = (match wordB [117] s with | .error n => .error n | .ok r => (match hexB4 4 0 r with | .ok x => .ok (UInt8.ofNat x.1, x.2) | .error e => .error e)) := by
 cases s with
 | nil => rfl
 | cons c q =>
   have h' : shortB c = none := h
   simp only [escB, h']
   by_cases hc : c = 117
   · subst hc
     simp only [wordB, if_true]
     cases hexB4 4 0 q <;> rfl
   · simp [hc, wordB]
set_option maxHeartbeats 4000000 in
theorem escShort {w : World} {r : Nat} {T : ByteArray} {c : UInt8} {q : Bs} (h : Rd w r T (c :: q)) (i : Nat) (hi : i < 8) (hx : Lib.indexByte shortT c = (i : Nat)) : Calls Tryd.prog 102 #[.pointer (some ⟨r, 0, none⟩)] w (EndR w r T (fun b => .int .u8 b.toNat) (.ok (meantT.getD i 0, q))) := by
 obtain ⟨i3, hi3, hs3⟩ := infoS3
 have HI := Lib.hid (And.intro hi3 hs3)
 have H73 := Lib.hid (fun W (hk : Keeps Nob w W) => next73 (h.keep hk id))
 have H72 := Lib.hid (fun W => short72 (c :: q) W)
 have hhb : headB (c :: q) = c := rfl
 rw [hhb, hx] at H72
 obtain ⟨a, ha, ⟨hb, -⟩, hT, -, hn⟩ := h.cons
 have Hb := Lib.hid hb
 have Hn := Lib.hid hn
 have hai : (a : Int) < (T.size : Int) := by omega
 generalize headN (c :: q) = hv at *
 have HK1 := Lib.hid (Keeps.refl Nob w)
 clear hi3 hs3 h hx hhb hb hn
 have hcase : i = 0 ∨ i = 1 ∨ i = 2 ∨ i = 3 ∨ i = 4 ∨ i = 5 ∨ i = 6 ∨ i = 7 := by omega
 clear hi
 rcases hcase with rfl | rfl | rfl | rfl | rfl | rfl | rfl | rfl
 · skip
   go_enter Tryd.func102, Tryd.ntmps102
   go_wp2_with (first
    | (go_at_call 73; go_must (refine (H73.out _ HK1.out).mono ?_; rintro e w2 ⟨rfl, hk1⟩); have HK1 := Lib.hid (HK1.out.trans hk1 (fun _ _ h => h)); clear hk1; (try simp only [PU]))
    | (go_at_call 72; go_must (refine (H72.out _).mono ?_; rintro e w3 ⟨rfl, rfl⟩); (try simp only [PU]))
   )
   have c0 := (blk_cell (HK1.out.blk Hb.out id) 0).trans rfl
   have c1 := (blk_cell (HK1.out.blk Hb.out id) 1).trans rfl
   refine wp_region_perm [(0, true), (1, true), (2, true), (3, true), (4, true), (5, true), (6, true), (7, true), (8, true), (9, true), (10, true), (11, true), (12, true), (13, true)] (fun w' => w'.cell? ⟨r, 0, none⟩ = some (.string T) ∧ w'.cell? ⟨r, 1, none⟩ = some (.int .i64 a)) rfl (by kernel_rfl) (by kernel_rfl) (by decide) (fun c a d v w h => by cases d <;> exact h) ⟨c0, c1⟩ ?_
   refine pq (some 12) ?_; (try simp only [PU])
   refine pq (some 13) ?_; (try simp only [PU])
   refine pq (some 14) ?_; (try simp only [PU])
   refine pq (some 15) ?_; (try simp only [PU])
   refine pq (some 16) ?_; (try simp only [PU])
   refine pq (some 17) ?_; (try simp only [PU])
   refine pq (some 18) ?_; (try simp only [PU])
   refine pq (some 19) ?_; (try simp only [PU])
   refine pq (some 20) ?_; (try simp only [PU])
   refine pq (some 21) ?_; (try simp only [PU])
   refine pq (some 22) ?_; (try simp only [PU])
   refine pq (some 23) ?_; (try simp only [PU])
   refine pq (some 24) ?_; (try simp only [PU])
   refine pq (some 25) ?_; (try simp only [PU])
   refine perm_nil ?_
   go_wp2_with ((with_reducible refine at_store (t := 3) rfl ?_); go_must (refine ev_store (cs' := #[.string T, .int .i64 ((a : Int) + 1)]) rfl rfl rfl rfl rfl rfl HI.out.1 HI.out.2 rfl ((HK1.out.then (Keeps.refl Nob _).drew).blk Hb.out id) (Nat.le_of_ble_eq_true rfl) rfl ?_; intro w4 hb2 hk2); have Hb2 := Lib.hid hb2; have HK2 := Lib.hid hk2; clear hb2 hk2; (try simp only [PU]))
   go_ret
   exact ⟨rfl, Hn.out w4 Hb2.out, ((Keeps.refl (· = r) w).then (HK1.out.then (Keeps.refl Nob _).drew)).trans HK2.out (fun _ _ h => h)⟩
 · skip
   go_enter Tryd.func102, Tryd.ntmps102
   go_wp2_with (first
    | (go_at_call 73; go_must (refine (H73.out _ HK1.out).mono ?_; rintro e w2 ⟨rfl, hk1⟩); have HK1 := Lib.hid (HK1.out.trans hk1 (fun _ _ h => h)); clear hk1; (try simp only [PU]))
    | (go_at_call 72; go_must (refine (H72.out _).mono ?_; rintro e w3 ⟨rfl, rfl⟩); (try simp only [PU]))
   )
   have c0 := (blk_cell (HK1.out.blk Hb.out id) 0).trans rfl
   have c1 := (blk_cell (HK1.out.blk Hb.out id) 1).trans rfl
   refine wp_region_perm [(0, true), (1, true), (2, true), (3, true), (4, true), (5, true), (6, true), (7, true), (8, true), (9, true), (10, true), (11, true), (12, true), (13, true)] (fun w' => w'.cell? ⟨r, 0, none⟩ = some (.string T) ∧ w'.cell? ⟨r, 1, none⟩ = some (.int .i64 a)) rfl (by kernel_rfl) (by kernel_rfl) (by decide) (fun c a d v w h => by cases d <;> exact h) ⟨c0, c1⟩ ?_
   refine pq (some 12) ?_; (try simp only [PU])
   refine pq (some 13) ?_; (try simp only [PU])
   refine pq (some 14) ?_; (try simp only [PU])
   refine pq (some 15) ?_; (try simp only [PU])
   refine pq (some 16) ?_; (try simp only [PU])
   refine pq (some 17) ?_; (try simp only [PU])
   refine pq (some 18) ?_; (try simp only [PU])
   refine pq (some 19) ?_; (try simp only [PU])
   refine pq (some 20) ?_; (try simp only [PU])
   refine pq (some 21) ?_; (try simp only [PU])
   refine pq (some 22) ?_; (try simp only [PU])
   refine pq (some 23) ?_; (try simp only [PU])
   refine pq (some 24) ?_; (try simp only [PU])
   refine pq (some 25) ?_; (try simp only [PU])
   refine perm_nil ?_
   go_wp2_with ((with_reducible refine at_store (t := 3) rfl ?_); go_must (refine ev_store (cs' := #[.string T, .int .i64 ((a : Int) + 1)]) rfl rfl rfl rfl rfl rfl HI.out.1 HI.out.2 rfl ((HK1.out.then (Keeps.refl Nob _).drew).blk Hb.out id) (Nat.le_of_ble_eq_true rfl) rfl ?_; intro w4 hb2 hk2); have Hb2 := Lib.hid hb2; have HK2 := Lib.hid hk2; clear hb2 hk2; (try simp only [PU]))
   go_ret
   exact ⟨rfl, Hn.out w4 Hb2.out, ((Keeps.refl (· = r) w).then (HK1.out.then (Keeps.refl Nob _).drew)).trans HK2.out (fun _ _ h => h)⟩
 · skip
   go_enter Tryd.func102, Tryd.ntmps102
   go_wp2_with (first
    | (go_at_call 73; go_must (refine (H73.out _ HK1.out).mono ?_; rintro e w2 ⟨rfl, hk1⟩); have HK1 := Lib.hid (HK1.out.trans hk1 (fun _ _ h => h)); clear hk1; (try simp only [PU]))
    | (go_at_call 72; go_must (refine (H72.out _).mono ?_; rintro e w3 ⟨rfl, rfl⟩); (try simp only [PU]))
   )
   have c0 := (blk_cell (HK1.out.blk Hb.out id) 0).trans rfl
   have c1 := (blk_cell (HK1.out.blk Hb.out id) 1).trans rfl
   refine wp_region_perm [(0, true), (1, true), (2, true), (3, true), (4, true), (5, true), (6, true), (7, true), (8, true), (9, true), (10, true), (11, true), (12, true), (13, true)] (fun w' => w'.cell? ⟨r, 0, none⟩ = some (.string T) ∧ w'.cell? ⟨r, 1, none⟩ = some (.int .i64 a)) rfl (by kernel_rfl) (by kernel_rfl) (by decide) (fun c a d v w h => by cases d <;> exact h) ⟨c0, c1⟩ ?_
   refine pq (some 12) ?_; (try simp only [PU])
   refine pq (some 13) ?_; (try simp only [PU])
   refine pq (some 14) ?_; (try simp only [PU])
   refine pq (some 15) ?_; (try simp only [PU])
   refine pq (some 16) ?_; (try simp only [PU])
   refine pq (some 17) ?_; (try simp only [PU])
   refine pq (some 18) ?_; (try simp only [PU])
   refine pq (some 19) ?_; (try simp only [PU])
   refine pq (some 20) ?_; (try simp only [PU])
   refine pq (some 21) ?_; (try simp only [PU])
   refine pq (some 22) ?_; (try simp only [PU])
   refine pq (some 23) ?_; (try simp only [PU])
   refine pq (some 24) ?_; (try simp only [PU])
   refine pq (some 25) ?_; (try simp only [PU])
   refine perm_nil ?_
   go_wp2_with ((with_reducible refine at_store (t := 3) rfl ?_); go_must (refine ev_store (cs' := #[.string T, .int .i64 ((a : Int) + 1)]) rfl rfl rfl rfl rfl rfl HI.out.1 HI.out.2 rfl ((HK1.out.then (Keeps.refl Nob _).drew).blk Hb.out id) (Nat.le_of_ble_eq_true rfl) rfl ?_; intro w4 hb2 hk2); have Hb2 := Lib.hid hb2; have HK2 := Lib.hid hk2; clear hb2 hk2; (try simp only [PU]))
   go_ret
   exact ⟨rfl, Hn.out w4 Hb2.out, ((Keeps.refl (· = r) w).then (HK1.out.then (Keeps.refl Nob _).drew)).trans HK2.out (fun _ _ h => h)⟩
 · skip
   go_enter Tryd.func102, Tryd.ntmps102
   go_wp2_with (first
    | (go_at_call 73; go_must (refine (H73.out _ HK1.out).mono ?_; rintro e w2 ⟨rfl, hk1⟩); have HK1 := Lib.hid (HK1.out.trans hk1 (fun _ _ h => h)); clear hk1; (try simp only [PU]))
    | (go_at_call 72; go_must (refine (H72.out _).mono ?_; rintro e w3 ⟨rfl, rfl⟩); (try simp only [PU]))
   )
   have c0 := (blk_cell (HK1.out.blk Hb.out id) 0).trans rfl
   have c1 := (blk_cell (HK1.out.blk Hb.out id) 1).trans rfl
   refine wp_region_perm [(0, true), (1, true), (2, true), (3, true), (4, true), (5, true), (6, true), (7, true), (8, true), (9, true), (10, true), (11, true), (12, true), (13, true)] (fun w' => w'.cell? ⟨r, 0, none⟩ = some (.string T) ∧ w'.cell? ⟨r, 1, none⟩ = some (.int .i64 a)) rfl (by kernel_rfl) (by kernel_rfl) (by decide) (fun c a d v w h => by cases d <;> exact h) ⟨c0, c1⟩ ?_
   refine pq (some 12) ?_; (try simp only [PU])
   refine pq (some 13) ?_; (try simp only [PU])
   refine pq (some 14) ?_; (try simp only [PU])
   refine pq (some 15) ?_; (try simp only [PU])
   refine pq (some 16) ?_; (try simp only [PU])
   refine pq (some 17) ?_; (try simp only [PU])
   refine pq (some 18) ?_; (try simp only [PU])
   refine pq (some 19) ?_; (try simp only [PU])
   refine pq (some 20) ?_; (try simp only [PU])
   refine pq (some 21) ?_; (try simp only [PU])
   refine pq (some 22) ?_; (try simp only [PU])
   refine pq (some 23) ?_; (try simp only [PU])
   refine pq (some 24) ?_; (try simp only [PU])
   refine pq (some 25) ?_; (try simp only [PU])
   refine perm_nil ?_
   go_wp2_with ((with_reducible refine at_store (t := 3) rfl ?_); go_must (refine ev_store (cs' := #[.string T, .int .i64 ((a : Int) + 1)]) rfl rfl rfl rfl rfl rfl HI.out.1 HI.out.2 rfl ((HK1.out.then (Keeps.refl Nob _).drew).blk Hb.out id) (Nat.le_of_ble_eq_true rfl) rfl ?_; intro w4 hb2 hk2); have Hb2 := Lib.hid hb2; have HK2 := Lib.hid hk2; clear hb2 hk2; (try simp only [PU]))
   go_ret
   exact ⟨rfl, Hn.out w4 Hb2.out, ((Keeps.refl (· = r) w).then (HK1.out.then (Keeps.refl Nob _).drew)).trans HK2.out (fun _ _ h => h)⟩
 · skip
   go_enter Tryd.func102, Tryd.ntmps102
   go_wp2_with (first
    | (go_at_call 73; go_must (refine (H73.out _ HK1.out).mono ?_; rintro e w2 ⟨rfl, hk1⟩); have HK1 := Lib.hid (HK1.out.trans hk1 (fun _ _ h => h)); clear hk1; (try simp only [PU]))
    | (go_at_call 72; go_must (refine (H72.out _).mono ?_; rintro e w3 ⟨rfl, rfl⟩); (try simp only [PU]))
   )
   have c0 := (blk_cell (HK1.out.blk Hb.out id) 0).trans rfl
   have c1 := (blk_cell (HK1.out.blk Hb.out id) 1).trans rfl
   refine wp_region_perm [(0, true), (1, true), (2, true), (3, true), (4, true), (5, true), (6, true), (7, true), (8, true), (9, true), (10, true), (11, true), (12, true), (13, true)] (fun w' => w'.cell? ⟨r, 0, none⟩ = some (.string T) ∧ w'.cell? ⟨r, 1, none⟩ = some (.int .i64 a)) rfl (by kernel_rfl) (by kernel_rfl) (by decide) (fun c a d v w h => by cases d <;> exact h) ⟨c0, c1⟩ ?_
   refine pq (some 12) ?_; (try simp only [PU])
   refine pq (some 13) ?_; (try simp only [PU])
   refine pq (some 14) ?_; (try simp only [PU])
   refine pq (some 15) ?_; (try simp only [PU])
   refine pq (some 16) ?_; (try simp only [PU])
   refine pq (some 17) ?_; (try simp only [PU])
   refine pq (some 18) ?_; (try simp only [PU])
   refine pq (some 19) ?_; (try simp only [PU])
   refine pq (some 20) ?_; (try simp only [PU])
   refine pq (some 21) ?_; (try simp only [PU])
   refine pq (some 22) ?_; (try simp only [PU])
   refine pq (some 23) ?_; (try simp only [PU])
   refine pq (some 24) ?_; (try simp only [PU])
   refine pq (some 25) ?_; (try simp only [PU])
   refine perm_nil ?_
   go_wp2_with ((with_reducible refine at_store (t := 3) rfl ?_); go_must (refine ev_store (cs' := #[.string T, .int .i64 ((a : Int) + 1)]) rfl rfl rfl rfl rfl rfl HI.out.1 HI.out.2 rfl ((HK1.out.then (Keeps.refl Nob _).drew).blk Hb.out id) (Nat.le_of_ble_eq_true rfl) rfl ?_; intro w4 hb2 hk2); have Hb2 := Lib.hid hb2; have HK2 := Lib.hid hk2; clear hb2 hk2; (try simp only [PU]))
   go_ret
   exact ⟨rfl, Hn.out w4 Hb2.out, ((Keeps.refl (· = r) w).then (HK1.out.then (Keeps.refl Nob _).drew)).trans HK2.out (fun _ _ h => h)⟩
 · skip
   go_enter Tryd.func102, Tryd.ntmps102
   go_wp2_with (first
    | (go_at_call 73; go_must (refine (H73.out _ HK1.out).mono ?_; rintro e w2 ⟨rfl, hk1⟩); have HK1 := Lib.hid (HK1.out.trans hk1 (fun _ _ h => h)); clear hk1; (try simp only [PU]))
    | (go_at_call 72; go_must (refine (H72.out _).mono ?_; rintro e w3 ⟨rfl, rfl⟩); (try simp only [PU]))
   )
   have c0 := (blk_cell (HK1.out.blk Hb.out id) 0).trans rfl
   have c1 := (blk_cell (HK1.out.blk Hb.out id) 1).trans rfl
   refine wp_region_perm [(0, true), (1, true), (2, true), (3, true), (4, true), (5, true), (6, true), (7, true), (8, true), (9, true), (10, true), (11, true), (12, true), (13, true)] (fun w' => w'.cell? ⟨r, 0, none⟩ = some (.string T) ∧ w'.cell? ⟨r, 1, none⟩ = some (.int .i64 a)) rfl (by kernel_rfl) (by kernel_rfl) (by decide) (fun c a d v w h => by cases d <;> exact h) ⟨c0, c1⟩ ?_
   refine pq (some 12) ?_; (try simp only [PU])
   refine pq (some 13) ?_; (try simp only [PU])
   refine pq (some 14) ?_; (try simp only [PU])
   refine pq (some 15) ?_; (try simp only [PU])
   refine pq (some 16) ?_; (try simp only [PU])
   refine pq (some 17) ?_; (try simp only [PU])
   refine pq (some 18) ?_; (try simp only [PU])
   refine pq (some 19) ?_; (try simp only [PU])
   refine pq (some 20) ?_; (try simp only [PU])
   refine pq (some 21) ?_; (try simp only [PU])
   refine pq (some 22) ?_; (try simp only [PU])
   refine pq (some 23) ?_; (try simp only [PU])
   refine pq (some 24) ?_; (try simp only [PU])
   refine pq (some 25) ?_; (try simp only [PU])
   refine perm_nil ?_
   go_wp2_with ((with_reducible refine at_store (t := 3) rfl ?_); go_must (refine ev_store (cs' := #[.string T, .int .i64 ((a : Int) + 1)]) rfl rfl rfl rfl rfl rfl HI.out.1 HI.out.2 rfl ((HK1.out.then (Keeps.refl Nob _).drew).blk Hb.out id) (Nat.le_of_ble_eq_true rfl) rfl ?_; intro w4 hb2 hk2); have Hb2 := Lib.hid hb2; have HK2 := Lib.hid hk2; clear hb2 hk2; (try simp only [PU]))
   go_ret
   exact ⟨rfl, Hn.out w4 Hb2.out, ((Keeps.refl (· = r) w).then (HK1.out.then (Keeps.refl Nob _).drew)).trans HK2.out (fun _ _ h => h)⟩
 · skip
   go_enter Tryd.func102, Tryd.ntmps102
   go_wp2_with (first
    | (go_at_call 73; go_must (refine (H73.out _ HK1.out).mono ?_; rintro e w2 ⟨rfl, hk1⟩); have HK1 := Lib.hid (HK1.out.trans hk1 (fun _ _ h => h)); clear hk1; (try simp only [PU]))
    | (go_at_call 72; go_must (refine (H72.out _).mono ?_; rintro e w3 ⟨rfl, rfl⟩); (try simp only [PU]))
   )
   have c0 := (blk_cell (HK1.out.blk Hb.out id) 0).trans rfl
   have c1 := (blk_cell (HK1.out.blk Hb.out id) 1).trans rfl
   refine wp_region_perm [(0, true), (1, true), (2, true), (3, true), (4, true), (5, true), (6, true), (7, true), (8, true), (9, true), (10, true), (11, true), (12, true), (13, true)] (fun w' => w'.cell? ⟨r, 0, none⟩ = some (.string T) ∧ w'.cell? ⟨r, 1, none⟩ = some (.int .i64 a)) rfl (by kernel_rfl) (by kernel_rfl) (by decide) (fun c a d v w h => by cases d <;> exact h) ⟨c0, c1⟩ ?_
   refine pq (some 12) ?_; (try simp only [PU])
   refine pq (some 13) ?_; (try simp only [PU])
   refine pq (some 14) ?_; (try simp only [PU])
   refine pq (some 15) ?_; (try simp only [PU])
   refine pq (some 16) ?_; (try simp only [PU])
   refine pq (some 17) ?_; (try simp only [PU])
   refine pq (some 18) ?_; (try simp only [PU])
   refine pq (some 19) ?_; (try simp only [PU])
   refine pq (some 20) ?_; (try simp only [PU])
   refine pq (some 21) ?_; (try simp only [PU])
   refine pq (some 22) ?_; (try simp only [PU])
   refine pq (some 23) ?_; (try simp only [PU])
   refine pq (some 24) ?_; (try simp only [PU])
   refine pq (some 25) ?_; (try simp only [PU])
   refine perm_nil ?_
   go_wp2_with ((with_reducible refine at_store (t := 3) rfl ?_); go_must (refine ev_store (cs' := #[.string T, .int .i64 ((a : Int) + 1)]) rfl rfl rfl rfl rfl rfl HI.out.1 HI.out.2 rfl ((HK1.out.then (Keeps.refl Nob _).drew).blk Hb.out id) (Nat.le_of_ble_eq_true rfl) rfl ?_; intro w4 hb2 hk2); have Hb2 := Lib.hid hb2; have HK2 := Lib.hid hk2; clear hb2 hk2; (try simp only [PU]))
   go_ret
   exact ⟨rfl, Hn.out w4 Hb2.out, ((Keeps.refl (· = r) w).then (HK1.out.then (Keeps.refl Nob _).drew)).trans HK2.out (fun _ _ h => h)⟩
 · skip
   go_enter Tryd.func102, Tryd.ntmps102
   go_wp2_with (first
    | (go_at_call 73; go_must (refine (H73.out _ HK1.out).mono ?_; rintro e w2 ⟨rfl, hk1⟩); have HK1 := Lib.hid (HK1.out.trans hk1 (fun _ _ h => h)); clear hk1; (try simp only [PU]))
    | (go_at_call 72; go_must (refine (H72.out _).mono ?_; rintro e w3 ⟨rfl, rfl⟩); (try simp only [PU]))
   )
   have c0 := (blk_cell (HK1.out.blk Hb.out id) 0).trans rfl
   have c1 := (blk_cell (HK1.out.blk Hb.out id) 1).trans rfl
   refine wp_region_perm [(0, true), (1, true), (2, true), (3, true), (4, true), (5, true), (6, true), (7, true), (8, true), (9, true), (10, true), (11, true), (12, true), (13, true)] (fun w' => w'.cell? ⟨r, 0, none⟩ = some (.string T) ∧ w'.cell? ⟨r, 1, none⟩ = some (.int .i64 a)) rfl (by kernel_rfl) (by kernel_rfl) (by decide) (fun c a d v w h => by cases d <;> exact h) ⟨c0, c1⟩ ?_
   refine pq (some 12) ?_; (try simp only [PU])
   refine pq (some 13) ?_; (try simp only [PU])
   refine pq (some 14) ?_; (try simp only [PU])
   refine pq (some 15) ?_; (try simp only [PU])
   refine pq (some 16) ?_; (try simp only [PU])
   refine pq (some 17) ?_; (try simp only [PU])
   refine pq (some 18) ?_; (try simp only [PU])
   refine pq (some 19) ?_; (try simp only [PU])
   refine pq (some 20) ?_; (try simp only [PU])
   refine pq (some 21) ?_; (try simp only [PU])
   refine pq (some 22) ?_; (try simp only [PU])
   refine pq (some 23) ?_; (try simp only [PU])
   refine pq (some 24) ?_; (try simp only [PU])
   refine pq (some 25) ?_; (try simp only [PU])
   refine perm_nil ?_
   go_wp2_with ((with_reducible refine at_store (t := 3) rfl ?_); go_must (refine ev_store (cs' := #[.string T, .int .i64 ((a : Int) + 1)]) rfl rfl rfl rfl rfl rfl HI.out.1 HI.out.2 rfl ((HK1.out.then (Keeps.refl Nob _).drew).blk Hb.out id) (Nat.le_of_ble_eq_true rfl) rfl ?_; intro w4 hb2 hk2); have Hb2 := Lib.hid hb2; have HK2 := Lib.hid hk2; clear hb2 hk2; (try simp only [PU]))
   go_ret
   exact ⟨rfl, Hn.out w4 Hb2.out, ((Keeps.refl (· = r) w).then (HK1.out.then (Keeps.refl Nob _).drew)).trans HK2.out (fun _ _ h => h)⟩
theorem nz1 (c : UInt8) (h : c ≠ 0) : ∀ i (hi : i < (ByteArray.mk #[c]).size), (ByteArray.mk #[c])[i] ≠ 0 := by
 intro i hi
 have h1 : i < 1 := hi
 match i, h1 with
 | 0, _ => exact h
theorem hexB4_none (k n : Nat) (s : Bs) (h : hexD (headB s) = none) : hexB4 (k + 1) n s = .error s.length := by
 cases s with
 | nil => rfl
 | cons c q => have h' : hexD c = none := h; simp [hexB4, h']
theorem hexB4_some (k n d : Nat) (c : UInt8) (q : Bs) (h : hexD c = some d) : hexB4 (k + 1) n (c :: q) = if k = 0 ∧ 255 < n * 16 + d then .error (q.length + 1) else hexB4 k (n * 16 + d) q := by
 simp only [hexB4, h]
def byteR : R Nat → R UInt8
 | .ok x => .ok (UInt8.ofNat x.1, x.2)
 | .error e => .error e
theorem u8_wrap (n : Nat) (h : n ≤ 255) : ((UInt8.ofNat n).toNat : Int) = (n : Int) := by
 rw [UInt8.toNat_ofNat']
 omega
set_option maxHeartbeats 4000000 in
theorem escLong {w : World} {r : Nat} {T : ByteArray} {s : Bs} (h : Rd w r T s) (hsn : shortB (headB s) = none) : Calls Tryd.prog 102 #[.pointer (some ⟨r, 0, none⟩)] w (EndR w r T (fun b => .int .u8 b.toNat) (escB s)) := by
 obtain ⟨i3, hi3, hs3⟩ := infoS3
 have HI := Lib.hid (And.intro hi3 hs3)
 have H73 := Lib.hid (fun W (hk : Keeps Nob w W) => next73 (h.keep hk id))
 have H72 := Lib.hid (fun W => short72 s W)
 have hx : Lib.indexByte shortT (headB s) = -1 := by
  rcases shortS (headB s) with h1 | ⟨b, i, h1, -⟩
  · exact h1.2
  · rw [hsn] at h1; cases h1
 rw [hx] at H72
 have H74 := Lib.hid (fun W (hk : Keeps Nob w W) => word74 (h.keep hk id) ⟨#[117]⟩ (by decide) (nz1 117 (by decide)))
 rw [escB_word s hsn]
 have hbl : bl ⟨#[117]⟩ = [117] := rfl
 rw [hbl] at H74
 have Hblk := Lib.hid h.blk
 obtain ⟨hv, hhv⟩ : ∃ x, headN s = x := ⟨_, rfl⟩
 rw [hhv] at H73 H72
 have HK1 := Lib.hid (Keeps.refl Nob w)
 clear hx hbl hsn hhv hi3 hs3 h
 rcases hw : wordB [117] s with n | s1
 · rw [hw] at H74
   clear hw
   show Calls _ _ _ _ (EndR w r T (fun b : UInt8 => Value.int .u8 b.toNat) (.error n))
   go_enter Tryd.func102, Tryd.ntmps102
   go_wp2_with (first
    | (go_at_call 73; go_must (refine (H73.out _ HK1.out).mono ?_; rintro e w2 ⟨rfl, hk1⟩); have HK1 := Lib.hid (HK1.out.trans hk1 (fun _ _ h => h)); clear hk1; (try simp only [PU]))
    | (go_at_call 72; go_must (refine (H72.out _).mono ?_; rintro e w3 ⟨rfl, rfl⟩); (try simp only [PU]))
   )
   have c0 := (blk_cell (HK1.out.blk Hblk.out id) 0).trans rfl
   have c1 := (blk_cell (HK1.out.blk Hblk.out id) 1).trans rfl
   refine wp_region_perm [(0, true), (1, true), (2, true), (3, true), (4, true), (5, true), (6, true), (7, true), (8, true), (9, true), (10, true), (11, true), (12, true), (13, true)] (fun w' => True) rfl (by kernel_rfl) (by kernel_rfl) (by decide) (fun c a d v w h => by cases d <;> exact h) trivial ?_
   refine pq (some 12) ?_; (try simp only [PU])
   refine pq (some 13) ?_; (try simp only [PU])
   refine pq (some 14) ?_; (try simp only [PU])
   refine perm_skip (some 15) rfl rfl rfl ?_; (try simp only [PU])
   refine perm_skip (some 16) rfl rfl rfl ?_; (try simp only [PU])
   refine perm_skip (some 17) rfl rfl rfl ?_; (try simp only [PU])
   refine perm_skip (some 18) rfl rfl rfl ?_; (try simp only [PU])
   refine perm_skip (some 19) rfl rfl rfl ?_; (try simp only [PU])
   refine perm_skip (some 20) rfl rfl rfl ?_; (try simp only [PU])
   refine perm_skip (some 21) rfl rfl rfl ?_; (try simp only [PU])
   refine perm_skip (some 22) rfl rfl rfl ?_; (try simp only [PU])
   refine perm_skip (some 23) rfl rfl rfl ?_; (try simp only [PU])
   refine perm_skip (some 24) rfl rfl rfl ?_; (try simp only [PU])
   refine pq (some 25) ?_; (try simp only [PU])
   refine perm_nil ?_
   have HK2 := Lib.hid (HK1.out.then (Keeps.refl Nob _).drew)
   go_wp2_with (first
    | (go_at_call 74; go_must (refine (H74.out _ HK2.out).mono ?_; rintro e w4 ⟨rfl, hk4⟩); have HK4 := Lib.hid hk4; clear hk4; unfold stopAt; (try simp only [PU]))
   )
   exact ⟨rfl, rfl, ((Keeps.refl (· = r) w).then HK2.out).trans HK4.out (fun _ _ h => h)⟩
 · rw [hw] at H74
   clear hw
   obtain ⟨R0, hR0⟩ : ∃ x, hexB4 4 0 s1 = x := ⟨_, rfl⟩
   have hres : (match (Except.ok s1 : Except Nat Bs) with | .error n => (Except.error n : R UInt8) | .ok r => (match hexB4 4 0 r with | .ok x => .ok (UInt8.ofNat x.1, x.2) | .error e => .error e)) = byteR R0 := by
    rw [← hR0]
    show (match hexB4 4 0 s1 with | .ok x => (Except.ok (UInt8.ofNat x.1, x.2) : R UInt8) | .error e => .error e) = _
    cases hexB4 4 0 s1 <;> rfl
   rw [hres]
   obtain ⟨RR, hRR⟩ : ∃ x, byteR R0 = x := ⟨_, rfl⟩
   rw [hRR]
   have HRR := Lib.hid hRR
   have HR0 := Lib.hid hR0
   clear hres hRR hR0
   go_enter Tryd.func102, Tryd.ntmps102
   go_wp2_with (first
    | (go_at_call 73; go_must (refine (H73.out _ HK1.out).mono ?_; rintro e w2 ⟨rfl, hk1⟩); have HK1 := Lib.hid (HK1.out.trans hk1 (fun _ _ h => h)); clear hk1; (try simp only [PU]))
    | (go_at_call 72; go_must (refine (H72.out _).mono ?_; rintro e w3 ⟨rfl, rfl⟩); (try simp only [PU]))
   )
   have c0 := (blk_cell (HK1.out.blk Hblk.out id) 0).trans rfl
   have c1 := (blk_cell (HK1.out.blk Hblk.out id) 1).trans rfl
   refine wp_region_perm [(0, true), (1, true), (2, true), (3, true), (4, true), (5, true), (6, true), (7, true), (8, true), (9, true), (10, true), (11, true), (12, true), (13, true)] (fun w' => True) rfl (by kernel_rfl) (by kernel_rfl) (by decide) (fun c a d v w h => by cases d <;> exact h) trivial ?_
   refine pq (some 12) ?_; (try simp only [PU])
   refine pq (some 13) ?_; (try simp only [PU])
   refine pq (some 14) ?_; (try simp only [PU])
   refine perm_skip (some 15) rfl rfl rfl ?_; (try simp only [PU])
   refine perm_skip (some 16) rfl rfl rfl ?_; (try simp only [PU])
   refine perm_skip (some 17) rfl rfl rfl ?_; (try simp only [PU])
   refine perm_skip (some 18) rfl rfl rfl ?_; (try simp only [PU])
   refine perm_skip (some 19) rfl rfl rfl ?_; (try simp only [PU])
   refine perm_skip (some 20) rfl rfl rfl ?_; (try simp only [PU])
   refine perm_skip (some 21) rfl rfl rfl ?_; (try simp only [PU])
   refine perm_skip (some 22) rfl rfl rfl ?_; (try simp only [PU])
   refine perm_skip (some 23) rfl rfl rfl ?_; (try simp only [PU])
   refine perm_skip (some 24) rfl rfl rfl ?_; (try simp only [PU])
   refine pq (some 25) ?_; (try simp only [PU])
   refine perm_nil ?_
   have HK2 := Lib.hid (HK1.out.then (Keeps.refl Nob _).drew)
   go_wp2_with (first
    | (go_at_call 74; go_must (refine (H74.out _ HK2.out).mono ?_; rintro e w4 ⟨⟨x4, rfl⟩, hr4, hk4⟩); have HR4 := Lib.hid hr4; have HK4 := Lib.hid (((Keeps.refl (· = r) w).then HK2.out).trans hk4 (fun _ _ h => h)); clear hk4 hr4; (try simp only [PU]))
   )
   clear c0 c1
   go_loopw [5, 6, 7, 37] (fun nv iv dv kv wr => ∃ (i n : Nat) (s' : Bs), kv = .int .i64 i ∧ i ≤ 4 ∧ nv = .int .i64 n ∧ n ≤ 65535 ∧ Hid (n < 16 ^ i) ∧ Hid (Rd wr r T s') ∧ Hid (Keeps (· = r) w wr) ∧ Hid (hexB4 (4 - i) n s' = R0) ∧ Hid (i = 4 → n ≤ 255)) (fun _ _ _ kv _ => 4 - (intOf kv).toNat)
   case atStart => exact ⟨0, 0, s1, rfl, by omega, rfl, by omega, Lib.hid (by decide), HR4, HK4, HR0, Lib.hid (fun h => by omega)⟩
   case round =>
    obtain ⟨i, n, s', rfl, hi, rfl, hn, Hp, Hr, HK, HE, H255⟩ := hrel
    by_cases hlt : i < 4
    · have H73 := Lib.hid (fun W (hk : Keeps Nob wr W) => next73 (Hr.out.keep hk id))
      have H72 := Lib.hid (fun W => hex72 s' W)
      have Hfail := Lib.hid (fun W (hk : Keeps Nob wr W) => fail47 (Hr.out.keep hk id) s'.length Hr.out.le)
      have Hb := Lib.hid Hr.out.blk
      have HK1 := Lib.hid (Keeps.refl Nob wr)
      have h4 : 4 - i = (3 - i) + 1 := by omega
      have HE2 := Lib.hid (show hexB4 ((3 - i) + 1) n s' = R0 by rw [← h4]; exact HE.out)
      obtain ⟨hv', hhv⟩ : ∃ x, headN s' = x := ⟨_, rfl⟩
      rw [hhv] at H73 H72
      clear h4 hhv
      rcases hexS (headB s') with ⟨hnone, hidx⟩ | ⟨d, hsome, hd, hidx⟩
      · rw [hidx] at H72
        have HR2 := Lib.hid (show RR = .error s'.length by rw [← HRR.out, ← HE2.out, hexB4_none _ _ _ hnone]; rfl)
        obtain ⟨m, hm⟩ : ∃ x, s'.length = x := ⟨_, rfl⟩
        rw [hm] at HR2 Hfail Hb
        clear hnone hidx hm
        go_wp2_with (first
         | (go_at_call 73; go_must (refine (H73.out _ HK1.out).mono ?_; rintro e w2 ⟨rfl, hk1⟩); have HK1 := Lib.hid (HK1.out.trans hk1 (fun _ _ h => h)); clear hk1; (try simp only [PU]))
         | (go_at_call 72; go_must (refine (H72.out _).mono ?_; rintro e w3 ⟨rfl, rfl⟩); (try simp only [PU]))
         | (go_at_call 47; go_must (refine (Hfail.out _ HK1.out).mono ?_; rintro e w5 ⟨rfl, rfl⟩); unfold stopAt; (try simp only [PU]))
         | ((with_reducible refine at_store (t := 3) rfl ?_); go_must (refine ev_store (cs' := #[.string T, .int .i64 ((a : Int) + 1)]) rfl rfl rfl rfl rfl rfl HI.out.1 HI.out.2 rfl (HK1.out.blk Hb.out id) (Nat.le_of_ble_eq_true rfl) rfl ?_; intro w4 hb2 hk2); have Hb2 := Lib.hid hb2; have HK2 := Lib.hid hk2; clear hb2 hk2; (try simp only [PU]))
        )
        refine wp_region_perm [(0, true), (1, true), (2, true), (3, true), (4, true), (5, true), (6, true), (7, true), (8, true), (9, true), (10, true), (11, true), (12, true), (13, true)] (fun w' => True) rfl (by kernel_rfl) (by kernel_rfl) (by decide) (fun c a d v w h => by cases d <;> exact h) trivial ?_
        refine pq (some 43) ?_; (try simp only [PU])
        refine pq (some 44) ?_; (try simp only [PU])
        refine pq (some 45) ?_; (try simp only [PU])
        refine perm_skip (some 46) rfl rfl rfl ?_; (try simp only [PU])
        refine perm_skip (some 47) rfl rfl rfl ?_; (try simp only [PU])
        refine perm_skip (some 48) rfl rfl rfl ?_; (try simp only [PU])
        refine perm_skip (some 49) rfl rfl rfl ?_; (try simp only [PU])
        refine perm_skip (some 50) rfl rfl rfl ?_; (try simp only [PU])
        refine perm_skip (some 51) rfl rfl rfl ?_; (try simp only [PU])
        refine perm_skip (some 52) rfl rfl rfl ?_; (try simp only [PU])
        refine perm_skip (some 53) rfl rfl rfl ?_; (try simp only [PU])
        refine perm_skip (some 54) rfl rfl rfl ?_; (try simp only [PU])
        refine perm_skip (some 55) rfl rfl rfl ?_; (try simp only [PU])
        refine pq (some 56) ?_; (try simp only [PU])
        refine perm_nil ?_
        have HK1 := Lib.hid (HK1.out.then (Keeps.refl Nob _).drew)
        have q1 := (blk_cell (HK1.out.blk Hb.out id) 1).trans rfl
        go_wp2_with (first
         | (go_at_call 73; go_must (refine (H73.out _ HK1.out).mono ?_; rintro e w2 ⟨rfl, hk1⟩); have HK1 := Lib.hid (HK1.out.trans hk1 (fun _ _ h => h)); clear hk1; (try simp only [PU]))
         | (go_at_call 72; go_must (refine (H72.out _).mono ?_; rintro e w3 ⟨rfl, rfl⟩); (try simp only [PU]))
         | (go_at_call 47; go_must (refine (Hfail.out _ HK1.out).mono ?_; rintro e w5 ⟨rfl, rfl⟩); unfold stopAt; (try simp only [PU]))
         | ((with_reducible refine at_store (t := 3) rfl ?_); go_must (refine ev_store (cs' := #[.string T, .int .i64 ((a : Int) + 1)]) rfl rfl rfl rfl rfl rfl HI.out.1 HI.out.2 rfl (HK1.out.blk Hb.out id) (Nat.le_of_ble_eq_true rfl) rfl ?_; intro w4 hb2 hk2); have Hb2 := Lib.hid hb2; have HK2 := Lib.hid hk2; clear hb2 hk2; (try simp only [PU]))
        )
        exact ⟨rfl, by rw [HR2.out]; exact ⟨rfl, HK.out.then HK1.out⟩⟩
      · cases s' with
        | nil =>
          have hz : hexD (headB []) = none := by decide
          rw [hz] at hsome
          cases hsome
        | cons c q =>
          obtain ⟨a, ha, ⟨hb, -⟩, hT, hal, hnx⟩ := Hr.out.cons
          have Hb := Lib.hid hb
          have Hn := Lib.hid hnx
          have hai : (a : Int) < (T.size : Int) := by omega
          have hat : T.size - (c :: q).length = a := by simp only [List.length_cons]; omega
          rw [hat] at Hfail
          have hs3 := hexB4_some (3 - i) n d c q hsome
          have HS := Lib.hid (show (if 3 - i = 0 ∧ 255 < n * 16 + d then .error (q.length + 1) else hexB4 (3 - i) (n * 16 + d) q) = R0 by rw [← hs3]; exact HE2.out)
          have hpw : n * 16 + d < 16 ^ (i + 1) := by have := Hp.out; rw [Nat.pow_succ]; omega
          have hp4 : n < 4096 := by
           have h1 := Hp.out
           have h2 : 16 ^ i ≤ 16 ^ 3 := Nat.pow_le_pow_right (by decide) (by omega)
           exact Nat.lt_of_lt_of_le h1 h2
          have Hpw := Lib.hid hpw
          have Hat := Lib.hid (show T.size - (q.length + 1) = a by omega)
          clear hb hnx hat hs3 hpw hsome hal
          by_cases h3 : i = 3
          · subst h3
            by_cases hbig : 255 < n * 16 + d
            · have HR2 := Lib.hid (show RR = .error (q.length + 1) by rw [← HRR.out, ← HS.out, if_pos ⟨rfl, hbig⟩]; rfl)
              rcases hidx with hidx | ⟨hidx, hd10⟩
              · rw [hidx] at H72
                clear hidx
                go_wp2_with (first
                 | (go_at_call 73; go_must (refine (H73.out _ HK1.out).mono ?_; rintro e w2 ⟨rfl, hk1⟩); have HK1 := Lib.hid (HK1.out.trans hk1 (fun _ _ h => h)); clear hk1; (try simp only [PU]))
                 | (go_at_call 72; go_must (refine (H72.out _).mono ?_; rintro e w3 ⟨rfl, rfl⟩); (try simp only [PU]))
                 | (go_at_call 47; go_must (refine (Hfail.out _ HK1.out).mono ?_; rintro e w5 ⟨rfl, rfl⟩); unfold stopAt; (try simp only [PU]))
                 | ((with_reducible refine at_store (t := 3) rfl ?_); go_must (refine ev_store (cs' := #[.string T, .int .i64 ((a : Int) + 1)]) rfl rfl rfl rfl rfl rfl HI.out.1 HI.out.2 rfl (HK1.out.blk Hb.out id) (Nat.le_of_ble_eq_true rfl) rfl ?_; intro w4 hb2 hk2); have Hb2 := Lib.hid hb2; have HK2 := Lib.hid hk2; clear hb2 hk2; (try simp only [PU]))
                )
                have c0 := (blk_cell (HK1.out.blk Hb.out id) 0).trans rfl
                have c1 := (blk_cell (HK1.out.blk Hb.out id) 1).trans rfl
                refine wp_region_perm [(0, true), (1, true), (2, true), (3, true), (4, true), (5, true), (6, true), (7, true), (8, true), (9, true), (10, true), (11, true), (12, true), (13, true)] (fun w' => w'.cell? ⟨r, 0, none⟩ = some (.string T) ∧ w'.cell? ⟨r, 1, none⟩ = some (.int .i64 a)) rfl (by kernel_rfl) (by kernel_rfl) (by decide) (fun c a d v w h => by cases d <;> exact h) ⟨c0, c1⟩ ?_
                refine pq (some 43) ?_; (try simp only [PU])
                refine pq (some 44) ?_; (try simp only [PU])
                refine pq (some 45) ?_; (try simp only [PU])
                refine pq (some 46) ?_; (try simp only [PU])
                refine pq (some 47) ?_; (try simp only [PU])
                refine pq (some 48) ?_; (try simp only [PU])
                refine pq (some 49) ?_; (try simp only [PU])
                refine pq (some 50) ?_; (try simp only [PU])
                refine pq (some 51) ?_; (try simp only [PU])
                refine pq (some 52) ?_; (try simp only [PU])
                refine pq (some 53) ?_; (try simp only [PU])
                refine pq (some 54) ?_; (try simp only [PU])
                refine pq (some 55) ?_; (try simp only [PU])
                refine pq (some 56) ?_; (try simp only [PU])
                refine perm_nil ?_
                have HK1 := Lib.hid (HK1.out.then (Keeps.refl Nob _).drew)
                go_wp2_with (first
                 | (go_at_call 73; go_must (refine (H73.out _ HK1.out).mono ?_; rintro e w2 ⟨rfl, hk1⟩); have HK1 := Lib.hid (HK1.out.trans hk1 (fun _ _ h => h)); clear hk1; (try simp only [PU]))
                 | (go_at_call 72; go_must (refine (H72.out _).mono ?_; rintro e w3 ⟨rfl, rfl⟩); (try simp only [PU]))
                 | (go_at_call 47; go_must (refine (Hfail.out _ HK1.out).mono ?_; rintro e w5 ⟨rfl, rfl⟩); unfold stopAt; (try simp only [PU]))
                 | ((with_reducible refine at_store (t := 3) rfl ?_); go_must (refine ev_store (cs' := #[.string T, .int .i64 ((a : Int) + 1)]) rfl rfl rfl rfl rfl rfl HI.out.1 HI.out.2 rfl (HK1.out.blk Hb.out id) (Nat.le_of_ble_eq_true rfl) rfl ?_; intro w4 hb2 hk2); have Hb2 := Lib.hid hb2; have HK2 := Lib.hid hk2; clear hb2 hk2; (try simp only [PU]))
                )
                exact ⟨rfl, by rw [HR2.out]; exact ⟨rfl, HK.out.then HK1.out⟩⟩
              · rw [hidx] at H72
                clear hidx
                go_wp2_with (first
                 | (go_at_call 73; go_must (refine (H73.out _ HK1.out).mono ?_; rintro e w2 ⟨rfl, hk1⟩); have HK1 := Lib.hid (HK1.out.trans hk1 (fun _ _ h => h)); clear hk1; (try simp only [PU]))
                 | (go_at_call 72; go_must (refine (H72.out _).mono ?_; rintro e w3 ⟨rfl, rfl⟩); (try simp only [PU]))
                 | (go_at_call 47; go_must (refine (Hfail.out _ HK1.out).mono ?_; rintro e w5 ⟨rfl, rfl⟩); unfold stopAt; (try simp only [PU]))
                 | ((with_reducible refine at_store (t := 3) rfl ?_); go_must (refine ev_store (cs' := #[.string T, .int .i64 ((a : Int) + 1)]) rfl rfl rfl rfl rfl rfl HI.out.1 HI.out.2 rfl (HK1.out.blk Hb.out id) (Nat.le_of_ble_eq_true rfl) rfl ?_; intro w4 hb2 hk2); have Hb2 := Lib.hid hb2; have HK2 := Lib.hid hk2; clear hb2 hk2; (try simp only [PU]))
                )
                have c0 := (blk_cell (HK1.out.blk Hb.out id) 0).trans rfl
                have c1 := (blk_cell (HK1.out.blk Hb.out id) 1).trans rfl
                refine wp_region_perm [(0, true), (1, true), (2, true), (3, true), (4, true), (5, true), (6, true), (7, true), (8, true), (9, true), (10, true), (11, true), (12, true), (13, true)] (fun w' => w'.cell? ⟨r, 0, none⟩ = some (.string T) ∧ w'.cell? ⟨r, 1, none⟩ = some (.int .i64 a)) rfl (by kernel_rfl) (by kernel_rfl) (by decide) (fun c a d v w h => by cases d <;> exact h) ⟨c0, c1⟩ ?_
                refine pq (some 43) ?_; (try simp only [PU])
                refine pq (some 44) ?_; (try simp only [PU])
                refine pq (some 45) ?_; (try simp only [PU])
                refine pq (some 46) ?_; (try simp only [PU])
                refine pq (some 47) ?_; (try simp only [PU])
                refine pq (some 48) ?_; (try simp only [PU])
                refine pq (some 49) ?_; (try simp only [PU])
                refine pq (some 50) ?_; (try simp only [PU])
                refine pq (some 51) ?_; (try simp only [PU])
                refine pq (some 52) ?_; (try simp only [PU])
                refine pq (some 53) ?_; (try simp only [PU])
                refine pq (some 54) ?_; (try simp only [PU])
                refine pq (some 55) ?_; (try simp only [PU])
                refine pq (some 56) ?_; (try simp only [PU])
                refine perm_nil ?_
                have HK1 := Lib.hid (HK1.out.then (Keeps.refl Nob _).drew)
                go_wp2_with (first
                 | (go_at_call 73; go_must (refine (H73.out _ HK1.out).mono ?_; rintro e w2 ⟨rfl, hk1⟩); have HK1 := Lib.hid (HK1.out.trans hk1 (fun _ _ h => h)); clear hk1; (try simp only [PU]))
                 | (go_at_call 72; go_must (refine (H72.out _).mono ?_; rintro e w3 ⟨rfl, rfl⟩); (try simp only [PU]))
                 | (go_at_call 47; go_must (refine (Hfail.out _ HK1.out).mono ?_; rintro e w5 ⟨rfl, rfl⟩); unfold stopAt; (try simp only [PU]))
                 | ((with_reducible refine at_store (t := 3) rfl ?_); go_must (refine ev_store (cs' := #[.string T, .int .i64 ((a : Int) + 1)]) rfl rfl rfl rfl rfl rfl HI.out.1 HI.out.2 rfl (HK1.out.blk Hb.out id) (Nat.le_of_ble_eq_true rfl) rfl ?_; intro w4 hb2 hk2); have Hb2 := Lib.hid hb2; have HK2 := Lib.hid hk2; clear hb2 hk2; (try simp only [PU]))
                )
                exact ⟨rfl, by rw [HR2.out]; exact ⟨rfl, HK.out.then HK1.out⟩⟩
            · have HR2 := Lib.hid (show hexB4 (4 - (3 + 1)) (n * 16 + d) q = R0 by rw [← HS.out, if_neg (fun h => hbig h.2)])
              rcases hidx with hidx | ⟨hidx, hd10⟩
              · rw [hidx] at H72
                clear hidx
                go_wp2_with (first
                 | (go_at_call 73; go_must (refine (H73.out _ HK1.out).mono ?_; rintro e w2 ⟨rfl, hk1⟩); have HK1 := Lib.hid (HK1.out.trans hk1 (fun _ _ h => h)); clear hk1; (try simp only [PU]))
                 | (go_at_call 72; go_must (refine (H72.out _).mono ?_; rintro e w3 ⟨rfl, rfl⟩); (try simp only [PU]))
                 | (go_at_call 47; go_must (refine (Hfail.out _ HK1.out).mono ?_; rintro e w5 ⟨rfl, rfl⟩); unfold stopAt; (try simp only [PU]))
                 | ((with_reducible refine at_store (t := 3) rfl ?_); go_must (refine ev_store (cs' := #[.string T, .int .i64 ((a : Int) + 1)]) rfl rfl rfl rfl rfl rfl HI.out.1 HI.out.2 rfl (HK1.out.blk Hb.out id) (Nat.le_of_ble_eq_true rfl) rfl ?_; intro w4 hb2 hk2); have Hb2 := Lib.hid hb2; have HK2 := Lib.hid hk2; clear hb2 hk2; (try simp only [PU]))
                )
                have c0 := (blk_cell (HK1.out.blk Hb.out id) 0).trans rfl
                have c1 := (blk_cell (HK1.out.blk Hb.out id) 1).trans rfl
                refine wp_region_perm [(0, true), (1, true), (2, true), (3, true), (4, true), (5, true), (6, true), (7, true), (8, true), (9, true), (10, true), (11, true), (12, true), (13, true)] (fun w' => w'.cell? ⟨r, 0, none⟩ = some (.string T) ∧ w'.cell? ⟨r, 1, none⟩ = some (.int .i64 a)) rfl (by kernel_rfl) (by kernel_rfl) (by decide) (fun c a d v w h => by cases d <;> exact h) ⟨c0, c1⟩ ?_
                refine pq (some 43) ?_; (try simp only [PU])
                refine pq (some 44) ?_; (try simp only [PU])
                refine pq (some 45) ?_; (try simp only [PU])
                refine pq (some 46) ?_; (try simp only [PU])
                refine pq (some 47) ?_; (try simp only [PU])
                refine pq (some 48) ?_; (try simp only [PU])
                refine pq (some 49) ?_; (try simp only [PU])
                refine pq (some 50) ?_; (try simp only [PU])
                refine pq (some 51) ?_; (try simp only [PU])
                refine pq (some 52) ?_; (try simp only [PU])
                refine pq (some 53) ?_; (try simp only [PU])
                refine pq (some 54) ?_; (try simp only [PU])
                refine pq (some 55) ?_; (try simp only [PU])
                refine pq (some 56) ?_; (try simp only [PU])
                refine perm_nil ?_
                have HK1 := Lib.hid (HK1.out.then (Keeps.refl Nob _).drew)
                go_wp2_with (first
                 | (go_at_call 73; go_must (refine (H73.out _ HK1.out).mono ?_; rintro e w2 ⟨rfl, hk1⟩); have HK1 := Lib.hid (HK1.out.trans hk1 (fun _ _ h => h)); clear hk1; (try simp only [PU]))
                 | (go_at_call 72; go_must (refine (H72.out _).mono ?_; rintro e w3 ⟨rfl, rfl⟩); (try simp only [PU]))
                 | (go_at_call 47; go_must (refine (Hfail.out _ HK1.out).mono ?_; rintro e w5 ⟨rfl, rfl⟩); unfold stopAt; (try simp only [PU]))
                 | ((with_reducible refine at_store (t := 3) rfl ?_); go_must (refine ev_store (cs' := #[.string T, .int .i64 ((a : Int) + 1)]) rfl rfl rfl rfl rfl rfl HI.out.1 HI.out.2 rfl (HK1.out.blk Hb.out id) (Nat.le_of_ble_eq_true rfl) rfl ?_; intro w4 hb2 hk2); have Hb2 := Lib.hid hb2; have HK2 := Lib.hid hk2; clear hb2 hk2; (try simp only [PU]))
                )
                go_roundw
                case rel => exact ⟨3 + 1, n * 16 + d, q, by first | rfl | go_num, by omega, by first | rfl | go_num | (push_cast; simp), by omega, Hpw, Lib.hid (Hn.out w4 Hb2.out), Lib.hid ((HK.out.then HK1.out).trans HK2.out (fun _ _ h => h)), HR2, Lib.hid (fun h => by omega)⟩
                case measure => (simp [intOf] <;> omega)
              · rw [hidx] at H72
                clear hidx
                go_wp2_with (first
                 | (go_at_call 73; go_must (refine (H73.out _ HK1.out).mono ?_; rintro e w2 ⟨rfl, hk1⟩); have HK1 := Lib.hid (HK1.out.trans hk1 (fun _ _ h => h)); clear hk1; (try simp only [PU]))
                 | (go_at_call 72; go_must (refine (H72.out _).mono ?_; rintro e w3 ⟨rfl, rfl⟩); (try simp only [PU]))
                 | (go_at_call 47; go_must (refine (Hfail.out _ HK1.out).mono ?_; rintro e w5 ⟨rfl, rfl⟩); unfold stopAt; (try simp only [PU]))
                 | ((with_reducible refine at_store (t := 3) rfl ?_); go_must (refine ev_store (cs' := #[.string T, .int .i64 ((a : Int) + 1)]) rfl rfl rfl rfl rfl rfl HI.out.1 HI.out.2 rfl (HK1.out.blk Hb.out id) (Nat.le_of_ble_eq_true rfl) rfl ?_; intro w4 hb2 hk2); have Hb2 := Lib.hid hb2; have HK2 := Lib.hid hk2; clear hb2 hk2; (try simp only [PU]))
                )
                have c0 := (blk_cell (HK1.out.blk Hb.out id) 0).trans rfl
                have c1 := (blk_cell (HK1.out.blk Hb.out id) 1).trans rfl
                refine wp_region_perm [(0, true), (1, true), (2, true), (3, true), (4, true), (5, true), (6, true), (7, true), (8, true), (9, true), (10, true), (11, true), (12, true), (13, true)] (fun w' => w'.cell? ⟨r, 0, none⟩ = some (.string T) ∧ w'.cell? ⟨r, 1, none⟩ = some (.int .i64 a)) rfl (by kernel_rfl) (by kernel_rfl) (by decide) (fun c a d v w h => by cases d <;> exact h) ⟨c0, c1⟩ ?_
                refine pq (some 43) ?_; (try simp only [PU])
                refine pq (some 44) ?_; (try simp only [PU])
                refine pq (some 45) ?_; (try simp only [PU])
                refine pq (some 46) ?_; (try simp only [PU])
                refine pq (some 47) ?_; (try simp only [PU])
                refine pq (some 48) ?_; (try simp only [PU])
                refine pq (some 49) ?_; (try simp only [PU])
                refine pq (some 50) ?_; (try simp only [PU])
                refine pq (some 51) ?_; (try simp only [PU])
                refine pq (some 52) ?_; (try simp only [PU])
                refine pq (some 53) ?_; (try simp only [PU])
                refine pq (some 54) ?_; (try simp only [PU])
                refine pq (some 55) ?_; (try simp only [PU])
                refine pq (some 56) ?_; (try simp only [PU])
                refine perm_nil ?_
                have HK1 := Lib.hid (HK1.out.then (Keeps.refl Nob _).drew)
                go_wp2_with (first
                 | (go_at_call 73; go_must (refine (H73.out _ HK1.out).mono ?_; rintro e w2 ⟨rfl, hk1⟩); have HK1 := Lib.hid (HK1.out.trans hk1 (fun _ _ h => h)); clear hk1; (try simp only [PU]))
                 | (go_at_call 72; go_must (refine (H72.out _).mono ?_; rintro e w3 ⟨rfl, rfl⟩); (try simp only [PU]))
                 | (go_at_call 47; go_must (refine (Hfail.out _ HK1.out).mono ?_; rintro e w5 ⟨rfl, rfl⟩); unfold stopAt; (try simp only [PU]))
                 | ((with_reducible refine at_store (t := 3) rfl ?_); go_must (refine ev_store (cs' := #[.string T, .int .i64 ((a : Int) + 1)]) rfl rfl rfl rfl rfl rfl HI.out.1 HI.out.2 rfl (HK1.out.blk Hb.out id) (Nat.le_of_ble_eq_true rfl) rfl ?_; intro w4 hb2 hk2); have Hb2 := Lib.hid hb2; have HK2 := Lib.hid hk2; clear hb2 hk2; (try simp only [PU]))
                )
                go_roundw
                case rel => exact ⟨3 + 1, n * 16 + d, q, by first | rfl | go_num, by omega, by first | rfl | go_num | (push_cast; simp), by omega, Hpw, Lib.hid (Hn.out w4 Hb2.out), Lib.hid ((HK.out.then HK1.out).trans HK2.out (fun _ _ h => h)), HR2, Lib.hid (fun h => by omega)⟩
                case measure => (simp [intOf] <;> omega)
          · have i3' : ((i : Int) == 3) = false := by simp; omega
            have HR2 := Lib.hid (show hexB4 (4 - (i + 1)) (n * 16 + d) q = R0 by rw [← HS.out, if_neg (fun h => h3 (by omega)), show 4 - (i + 1) = 3 - i by omega])
            rcases hidx with hidx | ⟨hidx, hd10⟩
            · rw [hidx] at H72
              clear hidx
              go_wp2_with (first
               | (go_at_call 73; go_must (refine (H73.out _ HK1.out).mono ?_; rintro e w2 ⟨rfl, hk1⟩); have HK1 := Lib.hid (HK1.out.trans hk1 (fun _ _ h => h)); clear hk1; (try simp only [PU]))
               | (go_at_call 72; go_must (refine (H72.out _).mono ?_; rintro e w3 ⟨rfl, rfl⟩); (try simp only [PU]))
               | (go_at_call 47; go_must (refine (Hfail.out _ HK1.out).mono ?_; rintro e w5 ⟨rfl, rfl⟩); unfold stopAt; (try simp only [PU]))
               | ((with_reducible refine at_store (t := 3) rfl ?_); go_must (refine ev_store (cs' := #[.string T, .int .i64 ((a : Int) + 1)]) rfl rfl rfl rfl rfl rfl HI.out.1 HI.out.2 rfl (HK1.out.blk Hb.out id) (Nat.le_of_ble_eq_true rfl) rfl ?_; intro w4 hb2 hk2); have Hb2 := Lib.hid hb2; have HK2 := Lib.hid hk2; clear hb2 hk2; (try simp only [PU]))
              )
              have c0 := (blk_cell (HK1.out.blk Hb.out id) 0).trans rfl
              have c1 := (blk_cell (HK1.out.blk Hb.out id) 1).trans rfl
              refine wp_region_perm [(0, true), (1, true), (2, true), (3, true), (4, true), (5, true), (6, true), (7, true), (8, true), (9, true), (10, true), (11, true), (12, true), (13, true)] (fun w' => w'.cell? ⟨r, 0, none⟩ = some (.string T) ∧ w'.cell? ⟨r, 1, none⟩ = some (.int .i64 a)) rfl (by kernel_rfl) (by kernel_rfl) (by decide) (fun c a d v w h => by cases d <;> exact h) ⟨c0, c1⟩ ?_
              refine pq (some 43) ?_; (try simp only [PU])
              refine pq (some 44) ?_; (try simp only [PU])
              refine pq (some 45) ?_; (try simp only [PU])
              refine pq (some 46) ?_; (try simp only [PU])
              refine pq (some 47) ?_; (try simp only [PU])
              refine pq (some 48) ?_; (try simp only [PU])
              refine pq (some 49) ?_; (try simp only [PU])
              refine pq (some 50) ?_; (try simp only [PU])
              refine pq (some 51) ?_; (try simp only [PU])
              refine pq (some 52) ?_; (try simp only [PU])
              refine pq (some 53) ?_; (try simp only [PU])
              refine pq (some 54) ?_; (try simp only [PU])
              refine pq (some 55) ?_; (try simp only [PU])
              refine pq (some 56) ?_; (try simp only [PU])
              refine perm_nil ?_
              have HK1 := Lib.hid (HK1.out.then (Keeps.refl Nob _).drew)
              go_wp2_with (first
               | (go_at_call 73; go_must (refine (H73.out _ HK1.out).mono ?_; rintro e w2 ⟨rfl, hk1⟩); have HK1 := Lib.hid (HK1.out.trans hk1 (fun _ _ h => h)); clear hk1; (try simp only [PU]))
               | (go_at_call 72; go_must (refine (H72.out _).mono ?_; rintro e w3 ⟨rfl, rfl⟩); (try simp only [PU]))
               | (go_at_call 47; go_must (refine (Hfail.out _ HK1.out).mono ?_; rintro e w5 ⟨rfl, rfl⟩); unfold stopAt; (try simp only [PU]))
               | ((with_reducible refine at_store (t := 3) rfl ?_); go_must (refine ev_store (cs' := #[.string T, .int .i64 ((a : Int) + 1)]) rfl rfl rfl rfl rfl rfl HI.out.1 HI.out.2 rfl (HK1.out.blk Hb.out id) (Nat.le_of_ble_eq_true rfl) rfl ?_; intro w4 hb2 hk2); have Hb2 := Lib.hid hb2; have HK2 := Lib.hid hk2; clear hb2 hk2; (try simp only [PU]))
              )
              go_roundw
              case rel => exact ⟨i + 1, n * 16 + d, q, by first | rfl | go_num, by omega, by first | rfl | go_num | (push_cast; simp), by omega, Hpw, Lib.hid (Hn.out w4 Hb2.out), Lib.hid ((HK.out.then HK1.out).trans HK2.out (fun _ _ h => h)), HR2, Lib.hid (fun h => by omega)⟩
              case measure => (simp [intOf] <;> omega)
            · rw [hidx] at H72
              clear hidx
              go_wp2_with (first
               | (go_at_call 73; go_must (refine (H73.out _ HK1.out).mono ?_; rintro e w2 ⟨rfl, hk1⟩); have HK1 := Lib.hid (HK1.out.trans hk1 (fun _ _ h => h)); clear hk1; (try simp only [PU]))
               | (go_at_call 72; go_must (refine (H72.out _).mono ?_; rintro e w3 ⟨rfl, rfl⟩); (try simp only [PU]))
               | (go_at_call 47; go_must (refine (Hfail.out _ HK1.out).mono ?_; rintro e w5 ⟨rfl, rfl⟩); unfold stopAt; (try simp only [PU]))
               | ((with_reducible refine at_store (t := 3) rfl ?_); go_must (refine ev_store (cs' := #[.string T, .int .i64 ((a : Int) + 1)]) rfl rfl rfl rfl rfl rfl HI.out.1 HI.out.2 rfl (HK1.out.blk Hb.out id) (Nat.le_of_ble_eq_true rfl) rfl ?_; intro w4 hb2 hk2); have Hb2 := Lib.hid hb2; have HK2 := Lib.hid hk2; clear hb2 hk2; (try simp only [PU]))
              )
              have c0 := (blk_cell (HK1.out.blk Hb.out id) 0).trans rfl
              have c1 := (blk_cell (HK1.out.blk Hb.out id) 1).trans rfl
              refine wp_region_perm [(0, true), (1, true), (2, true), (3, true), (4, true), (5, true), (6, true), (7, true), (8, true), (9, true), (10, true), (11, true), (12, true), (13, true)] (fun w' => w'.cell? ⟨r, 0, none⟩ = some (.string T) ∧ w'.cell? ⟨r, 1, none⟩ = some (.int .i64 a)) rfl (by kernel_rfl) (by kernel_rfl) (by decide) (fun c a d v w h => by cases d <;> exact h) ⟨c0, c1⟩ ?_
              refine pq (some 43) ?_; (try simp only [PU])
              refine pq (some 44) ?_; (try simp only [PU])
              refine pq (some 45) ?_; (try simp only [PU])
              refine pq (some 46) ?_; (try simp only [PU])
              refine pq (some 47) ?_; (try simp only [PU])
              refine pq (some 48) ?_; (try simp only [PU])
              refine pq (some 49) ?_; (try simp only [PU])
              refine pq (some 50) ?_; (try simp only [PU])
              refine pq (some 51) ?_; (try simp only [PU])
              refine pq (some 52) ?_; (try simp only [PU])
              refine pq (some 53) ?_; (try simp only [PU])
              refine pq (some 54) ?_; (try simp only [PU])
              refine pq (some 55) ?_; (try simp only [PU])
              refine pq (some 56) ?_; (try simp only [PU])
              refine perm_nil ?_
              have HK1 := Lib.hid (HK1.out.then (Keeps.refl Nob _).drew)
              go_wp2_with (first
               | (go_at_call 73; go_must (refine (H73.out _ HK1.out).mono ?_; rintro e w2 ⟨rfl, hk1⟩); have HK1 := Lib.hid (HK1.out.trans hk1 (fun _ _ h => h)); clear hk1; (try simp only [PU]))
               | (go_at_call 72; go_must (refine (H72.out _).mono ?_; rintro e w3 ⟨rfl, rfl⟩); (try simp only [PU]))
               | (go_at_call 47; go_must (refine (Hfail.out _ HK1.out).mono ?_; rintro e w5 ⟨rfl, rfl⟩); unfold stopAt; (try simp only [PU]))
               | ((with_reducible refine at_store (t := 3) rfl ?_); go_must (refine ev_store (cs' := #[.string T, .int .i64 ((a : Int) + 1)]) rfl rfl rfl rfl rfl rfl HI.out.1 HI.out.2 rfl (HK1.out.blk Hb.out id) (Nat.le_of_ble_eq_true rfl) rfl ?_; intro w4 hb2 hk2); have Hb2 := Lib.hid hb2; have HK2 := Lib.hid hk2; clear hb2 hk2; (try simp only [PU]))
              )
              go_roundw
              case rel => exact ⟨i + 1, n * 16 + d, q, by first | rfl | go_num, by omega, by first | rfl | go_num | (push_cast; simp), by omega, Hpw, Lib.hid (Hn.out w4 Hb2.out), Lib.hid ((HK.out.then HK1.out).trans HK2.out (fun _ _ h => h)), HR2, Lib.hid (fun h => by omega)⟩
              case measure => (simp [intOf] <;> omega)
    · have hi' : i = 4 := by omega
      subst hi'
      have h255 := H255.out rfl
      have HR2 := Lib.hid (show RR = .ok (UInt8.ofNat n, s') by rw [← HRR.out, ← HE.out]; rfl)
      have hu := u8_wrap n h255
      have Hu := Lib.hid hu
      clear hu
      go_wp2
      go_ret
      rw [HR2.out]
      exact ⟨congrArg (fun x => Ending.returned (Value.int IntKind.u8 x)) Hu.out.symm, Hr.out, HK.out⟩
end Go.Proofs.WV

namespace Go.Proofs.WV
open Go.RowKit Go.Proofs.KL Go.Proofs.WM
set_option maxRecDepth 100000
set_option linter.unusedSimpArgs false
set_option linter.unusedVariables false

theorem escape102 {w : World} {r : Nat} {T : ByteArray} {s : Bs} (h : Rd w r T s) : Calls Tryd.prog 102 #[.pointer (some ⟨r, 0, none⟩)] w (EndR w r T (fun b => .int .u8 b.toNat) (escB s)) := by
 rcases shortS (headB s) with ⟨h1, -⟩ | ⟨b, i, h1, hi, h2, h3⟩
 · exact escLong h h1
 · cases s with
   | nil =>
     have hz : shortB (headB []) = none := by decide
     rw [hz] at h1
     cases h1
   | cons c q =>
     have h1' : shortB c = some b := h1
     have he : escB (c :: q) = .ok (meantT.getD i 0, q) := by simp only [escB, h1', h3]
     rw [he]
     exact escShort h i hi h2
theorem u8_lt32 (c : UInt8) : c < 32 ↔ (c.toNat : Int) < 32 := by
 rw [UInt8.lt_iff_toNat_lt]
 have h1 : (32 : UInt8).toNat = 32 := rfl
 rw [h1]
 omega
theorem u8_is (c : UInt8) (n : Nat) (h : n < 256) : c = UInt8.ofNat n ↔ (c.toNat : Int) = n := by
 constructor
 · rintro rfl; rw [UInt8.toNat_ofNat']; omega
 · intro e
   refine UInt8.toNat_inj.1 ?_
   rw [UInt8.toNat_ofNat']
   omega
set_option maxHeartbeats 4000000 in
theorem str75 {w : World} {r : Nat} {T : ByteArray} {s : Bs} (h : Rd w r T s) : Calls Tryd.prog 75 #[.pointer (some ⟨r, 0, none⟩)] w (EndR w r T (fun s => .string (mkB s)) (strB s)) := by
 obtain ⟨i3, hi3, hs3⟩ := infoS3
 have HI := Lib.hid (And.intro hi3 hs3)
 have H74 := Lib.hid (word74 h ⟨#[34]⟩ (by decide) (nz1 34 (by decide)))
 have hbl : bl ⟨#[34]⟩ = [34] := rfl
 rw [hbl] at H74
 unfold strB
 have Hr0 := Lib.hid h.lt
 have hT := h.len
 clear hbl hi3 hs3 h
 rcases hw : wordB [34] s with n | s1
 · rw [hw] at H74
   clear hw
   show Calls _ _ _ _ (EndR w r T (fun s : Bs => Value.string (mkB s)) (.error n))
   go_enter Tryd.func75, Tryd.ntmps75
   go_wp2_with (first
    | (go_at_call 74; go_must (refine H74.out.mono ?_; rintro e w4 ⟨rfl, hk4⟩); have HK4 := Lib.hid hk4; clear hk4; unfold stopAt; (try simp only [PU]))
   )
   exact ⟨rfl, rfl, HK4.out⟩
 · rw [hw] at H74
   clear hw
   show Calls _ _ _ _ (EndR w r T (fun s : Bs => Value.string (mkB s)) (strGo (s1.length + 1) [] s1))
   obtain ⟨R0, hR0⟩ : ∃ x, strGo (s1.length + 1) [] s1 = x := ⟨_, rfl⟩
   rw [hR0]
   have HR0 := Lib.hid hR0
   clear hR0
   go_enter Tryd.func75, Tryd.ntmps75
   go_wp2_with (first
    | (go_at_call 74; go_must (refine H74.out.mono ?_; rintro e w4 ⟨⟨x4, rfl⟩, hr4, hk4⟩); have HR4 := Lib.hid hr4; have HK4 := Lib.hid hk4; clear hk4 hr4; (try simp only [PU]))
   )
   go_loopg [3, 4] (s1.length + 1) (fun k bv cv wr => ∃ (f : Nat) (acc s' : Bs) (A : Option Addr) (cp : Nat), k = f + 1 ∧ bv = .slice A acc.length cp ∧ s'.length ≤ f ∧ Hid (acc.length + s'.length ≤ T.size) ∧ Hid (OwnB wr w.heap.size (.slice A acc.length cp) acc) ∧ Hid (Rd wr r T s') ∧ Hid (Keeps (· = r) w wr) ∧ Hid (strGo (f + 1) acc s' = R0))
   case atStart => exact ⟨s1.length, [], s1, none, 0, rfl, rfl, Nat.le_refl _, Lib.hid (by simpa using HR4.out.le), Lib.hid (.inl ⟨rfl, rfl⟩), HR4, HK4, HR0⟩
   case round =>
    obtain ⟨f, acc, s', A, cp, rfl, rfl, hl, Hacc, HO, Hr, HK, HE⟩ := hrel
    have H101 := Lib.hid (is101 Hr.out 34 34 rfl)
    obtain ⟨n, hn⟩ : ∃ x, acc.length = x := ⟨_, rfl⟩
    have Hn := Lib.hid hn
    rw [hn] at HO Hacc ⊢
    clear hn
    cases s' with
    | nil =>
      have HR2 := Lib.hid (show R0 = .error 0 from HE.out.symm)
      have hi0 : isB 34 [] = (false, []) := rfl
      rw [hi0] at H101
      unfold IsOut at H101
      simp only at H101
      clear hi0
      go_wp2_with (first
       | (go_at_call 101; go_must (refine H101.out.mono ?_; rintro e w2 ⟨rfl, hr2, hk2⟩); have Hr2 := Lib.hid hr2; have HK2 := Lib.hid (HK.out.trans hk2 (fun _ _ h => h)); clear hr2 hk2; (try simp only [PU]))
       | (go_at_call 73; go_must (refine (next73 Hr2.out).mono ?_; rintro e w3 ⟨rfl, hk3⟩); have HK3 := Lib.hid (HK2.out.then hk3); have Hr3 := Lib.hid (Hr2.out.keep hk3 id); have q1 := (blk_cell Hr3.out.nil 1).trans rfl; clear hk3; unfold headN; (try simp only [PU]))
       | (go_at_call 47; go_must (refine (fail47 Hr3.out 0 (Nat.zero_le _)).mono ?_; rintro e w5 ⟨rfl, rfl⟩); unfold stopAt; (try simp only [PU]))
      )
      exact ⟨rfl, by rw [HR2.out]; exact ⟨rfl, HK3.out⟩⟩
    | cons c q =>
      have hstep : strGo (f + 1) acc (c :: q) = if c = 34 then .ok (acc, q) else if c < 32 then .error (q.length + 1) else if c = 92 then (match escB q with | .ok (b, r1) => strGo f (acc ++ [b]) r1 | .error e => .error e) else strGo f (acc ++ [c]) q := rfl
      have HE2 := Lib.hid (hstep.symm.trans HE.out)
      have Hrr := Lib.hid Hr0.out
      simp only [List.length_cons] at hl
      have Hacc1 := Lib.hid (show n + (q.length + 1) ≤ T.size from Hacc.out)
      clear hstep
      by_cases h34 : c = 34
      · subst h34
        have HR2 := Lib.hid (show R0 = .ok (acc, q) by rw [← HE2.out, if_pos rfl])
        rw [isB_at] at H101
        unfold IsOut at H101
        simp only at H101
        go_wp2_with (first
         | (go_at_call 101; go_must (refine H101.out.mono ?_; rintro e w2 ⟨rfl, hr2, hk2⟩); have Hr2 := Lib.hid hr2; have HO2 := Lib.hid (HO.out.keep hk2 (fun k hk e => by have := (HO.out.lt k hk).1; have := Hr0.out; omega)); have HK2 := Lib.hid (HK.out.trans hk2 (fun _ _ h => h)); clear hr2 hk2; (try simp only [PU]))
         | ((with_reducible refine at_dst (N := 48) rfl ?_); go_must (refine ev_conv_bs rfl rfl Tryd.underlying38 Tryd.underlying5 Tryd.underlying9 rfl HO2.out.bytes ?_); (try simp only [PU]))
        )
        go_ret
        rw [HR2.out]
        exact ⟨rfl, Hr2.out, HK2.out⟩
      · rw [isB_ne h34] at H101
        unfold IsOut at H101
        simp only at H101
        obtain ⟨cv, hcv⟩ : ∃ x : Int, (c.toNat : Int) = x := ⟨_, rfl⟩
        have Hcv := Lib.hid (show headN (c :: q) = cv from hcv)
        have Hbc := Lib.hid hcv
        have H34 := Lib.hid h34
        by_cases h32 : c < 32
        · have h32i : cv < 32 := by rw [← hcv]; exact (u8_lt32 c).1 h32
          have HR2 := Lib.hid (show R0 = .error (q.length + 1) by rw [← HE2.out, if_neg H34.out, if_pos h32])
          clear h32 hcv h34
          go_wp2_with (first
           | (go_at_call 101; go_must (refine H101.out.mono ?_; rintro e w2 ⟨rfl, hr2, hk2⟩); have Hr2 := Lib.hid hr2; have HK2 := Lib.hid (HK.out.trans hk2 (fun _ _ h => h)); clear hr2 hk2; (try simp only [PU]))
           | (go_at_call 73; go_must (refine (next73 Hr2.out).mono ?_; rintro e w3 ⟨rfl, hk3⟩); have HK3 := Lib.hid (HK2.out.then hk3); have Hr3 := Lib.hid (Hr2.out.keep hk3 id); have q1 := (blk_cell Hr3.out.blk 1).trans rfl; clear hk3; rw [Hcv.out]; (try simp only [PU]))
           | (go_at_call 47; go_must (refine (fail47 Hr3.out (q.length + 1) Hr3.out.le).mono ?_; rintro e w5 ⟨rfl, rfl⟩); unfold stopAt; (try simp only [PU]))
          )
          exact ⟨rfl, by rw [HR2.out]; exact ⟨rfl, HK3.out⟩⟩
        · have h32i : ¬ cv < 32 := by rw [← hcv]; exact fun h => h32 ((u8_lt32 c).2 h)
          have H32 := Lib.hid h32
          by_cases h92 : c = 92
          · have h92i : cv = 92 := by rw [← hcv, h92]; rfl
            have HE3 := Lib.hid (show (match escB q with | .ok (b, r1) => strGo f (acc ++ [b]) r1 | .error e => .error e) = R0 by rw [← HE2.out, if_neg H34.out, if_neg H32.out, if_pos h92])
            subst h92i
            clear hcv h34 h32 h92 h32i
            rcases he : escB q with m | ⟨bb, r1⟩
            · have HR2 := Lib.hid (show R0 = .error m by rw [← HE3.out, he])
              have He := Lib.hid he
              clear he
              go_wp2_with (first
               | (go_at_call 101; go_must (refine H101.out.mono ?_; rintro e w2 ⟨rfl, hr2, hk2⟩); have Hr2 := Lib.hid hr2; have HK2 := Lib.hid (HK.out.trans hk2 (fun _ _ h => h)); have HO2 := Lib.hid (HO.out.keep hk2 (fun k hk e => by have := (HO.out.lt k hk).1; have := Hr0.out; omega)); clear hr2 hk2; (try simp only [PU]))
               | (go_at_call 73; go_must (refine (next73 Hr2.out).mono ?_; rintro e w3 ⟨rfl, hk3⟩)
                  have HK3 := Lib.hid (HK2.out.then hk3)
                  have HO3 := Lib.hid (HO2.out.keep hk3 (fun _ _ => id))
                  have Hr3 := Lib.hid (Hr2.out.keep hk3 id)
                  obtain ⟨a, ha, ⟨hb, -⟩, -, -, hnx⟩ := Hr3.out.cons
                  have q1 := (blk_cell hb 1).trans rfl
                  have Hb3 := Lib.hid hb
                  have Hnx := Lib.hid hnx
                  clear hk3 hb hnx
                  rw [Hcv.out]
                  (try simp only [PU]))
               | ((with_reducible refine at_store (t := 3) rfl ?_); go_must (refine ev_store (cs' := #[.string T, .int .i64 ((a : Int) + 1)]) rfl rfl rfl rfl rfl rfl HI.out.1 HI.out.2 rfl Hb3.out (Nat.le_of_ble_eq_true rfl) rfl ?_; intro w5 hb5 hk5)
                  have HR5 := Lib.hid (Hnx.out w5 hb5)
                  have HK5 := Lib.hid (HK3.out.trans hk5 (fun _ _ h => h))
                  have HO4 := Lib.hid (HO3.out.keep hk5 (fun k hk e => by have := (HO3.out.lt k hk).1; have := Hr0.out; omega))
                  have HO5 := HO4
                  have HKA := HK5
                  clear hb5 hk5 q1
                  (try simp only [PU]))
               | (go_at_call 102; go_must (have h102 := escape102 HR5.out; rw [He.out] at h102; refine h102.mono ?_; rintro e w9 ⟨rfl, hk9⟩); have HK9 := Lib.hid (HK5.out.trans hk9 (fun _ _ h => h)); clear hk9; unfold stopAt; (try simp only [PU]))
              )
              exact ⟨rfl, by rw [HR2.out]; exact ⟨rfl, HK9.out⟩⟩
            · have HR2 := Lib.hid (show strGo f (acc ++ [bb]) r1 = R0 by rw [← HE3.out, he])
              have hel := escB_len he
              have He := Lib.hid he
              obtain ⟨bv, hbv⟩ : ∃ x : Int, (bb.toNat : Int) = x := ⟨_, rfl⟩
              have Hbv := Lib.hid hbv
              clear he hbv
              go_wp2_with (first
               | (go_at_call 101; go_must (refine H101.out.mono ?_; rintro e w2 ⟨rfl, hr2, hk2⟩); have Hr2 := Lib.hid hr2; have HK2 := Lib.hid (HK.out.trans hk2 (fun _ _ h => h)); have HO2 := Lib.hid (HO.out.keep hk2 (fun k hk e => by have := (HO.out.lt k hk).1; have := Hr0.out; omega)); clear hr2 hk2; (try simp only [PU]))
               | (go_at_call 73; go_must (refine (next73 Hr2.out).mono ?_; rintro e w3 ⟨rfl, hk3⟩)
                  have HK3 := Lib.hid (HK2.out.then hk3)
                  have HO3 := Lib.hid (HO2.out.keep hk3 (fun _ _ => id))
                  have Hr3 := Lib.hid (Hr2.out.keep hk3 id)
                  obtain ⟨a, ha, ⟨hb, -⟩, -, -, hnx⟩ := Hr3.out.cons
                  have q1 := (blk_cell hb 1).trans rfl
                  have Hb3 := Lib.hid hb
                  have Hnx := Lib.hid hnx
                  clear hk3 hb hnx
                  rw [Hcv.out]
                  (try simp only [PU]))
               | ((with_reducible refine at_store (t := 3) rfl ?_); go_must (refine ev_store (cs' := #[.string T, .int .i64 ((a : Int) + 1)]) rfl rfl rfl rfl rfl rfl HI.out.1 HI.out.2 rfl Hb3.out (Nat.le_of_ble_eq_true rfl) rfl ?_; intro w5 hb5 hk5)
                  have HR5 := Lib.hid (Hnx.out w5 hb5)
                  have HK5 := Lib.hid (HK3.out.trans hk5 (fun _ _ h => h))
                  have HO4 := Lib.hid (HO3.out.keep hk5 (fun k hk e => by have := (HO3.out.lt k hk).1; have := Hr0.out; omega))
                  have HO5 := HO4
                  have HKA := HK5
                  clear hb5 hk5 q1
                  (try simp only [PU]))
               | (go_at_call 102; go_must (have h102 := escape102 HR5.out; rw [He.out] at h102; refine h102.mono ?_; rintro e w9 ⟨rfl, hr9, hk9⟩)
                  have HKA := Lib.hid (HK5.out.trans hk9 (fun _ _ h => h))
                  have HR9 := Lib.hid hr9
                  have HO5 := Lib.hid (HO4.out.keep hk9 (fun k hk e => by have := (HO4.out.lt k hk).1; have := Hr0.out; omega))
                  clear hr9 hk9
                  simp only [Hbv.out]
                  (try simp only [PU]))
               | ((with_reducible refine at_dst (N := 45) rfl ?_); go_must (refine ev_slice (cs := #[.int .u8 bv]) (t := 5) (n := 1) (c := 1) rfl (by first | (go_simp; done) | (go_simp; rfl)) ?_; intro g4 w6 hg4 hl4 hb4 hk6); have Hb4 := Lib.hid hb4; have HK6 := Lib.hid hk6; clear hb4 hk6; (try simp only [PU]))
               | ((with_reducible refine at_dst (N := 46) rfl ?_); go_must (refine ev_app_sl (W := w6) rfl rfl byteT38 (base := w.heap.size) rfl (HO5.out.keep HK6.out (fun _ _ => id)) rfl (news := [bb]) rfl (fun _ => ⟨_, rfl, by rw [List.map_cons, List.map_nil]; unfold byteV; rw [Hbv.out]; exact World.news_of_block Hb4.out⟩) (by have h1 := Hacc1.out; have h2 : acc.length = n := Hn.out; omega) (by have := HKA.out.size; have := HK6.out.size; omega) ?_; intro v7 w7 ho7 ha7; obtain ⟨nA, nc, hv7⟩ := ho7.slice; subst hv7)
                  have HO7 := Lib.hid ho7
                  have HA7 := Lib.hid ha7
                  clear ho7 ha7
                  (try simp only [PU]))
              )
              go_roundg f
              case measure => omega
              case rel => exact ⟨f - 1, acc ++ [bb], r1, nA, nc, by omega, by rw [List.length_append, Hn.out]; rfl, by omega, Lib.hid (by rw [List.length_append, Hn.out]; simp only [List.length_cons, List.length_nil]; have := Hacc1.out; omega), Lib.hid (by have h := HO7.out; rw [List.length_append, Hn.out] at h ⊢; exact h), Lib.hid ((HR9.out.keep HK6.out id).keep HA7.out.keep (fun e => by have := (HO5.out.lt r e.symm).1; have := Hr0.out; omega)), Lib.hid ((HKA.out.then HK6.out).trans HA7.out.keep (fun k hk e => by have := (HO5.out.lt k e.symm).1; omega)), Lib.hid (by rw [show f - 1 + 1 = f by omega]; exact HR2.out)⟩
          · have h92i : (cv == 92) = false := by rw [← hcv]; exact beq_eq_false_iff_ne.2 (fun e => h92 ((u8_is c 92 (by decide)).2 e))
            have HR2 := Lib.hid (show strGo f (acc ++ [c]) q = R0 by rw [← HE2.out, if_neg H34.out, if_neg H32.out, if_neg h92])
            have Hbv := Hbc
            clear hcv h34 h32 h92
            go_wp2_with (first
             | (go_at_call 101; go_must (refine H101.out.mono ?_; rintro e w2 ⟨rfl, hr2, hk2⟩); have Hr2 := Lib.hid hr2; have HK2 := Lib.hid (HK.out.trans hk2 (fun _ _ h => h)); have HO2 := Lib.hid (HO.out.keep hk2 (fun k hk e => by have := (HO.out.lt k hk).1; have := Hr0.out; omega)); clear hr2 hk2; (try simp only [PU]))
             | (go_at_call 73; go_must (refine (next73 Hr2.out).mono ?_; rintro e w3 ⟨rfl, hk3⟩)
                have HK3 := Lib.hid (HK2.out.then hk3)
                have HO3 := Lib.hid (HO2.out.keep hk3 (fun _ _ => id))
                have Hr3 := Lib.hid (Hr2.out.keep hk3 id)
                obtain ⟨a, ha, ⟨hb, -⟩, -, -, hnx⟩ := Hr3.out.cons
                have q1 := (blk_cell hb 1).trans rfl
                have Hb3 := Lib.hid hb
                have Hnx := Lib.hid hnx
                clear hk3 hb hnx
                rw [Hcv.out]
                (try simp only [PU]))
             | ((with_reducible refine at_store (t := 3) rfl ?_); go_must (refine ev_store (cs' := #[.string T, .int .i64 ((a : Int) + 1)]) rfl rfl rfl rfl rfl rfl HI.out.1 HI.out.2 rfl Hb3.out (Nat.le_of_ble_eq_true rfl) rfl ?_; intro w5 hb5 hk5)
                have HR5 := Lib.hid (Hnx.out w5 hb5)
                have HK5 := Lib.hid (HK3.out.trans hk5 (fun _ _ h => h))
                have HO4 := Lib.hid (HO3.out.keep hk5 (fun k hk e => by have := (HO3.out.lt k hk).1; have := Hr0.out; omega))
                have HO5 := HO4
                have HKA := HK5
                clear hb5 hk5 q1
                (try simp only [PU]))
             | ((with_reducible refine at_dst (N := 21) rfl ?_); go_must (refine ev_slice (cs := #[.int .u8 cv]) (t := 5) (n := 1) (c := 1) rfl (by first | (go_simp; done) | (go_simp; rfl)) ?_; intro g4 w6 hg4 hl4 hb4 hk6); have Hb4 := Lib.hid hb4; have HK6 := Lib.hid hk6; clear hb4 hk6; (try simp only [PU]))
             | ((with_reducible refine at_dst (N := 22) rfl ?_); go_must (refine ev_app_sl (W := w6) rfl rfl byteT38 (base := w.heap.size) rfl (HO5.out.keep HK6.out (fun _ _ => id)) rfl (news := [c]) rfl (fun _ => ⟨_, rfl, by rw [List.map_cons, List.map_nil]; unfold byteV; rw [Hbv.out]; exact World.news_of_block Hb4.out⟩) (by have h1 := Hacc1.out; have h2 : acc.length = n := Hn.out; omega) (by have := HKA.out.size; have := HK6.out.size; omega) ?_; intro v7 w7 ho7 ha7; obtain ⟨nA, nc, hv7⟩ := ho7.slice; subst hv7)
                have HO7 := Lib.hid ho7
                have HA7 := Lib.hid ha7
                clear ho7 ha7
                (try simp only [PU]))
            )
            go_roundg f
            case measure => omega
            case rel => exact ⟨f - 1, acc ++ [c], q, nA, nc, by omega, by rw [List.length_append, Hn.out]; rfl, by omega, Lib.hid (by rw [List.length_append, Hn.out]; simp only [List.length_cons, List.length_nil]; have := Hacc1.out; omega), Lib.hid (by have h := HO7.out; rw [List.length_append, Hn.out] at h ⊢; exact h), Lib.hid ((HR5.out.keep HK6.out id).keep HA7.out.keep (fun e => by have := (HO5.out.lt r e.symm).1; have := Hr0.out; omega)), Lib.hid ((HKA.out.then HK6.out).trans HA7.out.keep (fun k hk e => by have := (HO5.out.lt k e.symm).1; omega)), Lib.hid (by rw [show f - 1 + 1 = f by omega]; exact HR2.out)⟩
end Go.Proofs.WV
