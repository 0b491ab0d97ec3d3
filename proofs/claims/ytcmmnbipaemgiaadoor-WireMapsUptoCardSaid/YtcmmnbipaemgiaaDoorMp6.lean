/-
 Put, by the program, in memory. Condition: the two values and the key are not larger than nine hundred million; the standard library's table of powers lies.
-/
import Derived.Test.YtcmmnbipaemgiaaDoorMp5
import Derived.Deep.DeepCutAuto
import Derived.Shelf.Spec.SlicesGrow
import Derived.Defers
import Derived.Recover
namespace Go.Proofs.WV
open Go.RowKit Go.Proofs.KL Go.Proofs.WM
set_option maxRecDepth 100000
set_option linter.unusedSimpArgs false
set_option linter.unusedVariables false

abbrev z6 : List Value := [.int .i64 0, .bool false, .int .i64 0, .string ByteArray.empty, .slice none 0 0, .slice none 0 0]
theorem OwnT.open {W : World} {lo : Nat} {v : Value} {k : Int} {b : Bool} {n : Int} {t : ByteArray} {ks : List ByteArray} {vs : List J} {kl nv : Nat} (h : OwnT W lo v (.mk k b n t ks vs)) (hl : ks.length = kl) (hn : vs.length = nv) : ∃ oA oc rA rc X xs, v = .agg #[.int .i64 k, .bool b, .int .i64 n, .string t, .slice oA kl oc, .slice rA nv rc] ∧ OwnS W lo (.slice oA kl oc) ks ∧ RowJ W lo (fun b => some b = (Value.slice oA kl oc).ownBlock) (.slice rA nv rc) vs X xs := by
 subst hl
 subst hn
 obtain ⟨kv, vv, rfl, h1, X, xs, h2⟩ := h
 obtain ⟨oA, oc, rfl, -⟩ := h1.slice
 obtain ⟨rA, rc, rfl, -⟩ := row_slice h2.row
 exact ⟨oA, oc, rA, rc, X, xs, rfl, h1, h2⟩
theorem RowJ.more {W W2 : World} {lo : Nat} {E : Nat → Prop} {v v' : Value} {acc : List J} {X : Nat → Prop} {xs : List Value} (h : RowJ W lo E v acc X xs) (hE : ∀ b, E b → b < W.heap.size) (hown : W2.ownsRow lo 25 6 v' (acc.length + 1) (xs ++ z6))
  (hk : Keeps (fun k => some k = v.ownBlock) W W2) (hr : v'.ownBlock = v.ownBlock ∨ ∃ k, v'.ownBlock = some k ∧ W.heap.size ≤ k) : RowJ W2 lo E v' (acc ++ [zJ]) X (xs ++ z6) := by
 refine ⟨by rw [List.length_append]; exact hown, fun b hb => ?_, fun k hk' he => ?_, fun i hi => ?_⟩
 · obtain ⟨h1, h2, h3, h4⟩ := h.low b hb
   refine ⟨h1, h2, fun e => ?_, Nat.lt_of_lt_of_le h4 hk.size⟩
   rcases hr with e2 | ⟨k, e2, hk2⟩
   · exact h3 (e.trans e2)
   · rw [e2] at e; injection e with e; omega
 · rcases hr with e2 | ⟨k2, e2, hk2⟩
   · exact h.ne k (e2 ▸ hk') he
   · rw [e2] at hk'; injection hk' with e; have := hE k he; omega
 · by_cases e : i < acc.length
   · rw [sixAt_append h.row.1 e, List.getD_eq_getElem?_getD, List.getElem?_append_left e, ← List.getD_eq_getElem?_getD]
     exact (h.val i e).keep hk (fun b _ hb e => (h.low b hb).2.2.1 e) (fun _ _ h => h)
   · have e2 : i = acc.length := by simp at hi; omega
     subst e2
     rw [sixAt_last h.row.1, List.getD_eq_getElem?_getD, List.getElem?_append_right (Nat.le_refl _), Nat.sub_self]
     exact zval
theorem RowJ.lay {W w8 W2 : World} {lo : Nat} {E : Nat → Prop} {v : Value} {acc : List J} {X X8 : Nat → Prop} {xs : List Value} {x0 x1 x2 x3 x4 x5 : Value} {i g : Nat} {x : J} (h : RowJ W lo E v acc X xs) (hi : i < acc.length) (hk : Keeps Nob W w8) (hx : JX w8 X8 (.agg #[x0, x1, x2, x3, x4, x5]) x)
  (hX8 : ∀ b, X8 b → W.heap.size ≤ b ∧ b < w8.heap.size) (hv : v.ownBlock = some g) (hk2 : Keeps (· = g) w8 W2) (hrow : W2.ownsRow lo 25 6 v acc.length (setSix xs i [x0, x1, x2, x3, x4, x5])) (hlo : lo ≤ W.heap.size) :
  RowJ W2 lo (fun _ => False) v (acc.set i x) (fun b => X b ∨ X8 b) (setSix xs i [x0, x1, x2, x3, x4, x5]) := by
 have hg := row_lt h.row g hv
 refine ⟨by rw [List.length_set]; exact hrow, fun b hb => ?_, fun _ _ e => e, fun p hp => ?_⟩
 · have s1 := hk.size
   have s2 := hk2.size
   rcases hb with hb | hb
   · obtain ⟨h1, h2, h3, h4⟩ := h.low b hb
     exact ⟨h1, id, h3, by omega⟩
   · have := hX8 b hb
     exact ⟨by omega, id, fun e => by rw [hv] at e; injection e with e; omega, by omega⟩
 · rw [List.length_set] at hp
   by_cases e : p = i
   · subst e
     rw [setSix_same h.row.1 hi, List.getD_eq_getElem?_getD, List.getElem?_set_self hi, Option.getD_some]
     exact hx.keep hk2 (fun b _ hb e => by have := hX8 b hb; omega) (fun _ _ h => .inr h)
   · rw [setSix_other h.row.1 hi rfl e, List.getD_eq_getElem?_getD, List.getElem?_set_ne (Ne.symm e), ← List.getD_eq_getElem?_getD]
     exact ((h.val p hp).after hk).keep hk2 (fun b _ hb e => (h.low b hb).2.2.1 (by rw [hv, e])) (fun _ _ h => .inl h)
theorem ix97a (a0 a1 a2 a3 a4 a5 b0 b1 b2 b3 b4 b5 : Value) (w : World) : (Instr.index 97 (.agg #[a0, a1, a2, a3, a4, a5, b0, b1, b2, b3, b4, b5]) (.int .i64 0)).run Tryd.prog w = .ok (.agg #[a0, a1, a2, a3, a4, a5]) w := by kernel_rfl
theorem ix97b (a0 a1 a2 a3 a4 a5 b0 b1 b2 b3 b4 b5 : Value) (w : World) : (Instr.index 97 (.agg #[a0, a1, a2, a3, a4, a5, b0, b1, b2, b3, b4, b5]) (.int .i64 1)).run Tryd.prog w = .ok (.agg #[b0, b1, b2, b3, b4, b5]) w := by kernel_rfl
theorem putJ_if (v : J) (key : ByteArray) (x : J) : putJ v key x = if checkJ v ≠ 0 then (zJ, checkJ v) else if checkJ x ≠ 0 then (zJ, checkJ x) else if v.kind ≠ 6 then (zJ, 2) else if checkJ (putOut key x v) ≠ 0 then (zJ, 3) else (putOut key x v, 0) := rfl
set_option maxHeartbeats 8000000 in
theorem put32 {W : World} {X Y : Nat → Prop} {v xv : Value} {j x : J} {key : ByteArray} (h : JX W X v j) (hx : JX W Y xv x) (ht : Tab W W.heap.size) (hs : sizeJ j + sizeJ x + key.size ≤ 900000000) : Calls Tryd.prog 32 #[v, .string key, xv] W (GetEnd W (putJ j key x)) := by
 obtain ⟨k, b, n, t, ks, vs, kv, vv, rfl, rfl, hks, hvs⟩ := h.open
 obtain ⟨kA, kc, rfl, -⟩ := id hks
 obtain ⟨vA, vc, u, rfl, -, -, -⟩ := id hvs
 obtain ⟨xk, xb, xn, xt, xks, xvs, xkv, xvv, hxe, rfl, hxk, hxv⟩ := hx.open
 obtain ⟨xA, xkc, rfl, -⟩ := id hxk
 obtain ⟨xB, xvc, xu, rfl, -, -, -⟩ := id hxv
 obtain ⟨kl, hkn⟩ : ∃ x, ks.length = x := ⟨_, rfl⟩
 obtain ⟨nv, hnv⟩ : ∃ x, vs.length = x := ⟨_, rfl⟩
 obtain ⟨xkl, hxkn⟩ : ∃ x, xks.length = x := ⟨_, rfl⟩
 obtain ⟨xvl, hxvn⟩ : ∃ x, xvs.length = x := ⟨_, rfl⟩
 have hkl : kl ≤ 900000000 ∧ nv ≤ 900000000 := by
  have := size_len vs
  have hs2 : sizeJ (.mk k b n t ks vs) ≤ 900000000 := by omega
  unfold sizeJ at hs2
  omega
 have Hkl := Lib.hid hkl
 have Hln := Lib.hid (And.intro hkn hnv)
 obtain ⟨j0, hj0⟩ : ∃ j0, J.mk k b n t ks vs = j0 := ⟨_, rfl⟩
 obtain ⟨out, hout⟩ : ∃ o, putOut key x (J.mk k b n t ks vs) = o := ⟨_, rfl⟩
 obtain ⟨z, hz⟩ : ∃ z, checkJ (J.mk k b n t ks vs) = z := ⟨_, rfl⟩
 obtain ⟨zx, hzx⟩ : ∃ z, checkJ x = z := ⟨_, rfl⟩
 obtain ⟨zo, hzo⟩ : ∃ z, checkJ out = z := ⟨_, rfl⟩
 obtain ⟨R, hR⟩ : ∃ R, putJ (J.mk k b n t ks vs) key x = R := ⟨_, rfl⟩
 have HR := Lib.hid (show R = if z ≠ 0 then (zJ, z) else if zx ≠ 0 then (zJ, zx) else if k ≠ 6 then (zJ, 2) else if zo ≠ 0 then (zJ, 3) else (out, 0) by rw [← hR, putJ_if, hz, hzx, hout, hzo]; rfl)
 have Hz := Lib.hid hz
 have Hzx := Lib.hid hzx
 have Hzo := Lib.hid hzo
 have Hout := Lib.hid hout
 have Hso := Lib.hid (show sizeJ out ≤ 10000000000 by have := putOut_size key x (J.mk k b n t ks vs); rw [hout] at this; omega)
 have Hsz := Lib.hid (show sizeJ (J.mk k b n t ks vs) ≤ 1000000000 ∧ sizeJ (J.mk k b n t ks vs) ≤ 10000000000 ∧ sizeJ x ≤ 1000000000 ∧ sizeJ x ≤ 10000000000 by omega)
 rw [hR]
 rw [hkn] at h ⊢
 rw [hnv] at h ⊢
 rw [hxkn] at hx ⊢
 rw [hxvn] at hx ⊢
 have HV := Lib.hid h.low
 have HX := Lib.hid hx.low
 have HT := Lib.hid ht
 obtain ⟨i25, hi25, hs25⟩ := info25
 obtain ⟨i23, hi23, hs23⟩ := info23
 obtain ⟨i22, hi22, hs22⟩ := info22
 have HI := Lib.hid (And.intro (And.intro hi25 hs25) (And.intro (And.intro hi23 hs23) (And.intro hi22 hs22)))
 clear hks hvs hxk hxv h hx ht hs hkl hkn hnv hxkn hxvn hj0 hout hz hzx hzo hR hi25 hs25 hi23 hs23 hi22 hs22 hxe
 go_enter Tryd.func32, Tryd.ntmps32
 go_wp2_with (first
  | ((with_reducible refine at_dst (N := 3) rfl ?_); go_must (refine ev_box (cs := #[.int .i64 k, .bool b, .int .i64 n, .string t, .slice kA kl kc, .slice vA nv vc]) rfl rfl rfl ?_; intro g1 w1 hg1 hl1 hb1 hk1)
     have Hb1 := Lib.hid hb1
     have Hg1 := Lib.hid (And.intro hg1 hl1)
     have HK := Lib.hid hk1
     clear hg1 hl1 hb1 hk1
     (try clear c0 c1 c2 c3 c4 c5)
     have c0 := (blk_cell Hb1.out 0).trans rfl
     have c1 := (blk_cell Hb1.out 1).trans rfl
     have c2 := (blk_cell Hb1.out 2).trans rfl
     have c3 := (blk_cell Hb1.out 3).trans rfl
     have c4 := (blk_cell Hb1.out 4).trans rfl
     have c5 := (blk_cell Hb1.out 5).trans rfl
     (try simp only [PU]))
  | ((with_reducible refine at_dst (N := 5) rfl ?_); go_must (refine ev_box (cs := #[.int .i64 xk, .bool xb, .int .i64 xn, .string xt, .slice xA xkl xkc, .slice xB xvl xvc]) rfl rfl rfl ?_; intro g2 w2 hg2 hl2 hb2 hk2)
     have Hb1 := Lib.hid (hk2.blk Hb1.out id)
     have Hb2 := Lib.hid hb2
     have Hg2 := Lib.hid (show W.heap.size ≤ g1 ∧ g1 < g2 ∧ g2 < w2.heap.size from ⟨Hg1.out.1, Nat.lt_of_lt_of_le Hg1.out.2 hg2, hl2⟩)
     have HK := Lib.hid (HK.out.trans hk2 (fun _ _ h => h))
     clear hg2 hl2 hb2 hk2 Hg1
     (try clear c0 c1 c2 c3 c4 c5)
     have c0 := (blk_cell Hb1.out 0).trans rfl
     have c1 := (blk_cell Hb1.out 1).trans rfl
     have c2 := (blk_cell Hb1.out 2).trans rfl
     have c3 := (blk_cell Hb1.out 3).trans rfl
     have c4 := (blk_cell Hb1.out 4).trans rfl
     have c5 := (blk_cell Hb1.out 5).trans rfl
     have e0 := (blk_cell Hb2.out 0).trans rfl
     have e1 := (blk_cell Hb2.out 1).trans rfl
     have e2 := (blk_cell Hb2.out 2).trans rfl
     have e3 := (blk_cell Hb2.out 3).trans rfl
     have e4 := (blk_cell Hb2.out 4).trans rfl
     have e5 := (blk_cell Hb2.out 5).trans rfl
     (try simp only [PU]))
  | ((with_reducible refine at_dst (N := 6) rfl ?_); go_must (refine ev_alloc rfl rfl zero25 rfl ?_; intro g3 w3 hg3 hl3 hb3 hk3)
     have Hb1 := Lib.hid (hk3.blk Hb1.out id)
     have Hb2 := Lib.hid (hk3.blk Hb2.out id)
     have Hb3 := Lib.hid hb3
     have Hgs := Lib.hid (show W.heap.size ≤ g1 ∧ g1 < g2 ∧ g2 < g3 ∧ g3 < w3.heap.size from ⟨Hg2.out.1, Hg2.out.2.1, Nat.lt_of_lt_of_le Hg2.out.2.2 hg3, hl3⟩)
     have HK := Lib.hid (HK.out.trans hk3 (fun _ _ h => h))
     clear hg3 hl3 hb3 hk3 Hg2 e0 e1 e2 e3 e4 e5
     (try clear c0 c1 c2 c3 c4 c5)
     have c0 := (blk_cell Hb1.out 0).trans rfl
     have c1 := (blk_cell Hb1.out 1).trans rfl
     have c2 := (blk_cell Hb1.out 2).trans rfl
     have c3 := (blk_cell Hb1.out 3).trans rfl
     have c4 := (blk_cell Hb1.out 4).trans rfl
     have c5 := (blk_cell Hb1.out 5).trans rfl
     have e0 := (blk_cell Hb2.out 0).trans rfl
     have e1 := (blk_cell Hb2.out 1).trans rfl
     have e2 := (blk_cell Hb2.out 2).trans rfl
     have e3 := (blk_cell Hb2.out 3).trans rfl
     have e4 := (blk_cell Hb2.out 4).trans rfl
     have e5 := (blk_cell Hb2.out 5).trans rfl
     (try simp only [PU]))
 )
 clear c0 c1 c2 c3 c4 c5 e0 e1 e2 e3 e4 e5
 go_loopg [16] 2 (fun K iv wr => ∃ i : Nat, ((i = 0 ∧ K = 2 ∧ iv = .int .i64 0) ∨ (i = 1 ∧ K = 1 ∧ iv = .int .i64 1 ∧ z = 0) ∨ (i = 2 ∧ K = 0 ∧ iv = .int .i64 2 ∧ z = 0 ∧ zx = 0)) ∧ Hid (wr.heap[g2]? = some (.cells #[.int .i64 xk, .bool xb, .int .i64 xn, .string xt, .slice xA xkl xkc, .slice xB xvl xvc] 25 (0, 0))) ∧ Hid (wr.heap[g3]? = some (.cells #[.int .i64 0, .bool false, .int .i64 0, .string ByteArray.empty, .slice none 0 0, .slice none 0 0] 25 (0, 0))) ∧ Hid (wr.heap[g1]? = some (.cells #[.int .i64 k, .bool b, .int .i64 n, .string t, .slice kA kl kc, .slice vA nv vc] 25 (0, 0))) ∧ Hid (Keeps Nob W wr) ∧ Hid (w3.heap.size ≤ wr.heap.size))
 case atStart => exact ⟨0, .inl ⟨rfl, rfl, rfl⟩, Hb2, Hb3, Hb1, HK, Lib.hid (Nat.le_refl _)⟩
 case round =>
  obtain ⟨i, hi, Hb2, Hb3, Hb1, HK, Hwr⟩ := hrel
  rcases hi with ⟨rfl, rfl, rfl⟩ | ⟨rfl, rfl, rfl, hz0⟩ | ⟨rfl, rfl, rfl, hz0, hzx0⟩
  · have hix := ix97a (.int .i64 k) (.bool b) (.int .i64 n) (.string t) (.slice kA kl kc) (.slice vA nv vc) (.int .i64 xk) (.bool xb) (.int .i64 xn) (.string xt) (.slice xA xkl xkc) (.slice xB xvl xvc)
    by_cases hz0 : z = 0
    · subst hz0
      go_wp2_with (first
       | ((with_reducible refine at_dst (N := 9) rfl ?_); go_must (refine ev_alloc rfl rfl zero25 rfl ?_; intro g9 w3 hg9 hl9 hb9 hk9)
          have Hb9 := Lib.hid hb9
          have HKr := Lib.hid hk9
          have Hg9 := Lib.hid hg9
          clear hb9 hk9 hg9 hl9
          (try simp only [PU]))
       | ((with_reducible refine at_store (t := 25) (p := 9) rfl ?_); go_must (refine ev_store (cs' := #[.int .i64 k, .bool b, .int .i64 n, .string t, .slice kA kl kc, .slice vA nv vc]) rfl rfl rfl rfl rfl rfl HI.out.1.1 HI.out.1.2 rfl Hb9.out (Nat.le_of_ble_eq_true rfl) rfl ?_; intro w4 hb4 hk4)
          have Hb4 := Lib.hid hb4
          have HKr := Lib.hid (show Keeps Nob wr w4 from HKr.out.trans hk4 (fun i hi e => by have := Hg9.out; omega))
          clear hb4 hk4
          (try clear c0 c1 c2 c3 c4 c5)
          have c0 := (blk_cell Hb4.out 0).trans rfl
          have c1 := (blk_cell Hb4.out 1).trans rfl
          have c2 := (blk_cell Hb4.out 2).trans rfl
          have c3 := (blk_cell Hb4.out 3).trans rfl
          have c4 := (blk_cell Hb4.out 4).trans rfl
          have c5 := (blk_cell Hb4.out 5).trans rfl
          (try simp only [PU]))
       | (go_at_call 16; go_must (refine (check16 (HV.out.after (HK.out.trans HKr.out (fun _ _ h => h))) (Tab.up (HT.out.keep (HK.out.trans HKr.out (fun _ _ h => h)).any) (HK.out.trans HKr.out (fun _ _ h => h)).size) Hsz.out.2.1).mono ?_; rintro e w5 ⟨rfl, hk5⟩; rw [Hz.out])
          have HKr := Lib.hid (show Keeps Nob wr w5 from HKr.out.trans hk5 (fun _ _ h => h))
          clear c0 c1 c2 c3 c4 c5 hk5
          (try simp only [PU]))
      )
      go_roundg (1 - 0)
      case measure => omega
      case rel => exact ⟨1, (.inr (.inl ⟨rfl, rfl, rfl, by trivial⟩)), Lib.hid (HKr.out.blk Hb2.out id), Lib.hid (HKr.out.blk Hb3.out id), Lib.hid (HKr.out.blk Hb1.out id), Lib.hid (HK.out.trans HKr.out (fun _ _ h => h)), Lib.hid (Nat.le_trans Hwr.out HKr.out.size)⟩
    · have hz0b : (z == 0) = false := beq_eq_false_iff_ne.2 hz0
      have Hz0 := Lib.hid hz0
      go_wp2_with (first
       | ((with_reducible refine at_dst (N := 9) rfl ?_); go_must (refine ev_alloc rfl rfl zero25 rfl ?_; intro g9 w3 hg9 hl9 hb9 hk9)
          have Hb9 := Lib.hid hb9
          have HKr := Lib.hid hk9
          have Hg9 := Lib.hid hg9
          clear hb9 hk9 hg9 hl9
          (try simp only [PU]))
       | ((with_reducible refine at_store (t := 25) (p := 9) rfl ?_); go_must (refine ev_store (cs' := #[.int .i64 k, .bool b, .int .i64 n, .string t, .slice kA kl kc, .slice vA nv vc]) rfl rfl rfl rfl rfl rfl HI.out.1.1 HI.out.1.2 rfl Hb9.out (Nat.le_of_ble_eq_true rfl) rfl ?_; intro w4 hb4 hk4)
          have Hb4 := Lib.hid hb4
          have HKr := Lib.hid (show Keeps Nob wr w4 from HKr.out.trans hk4 (fun i hi e => by have := Hg9.out; omega))
          clear hb4 hk4
          (try clear c0 c1 c2 c3 c4 c5)
          have c0 := (blk_cell Hb4.out 0).trans rfl
          have c1 := (blk_cell Hb4.out 1).trans rfl
          have c2 := (blk_cell Hb4.out 2).trans rfl
          have c3 := (blk_cell Hb4.out 3).trans rfl
          have c4 := (blk_cell Hb4.out 4).trans rfl
          have c5 := (blk_cell Hb4.out 5).trans rfl
          (try simp only [PU]))
       | (go_at_call 16; go_must (refine (check16 (HV.out.after (HK.out.trans HKr.out (fun _ _ h => h))) (Tab.up (HT.out.keep (HK.out.trans HKr.out (fun _ _ h => h)).any) (HK.out.trans HKr.out (fun _ _ h => h)).size) Hsz.out.2.1).mono ?_; rintro e w5 ⟨rfl, hk5⟩; rw [Hz.out])
          have HKr := Lib.hid (show Keeps Nob wr w5 from HKr.out.trans hk5 (fun _ _ h => h))
          clear c0 c1 c2 c3 c4 c5 hk5
          (try simp only [PU]))
       | ((with_reducible refine at_store (t := 25) (p := 6) rfl ?_); go_must (refine ev_store (cs' := #[.int .i64 0, .bool false, .int .i64 0, .string ByteArray.empty, .slice none 0 0, .slice none 0 0]) rfl rfl rfl rfl rfl rfl HI.out.1.1 HI.out.1.2 rfl (HKr.out.blk Hb3.out id) (Nat.le_of_ble_eq_true rfl) rfl ?_; intro w9 hb9 hk9)
          have Hb9z := Lib.hid hb9
          have HK9 := Lib.hid (show Keeps Nob W w9 from (HK.out.trans HKr.out (fun _ _ h => h)).trans hk9 (fun i hi e => by have := Hgs.out; omega))
          clear hb9 hk9
          (try clear c0 c1 c2 c3 c4 c5)
          have d0 := (blk_cell Hb9z.out 0).trans rfl
          have d1 := (blk_cell Hb9z.out 1).trans rfl
          have d2 := (blk_cell Hb9z.out 2).trans rfl
          have d3 := (blk_cell Hb9z.out 3).trans rfl
          have d4 := (blk_cell Hb9z.out 4).trans rfl
          have d5 := (blk_cell Hb9z.out 5).trans rfl
          (try simp only [PU]))
      )
      refine bodyPost_ret (results_ct (x := .agg #[.int .i64 0, .bool false, .int .i64 0, .string ByteArray.empty, .slice none 0 0, .slice none 0 0]) rfl _ _ rfl (by go_simp) rfl) rfl ?_
      rw [HR.out, if_pos Hz0.out]
      exact ⟨⟨_, rfl, zval⟩, HK9.out⟩
  · have hix := ix97b (.int .i64 k) (.bool b) (.int .i64 n) (.string t) (.slice kA kl kc) (.slice vA nv vc) (.int .i64 xk) (.bool xb) (.int .i64 xn) (.string xt) (.slice xA xkl xkc) (.slice xB xvl xvc)
    subst hz0
    by_cases hz0 : zx = 0
    · subst hz0
      go_wp2_with (first
       | ((with_reducible refine at_dst (N := 9) rfl ?_); go_must (refine ev_alloc rfl rfl zero25 rfl ?_; intro g9 w3 hg9 hl9 hb9 hk9)
          have Hb9 := Lib.hid hb9
          have HKr := Lib.hid hk9
          have Hg9 := Lib.hid hg9
          clear hb9 hk9 hg9 hl9
          (try simp only [PU]))
       | ((with_reducible refine at_store (t := 25) (p := 9) rfl ?_); go_must (refine ev_store (cs' := #[.int .i64 xk, .bool xb, .int .i64 xn, .string xt, .slice xA xkl xkc, .slice xB xvl xvc]) rfl rfl rfl rfl rfl rfl HI.out.1.1 HI.out.1.2 rfl Hb9.out (Nat.le_of_ble_eq_true rfl) rfl ?_; intro w4 hb4 hk4)
          have Hb4 := Lib.hid hb4
          have HKr := Lib.hid (show Keeps Nob wr w4 from HKr.out.trans hk4 (fun i hi e => by have := Hg9.out; omega))
          clear hb4 hk4
          (try clear c0 c1 c2 c3 c4 c5)
          have c0 := (blk_cell Hb4.out 0).trans rfl
          have c1 := (blk_cell Hb4.out 1).trans rfl
          have c2 := (blk_cell Hb4.out 2).trans rfl
          have c3 := (blk_cell Hb4.out 3).trans rfl
          have c4 := (blk_cell Hb4.out 4).trans rfl
          have c5 := (blk_cell Hb4.out 5).trans rfl
          (try simp only [PU]))
       | (go_at_call 16; go_must (refine (check16 (HX.out.after (HK.out.trans HKr.out (fun _ _ h => h))) (Tab.up (HT.out.keep (HK.out.trans HKr.out (fun _ _ h => h)).any) (HK.out.trans HKr.out (fun _ _ h => h)).size) Hsz.out.2.2.2).mono ?_; rintro e w5 ⟨rfl, hk5⟩; rw [Hzx.out])
          have HKr := Lib.hid (show Keeps Nob wr w5 from HKr.out.trans hk5 (fun _ _ h => h))
          clear c0 c1 c2 c3 c4 c5 hk5
          (try simp only [PU]))
      )
      go_roundg (1 - 1)
      case measure => omega
      case rel => exact ⟨2, (.inr (.inr ⟨rfl, rfl, rfl, by trivial, by trivial⟩)), Lib.hid (HKr.out.blk Hb2.out id), Lib.hid (HKr.out.blk Hb3.out id), Lib.hid (HKr.out.blk Hb1.out id), Lib.hid (HK.out.trans HKr.out (fun _ _ h => h)), Lib.hid (Nat.le_trans Hwr.out HKr.out.size)⟩
    · have hz0b : (zx == 0) = false := beq_eq_false_iff_ne.2 hz0
      have Hz0 := Lib.hid hz0
      go_wp2_with (first
       | ((with_reducible refine at_dst (N := 9) rfl ?_); go_must (refine ev_alloc rfl rfl zero25 rfl ?_; intro g9 w3 hg9 hl9 hb9 hk9)
          have Hb9 := Lib.hid hb9
          have HKr := Lib.hid hk9
          have Hg9 := Lib.hid hg9
          clear hb9 hk9 hg9 hl9
          (try simp only [PU]))
       | ((with_reducible refine at_store (t := 25) (p := 9) rfl ?_); go_must (refine ev_store (cs' := #[.int .i64 xk, .bool xb, .int .i64 xn, .string xt, .slice xA xkl xkc, .slice xB xvl xvc]) rfl rfl rfl rfl rfl rfl HI.out.1.1 HI.out.1.2 rfl Hb9.out (Nat.le_of_ble_eq_true rfl) rfl ?_; intro w4 hb4 hk4)
          have Hb4 := Lib.hid hb4
          have HKr := Lib.hid (show Keeps Nob wr w4 from HKr.out.trans hk4 (fun i hi e => by have := Hg9.out; omega))
          clear hb4 hk4
          (try clear c0 c1 c2 c3 c4 c5)
          have c0 := (blk_cell Hb4.out 0).trans rfl
          have c1 := (blk_cell Hb4.out 1).trans rfl
          have c2 := (blk_cell Hb4.out 2).trans rfl
          have c3 := (blk_cell Hb4.out 3).trans rfl
          have c4 := (blk_cell Hb4.out 4).trans rfl
          have c5 := (blk_cell Hb4.out 5).trans rfl
          (try simp only [PU]))
       | (go_at_call 16; go_must (refine (check16 (HX.out.after (HK.out.trans HKr.out (fun _ _ h => h))) (Tab.up (HT.out.keep (HK.out.trans HKr.out (fun _ _ h => h)).any) (HK.out.trans HKr.out (fun _ _ h => h)).size) Hsz.out.2.2.2).mono ?_; rintro e w5 ⟨rfl, hk5⟩; rw [Hzx.out])
          have HKr := Lib.hid (show Keeps Nob wr w5 from HKr.out.trans hk5 (fun _ _ h => h))
          clear c0 c1 c2 c3 c4 c5 hk5
          (try simp only [PU]))
       | ((with_reducible refine at_store (t := 25) (p := 6) rfl ?_); go_must (refine ev_store (cs' := #[.int .i64 0, .bool false, .int .i64 0, .string ByteArray.empty, .slice none 0 0, .slice none 0 0]) rfl rfl rfl rfl rfl rfl HI.out.1.1 HI.out.1.2 rfl (HKr.out.blk Hb3.out id) (Nat.le_of_ble_eq_true rfl) rfl ?_; intro w9 hb9 hk9)
          have Hb9z := Lib.hid hb9
          have HK9 := Lib.hid (show Keeps Nob W w9 from (HK.out.trans HKr.out (fun _ _ h => h)).trans hk9 (fun i hi e => by have := Hgs.out; omega))
          clear hb9 hk9
          (try clear c0 c1 c2 c3 c4 c5)
          have d0 := (blk_cell Hb9z.out 0).trans rfl
          have d1 := (blk_cell Hb9z.out 1).trans rfl
          have d2 := (blk_cell Hb9z.out 2).trans rfl
          have d3 := (blk_cell Hb9z.out 3).trans rfl
          have d4 := (blk_cell Hb9z.out 4).trans rfl
          have d5 := (blk_cell Hb9z.out 5).trans rfl
          (try simp only [PU]))
      )
      refine bodyPost_ret (results_ct (x := .agg #[.int .i64 0, .bool false, .int .i64 0, .string ByteArray.empty, .slice none 0 0, .slice none 0 0]) rfl _ _ rfl (by go_simp) rfl) rfl ?_
      rw [HR.out, if_neg (by simp), if_pos Hz0.out]
      exact ⟨⟨_, rfl, zval⟩, HK9.out⟩
  · subst hz0
    subst hzx0
    have HKr := Lib.hid (Keeps.refl Nob wr)
    (try clear c0 c1 c2 c3 c4 c5)
    have c0 := (blk_cell Hb1.out 0).trans rfl
    have c1 := (blk_cell Hb1.out 1).trans rfl
    have c2 := (blk_cell Hb1.out 2).trans rfl
    have c3 := (blk_cell Hb1.out 3).trans rfl
    have c4 := (blk_cell Hb1.out 4).trans rfl
    have c5 := (blk_cell Hb1.out 5).trans rfl
    by_cases hk6 : k = 6
    · have Hfl := Lib.hid (show kl = nv by rw [← Hln.out.1, ← Hln.out.2]; exact formed_len (check_formed Hz.out) hk6)
      subst hk6
      obtain ⟨q, hq⟩ : ∃ q, idxK key ks = q := ⟨_, rfl⟩
      have Hq := Lib.hid hq
      clear hq
      go_upto_if 37 with (first
       | (go_at_call 59; go_must (refine (own59 _ _ _ _ (HV.out.after HK.out) Hsz.out.1).mono ?_; rintro e w5 ⟨⟨v5, rfl, ho5⟩, hk5⟩; obtain ⟨oA, oc, rA, rc, X5, xs5, rfl, hos, hoj⟩ := ho5.open Hln.out.1 Hln.out.2)
          have HOS := Lib.hid hos
          have HOJ := Lib.hid hoj
          have HKr := Lib.hid hk5
          clear hk5 hos hoj ho5 c0 c1 c2 c3 c4 c5
          (try simp only [PU]))
       | ((with_reducible refine at_dst (N := 11) rfl ?_); go_must (refine ev_alloc rfl rfl zero25 rfl ?_; intro g7 w6 hg7 hl7 hb7 hk7)
          have Hb7 := Lib.hid hb7
          have HOS := Lib.hid (HOS.out.keep hk7 (fun _ _ => id))
          have HOJ := Lib.hid (HOJ.out.swap (E' := fun b => some b = (Value.slice oA kl oc).ownBlock ∨ b = g7) hk7 (fun _ _ e => e.elim) (fun b e => e.elim .inl (fun e => .inr (by omega))))
          have Hg7 := Lib.hid (show wr.heap.size ≤ g7 from Nat.le_trans HKr.out.size hg7)
          have HKr := Lib.hid (HKr.out.trans hk7 (fun _ _ h => h))
          clear hg7 hl7 hb7 hk7
          (try simp only [PU]))
       | ((with_reducible refine at_store (t := 25) (p := 11) rfl ?_); go_must (refine ev_store (cs' := #[.int .i64 6, .bool b, .int .i64 n, .string t, .slice oA kl oc, .slice rA nv rc]) rfl rfl rfl rfl rfl rfl HI.out.1.1 HI.out.1.2 rfl Hb7.out (Nat.le_of_ble_eq_true rfl) rfl ?_; intro w8 hb8 hk8)
          have HOS := Lib.hid (HOS.out.keep hk8 (fun q e h => HOS.out.ne Hb7.out (by decide) (by rw [e, h])))
          have HOJ := Lib.hid (HOJ.out.keep hk8 (fun b _ e => .inr (.inr e)))
          have Hb7 := Lib.hid hb8
          have HKr := Lib.hid (show Keeps Nob wr w8 from HKr.out.trans hk8 (fun i hi e => by have := Hg7.out; omega))
          clear hb8 hk8
          (try clear c0 c1 c2 c3 c4 c5)
          have c0 := (blk_cell Hb7.out 0).trans rfl
          have c1 := (blk_cell Hb7.out 1).trans rfl
          have c2 := (blk_cell Hb7.out 2).trans rfl
          have c3 := (blk_cell Hb7.out 3).trans rfl
          have c4 := (blk_cell Hb7.out 4).trans rfl
          have c5 := (blk_cell Hb7.out 5).trans rfl
          (try simp only [PU]))
       | (go_at_call 58; go_must (refine (index58 HOS.out.strs (Nat.le_trans Hkl.out.1 (by decide))).mono ?_; rintro e w9 ⟨rfl, rfl⟩; rw [Hq.out]); (try simp only [PU]))
      )
      clear c0 c1 c2 c3
      go_cut [12] (fun iv wx => ∃ (i : Nat) (ks' : List ByteArray) (vs' : List J) (oA' rA' : Option Addr) (kl' nv' oc' rc' : Nat) (X' : Nat → Prop) (xs' : List Value), iv = .int .i64 i ∧ i < nv' ∧ nv' ≤ 1000000000 ∧ kl' ≤ 1000000000 ∧ Hid (ks'.length = kl' ∧ vs'.length = nv') ∧ Hid (out = .mk 6 b n t ks' (vs'.set i x)) ∧ Hid (wx.heap[g7]? = some (.cells #[.int .i64 6, .bool b, .int .i64 n, .string t, .slice oA' kl' oc', .slice rA' nv' rc'] 25 (0, 0))) ∧ Hid (OwnS wx wr.heap.size (.slice oA' kl' oc') ks') ∧ Hid (RowJ wx wr.heap.size (fun b => some b = (Value.slice oA' kl' oc').ownBlock ∨ b = g7) (.slice rA' nv' rc') vs' X' xs') ∧ Hid (Keeps Nob wr wx))
      case first =>
       rcases q with _ | i
       · simp only [show idxI none = -1 from rfl]
         go_upto_region 14 with fail
         have Hb7 := Lib.hid ((Keeps.refl Nob _).drew.blk Hb7.out id)
         have HOS := Lib.hid (HOS.out.keep (Keeps.refl Nob _).drew (fun _ _ => id))
         have HOJ := Lib.hid (HOJ.out.keep (Keeps.refl Nob _).drew (fun _ _ e => e.elim))
         have HKr := Lib.hid (HKr.out.trans (Keeps.refl Nob _).drew (fun _ _ h => h))
         have s4 := (blk_cell Hb7.out 4).trans rfl
         have s5 := (blk_cell Hb7.out 5).trans rfl
         have hkl9 := Hkl.out
         clear c4 c5
         refine wp_region_treec 11 (.q 0 (.q 1 (.q 2 (.q 5 (.q 6 (.qf 7 (.br [3, 8] (fun k => bif Nat.beq k 3 then .br [4, 8] (fun k => bif Nat.beq k 4 then .q 10 (.br [8] (fun k => .br [9] (fun k => .brc [11] (fun k => .brc [12] (fun k => .brc [13] (fun k => .done)))))) else .br [4] (fun k => .q 10 (.br [9] (fun k => .brc [11] (fun k => .brc [12] (fun k => .brc [13] (fun k => .done))))))) else .br [3] (fun k => .br [4] (fun k => .q 10 (.br [9] (fun k => .brc [11] (fun k => .brc [12] (fun k => .brc [13] (fun k => .done))))))))))))))) (fun w' => w'.cell? ⟨g7, 4, none⟩ = some (.slice oA kl oc) ∧ w'.cell? ⟨g7, 5, none⟩ = some (.slice rA nv rc)) rfl (by kernel_rfl) (by kernel_rfl) (fun c a d v w h => by cases d <;> exact h) ⟨s4, s5⟩ ?_
         refine treec_q (v := ?v1_13) (some 41) rfl rfl rfl ?q1_13 ?h1_13; (case q1_13 => (intro w' hS; obtain ⟨s1, s2⟩ := hS; first | (go_simp; done) | (go_simp; rfl))); (try simp only [PU])
         refine treec_q (v := ?v1_12) (some 42) rfl rfl rfl ?q1_12 ?h1_12; (case q1_12 => (intro w' hS; obtain ⟨s1, s2⟩ := hS; first | (go_simp; done) | (go_simp; rfl))); (try simp only [PU])
         refine treec_q (v := ?v1_11) (some 43) rfl rfl rfl ?q1_11 ?h1_11; (case q1_11 => (intro w' hS; obtain ⟨s1, s2⟩ := hS; first | (go_simp; done) | (go_simp; rfl))); (try simp only [PU])
         refine treec_q (v := ?v1_10) (some 46) rfl rfl rfl ?q1_10 ?h1_10; (case q1_10 => (intro w' hS; obtain ⟨s1, s2⟩ := hS; first | (go_simp; done) | (go_simp; rfl))); (try simp only [PU])
         refine treec_q (v := ?v1_9) (some 47) rfl rfl rfl ?q1_9 ?h1_9; (case q1_9 => (intro w' hS; obtain ⟨s1, s2⟩ := hS; first | (go_simp; done) | (go_simp; rfl))); (try simp only [PU])
         refine treec_qf (v := ?v1_8) (some 48) rfl rfl rfl ?q1_8 ?h1_8; (case q1_8 => (intro w'; first | (go_simp; done) | (go_simp; rfl))); (try simp only [PU])
         refine treec_b rfl rfl ?b1_5 ?nb1_5
         case' b1_5 =>
          go_must (refine ev_slice (cs := #[.string key]) (t := 9) (n := 1) (c := 1) rfl (by first | (go_simp; done) | (go_simp; rfl)) ?_; intro gk wk hgk hlk hbk hkk)
          (try simp only [PU])
          have Hbk := Lib.hid hbk
          (try have Hbz := Lib.hid (hkk.blk Hbz.out id))
          have Hb7 := Lib.hid (hkk.blk Hb7.out id)
          have HOS := Lib.hid (HOS.out.keep hkk (fun _ _ => id))
          have HOJ := Lib.hid (HOJ.out.keep hkk (fun _ _ e => e.elim))
          have HKr := Lib.hid (HKr.out.trans hkk (fun _ _ h => h))
          clear s4 s5
          have s4 := (blk_cell Hb7.out 4).trans rfl
          have s5 := (blk_cell Hb7.out 5).trans rfl
          clear hgk hlk hbk hkk
          refine wpList_nil ⟨⟨s4, s5⟩, ?_⟩
          refine treec_b rfl rfl ?b1_2 ?nb1_2
          case' b1_2 =>
           have hrow := HOS.out
           unfold OwnS at hrow
           rw [Hln.out.1] at hrow
           have Hrow := Lib.hid hrow
           clear hrow
           go_must (refine ev_append rfl rfl Tryd.underlying22 info9b rfl (by decide) (base := wr.heap.size) rfl Hrow.out rfl (news := [Value.string key]) rfl (fun _ => ⟨_, rfl, World.news_of_block Hbk.out⟩) (by simp [Value.oneCell']) (by omega) (by decide) HKr.out.size ?_; intro v9 w11 hown9 hk11 hr11 hf11; obtain ⟨gq, cq, rfl⟩ := hf11 (by decide))
           (try simp only [PU])
           (try have Hbz := Lib.hid (hk11.blk Hbz.out (HOS.out.ne Hbz.out (by decide))))
           have Hb7 := Lib.hid (hk11.blk Hb7.out (HOS.out.ne Hb7.out (by decide)))
           have HOJ := Lib.hid (HOJ.out.swap (E' := fun b => some b = (Value.slice (some ⟨gq, 0, none⟩) (kl + 1) cq).ownBlock ∨ b = g7) hk11 (fun b _ e => .inr (.inl e)) (fun b e => e.elim (fun e => by
            rcases hr11 with h | ⟨k, h, hk⟩
            · exact .inl (.inl (e.trans h))
            · rw [h] at e; injection e with e; exact .inr (by omega)) (fun e => .inl (.inr e))))
           have HKr := Lib.hid (show Keeps Nob wr w11 from HKr.out.trans hk11 (fun i hi e => by have := (HOS.out.lt i e.symm).1; omega))
           have HOS := Lib.hid (show OwnS w11 wr.heap.size (.slice (some ⟨gq, 0, none⟩) (kl + 1) cq) (ks ++ [key]) from by unfold OwnS; rw [List.length_append, List.map_append, Hln.out.1]; exact hown9)
           clear hown9 hk11 hr11 hf11 Hbk Hrow s4 s5
           have s4 := (blk_cell Hb7.out 4).trans rfl
           have s5 := (blk_cell Hb7.out 5).trans rfl
           refine wpList_nil ⟨⟨s4, s5⟩, ?_⟩
           refine treec_q (v := ?v1_1) (some 51) rfl rfl rfl ?q1_1 ?h1_1; (case q1_1 => (intro w' hS; obtain ⟨s1, s2⟩ := hS; first | (go_simp; done) | (go_simp; rfl))); (try simp only [PU])
           refine treec_e rfl rfl ?_
           go_must (refine ev_slice (cs := #[.int .i64 0, .bool false, .int .i64 0, .string ByteArray.empty, .slice none 0 0, .slice none 0 0]) (t := 25) (n := 1) (c := 1) rfl (by first | (go_simp; done) | (go_simp; rfl)) ?_; intro gz wz hgz hlz hbz hkz)
           (try simp only [PU])
           have Hbz := Lib.hid hbz
           (try have Hbk := Lib.hid (hkz.blk Hbk.out id))
           have Hb7 := Lib.hid (hkz.blk Hb7.out id)
           have HOS := Lib.hid (HOS.out.keep hkz (fun _ _ => id))
           have HOJ := Lib.hid (HOJ.out.keep hkz (fun _ _ e => e.elim))
           have HKr := Lib.hid (HKr.out.trans hkz (fun _ _ h => h))
           clear s4 s5
           have s4 := (blk_cell Hb7.out 4).trans rfl
           have s5 := (blk_cell Hb7.out 5).trans rfl
           clear hgz hlz hbz hkz
           refine wpList_nil ⟨⟨s4, s5⟩, ?_⟩
           refine treec_e rfl rfl ?_
           have hrow := HOJ.out.row
           rw [Hln.out.2] at hrow
           have Hrow := Lib.hid hrow
           clear hrow
           go_must (refine ev_append rfl rfl Tryd.underlying23 info25b rfl (by decide) (base := wr.heap.size) rfl Hrow.out rfl (news := [.int .i64 0, .bool false, .int .i64 0, .string ByteArray.empty, .slice none 0 0, .slice none 0 0]) rfl (fun _ => ⟨_, rfl, World.news_of_block Hbz.out⟩) (by simp [Value.oneCell']) (by omega) (by decide) HKr.out.size ?_; intro v6 w12 hown6 hk12 hr12 hf12; obtain ⟨gv, cv, rfl⟩ := hf12 (by decide))
           (try simp only [PU])
           have HOJ2 := Lib.hid (HOJ.out.more (fun b e => e.elim (fun e => (HOS.out.lt b e.symm).2) (fun e => by rw [e]; exact blk_lt Hb7.out)) (by rw [Hln.out.2]; exact hown6) hk12 hr12)
           have HOS := Lib.hid (HOS.out.keep hk12 (fun q e h => HOJ.out.ne q h.symm (.inl e.symm)))
           have Hb7 := Lib.hid (hk12.blk Hb7.out (fun e => HOJ.out.ne g7 e.symm (.inr rfl)))
           have HKr := Lib.hid (show Keeps Nob wr w12 from HKr.out.trans hk12 (fun i hi e => by have := (row_lt HOJ.out.row i e.symm).1; omega))
           have HOJ := HOJ2
           clear hown6 hk12 hr12 hf12 Hbz Hrow s4 s5 HOJ2
           have s4 := (blk_cell Hb7.out 4).trans rfl
           have s5 := (blk_cell Hb7.out 5).trans rfl
           refine wpList_nil ⟨⟨s4, s5⟩, ?_⟩
           refine treec_f rfl rfl ?_
           go_must (refine ev_store (off := 4) (cs' := #[.int .i64 6, .bool b, .int .i64 n, .string t, .slice (some ⟨gq, 0, none⟩) (kl + 1) cq, .slice rA nv rc]) rfl rfl rfl rfl rfl rfl HI.out.2.2.1 HI.out.2.2.2 rfl Hb7.out (Nat.le_of_ble_eq_true rfl) rfl ?_; intro w13 hb13 hk13)
           (try simp only [PU])
           have HOS := Lib.hid (HOS.out.keep hk13 (fun q e h => HOS.out.ne Hb7.out (by decide) (by rw [e, h])))
           have HOJ := Lib.hid (HOJ.out.keep hk13 (fun b _ e => .inr (.inr e)))
           have Hb7 := Lib.hid hb13
           have HKr := Lib.hid (show Keeps Nob wr w13 from HKr.out.trans hk13 (fun i hi e => by have := Hg7.out; omega))
           clear hb13 hk13
           refine wpList_nil (then_normal ?_)
           refine treec_f rfl rfl ?_
           go_wp2_with fail
           refine treec_f rfl rfl ?_
           go_must (refine ev_store (off := 5) (cs' := #[.int .i64 6, .bool b, .int .i64 n, .string t, .slice (some ⟨gq, 0, none⟩) (kl + 1) cq, .slice (some ⟨gv, 0, none⟩) (nv + 1) cv]) rfl rfl rfl rfl rfl rfl HI.out.2.1.1 HI.out.2.1.2 rfl Hb7.out (Nat.le_of_ble_eq_true rfl) rfl ?_; intro w14 hb14 hk14)
           (try simp only [PU])
           have HOS := Lib.hid (HOS.out.keep hk14 (fun q e h => HOS.out.ne Hb7.out (by decide) (by rw [e, h])))
           have HOJ := Lib.hid (HOJ.out.keep hk14 (fun b _ e => .inr (.inr e)))
           have Hb7 := Lib.hid hb14
           have HKr := Lib.hid (show Keeps Nob wr w14 from HKr.out.trans hk14 (fun i hi e => by have := Hg7.out; omega))
           clear hb14 hk14
           refine wpList_nil (then_normal ?_)
           refine treec_nil ?_
          case' nb1_2 =>
           refine treec_e rfl rfl ?b1_4
           case' b1_4 =>
            go_must (refine ev_slice (cs := #[.int .i64 0, .bool false, .int .i64 0, .string ByteArray.empty, .slice none 0 0, .slice none 0 0]) (t := 25) (n := 1) (c := 1) rfl (by first | (go_simp; done) | (go_simp; rfl)) ?_; intro gz wz hgz hlz hbz hkz)
            (try simp only [PU])
            have Hbz := Lib.hid hbz
            (try have Hbk := Lib.hid (hkz.blk Hbk.out id))
            have Hb7 := Lib.hid (hkz.blk Hb7.out id)
            have HOS := Lib.hid (HOS.out.keep hkz (fun _ _ => id))
            have HOJ := Lib.hid (HOJ.out.keep hkz (fun _ _ e => e.elim))
            have HKr := Lib.hid (HKr.out.trans hkz (fun _ _ h => h))
            clear s4 s5
            have s4 := (blk_cell Hb7.out 4).trans rfl
            have s5 := (blk_cell Hb7.out 5).trans rfl
            clear hgz hlz hbz hkz
            refine wpList_nil ⟨⟨s4, s5⟩, ?_⟩
            refine treec_e rfl rfl ?_
            have hrow := HOS.out
            unfold OwnS at hrow
            rw [Hln.out.1] at hrow
            have Hrow := Lib.hid hrow
            clear hrow
            go_must (refine ev_append rfl rfl Tryd.underlying22 info9b rfl (by decide) (base := wr.heap.size) rfl Hrow.out rfl (news := [Value.string key]) rfl (fun _ => ⟨_, rfl, World.news_of_block Hbk.out⟩) (by simp [Value.oneCell']) (by omega) (by decide) HKr.out.size ?_; intro v9 w11 hown9 hk11 hr11 hf11; obtain ⟨gq, cq, rfl⟩ := hf11 (by decide))
            (try simp only [PU])
            (try have Hbz := Lib.hid (hk11.blk Hbz.out (HOS.out.ne Hbz.out (by decide))))
            have Hb7 := Lib.hid (hk11.blk Hb7.out (HOS.out.ne Hb7.out (by decide)))
            have HOJ := Lib.hid (HOJ.out.swap (E' := fun b => some b = (Value.slice (some ⟨gq, 0, none⟩) (kl + 1) cq).ownBlock ∨ b = g7) hk11 (fun b _ e => .inr (.inl e)) (fun b e => e.elim (fun e => by
             rcases hr11 with h | ⟨k, h, hk⟩
             · exact .inl (.inl (e.trans h))
             · rw [h] at e; injection e with e; exact .inr (by omega)) (fun e => .inl (.inr e))))
            have HKr := Lib.hid (show Keeps Nob wr w11 from HKr.out.trans hk11 (fun i hi e => by have := (HOS.out.lt i e.symm).1; omega))
            have HOS := Lib.hid (show OwnS w11 wr.heap.size (.slice (some ⟨gq, 0, none⟩) (kl + 1) cq) (ks ++ [key]) from by unfold OwnS; rw [List.length_append, List.map_append, Hln.out.1]; exact hown9)
            clear hown9 hk11 hr11 hf11 Hbk Hrow s4 s5
            have s4 := (blk_cell Hb7.out 4).trans rfl
            have s5 := (blk_cell Hb7.out 5).trans rfl
            refine wpList_nil ⟨⟨s4, s5⟩, ?_⟩
            refine treec_q (v := ?v1_3) (some 51) rfl rfl rfl ?q1_3 ?h1_3; (case q1_3 => (intro w' hS; obtain ⟨s1, s2⟩ := hS; first | (go_simp; done) | (go_simp; rfl))); (try simp only [PU])
            refine treec_e rfl rfl ?_
            have hrow := HOJ.out.row
            rw [Hln.out.2] at hrow
            have Hrow := Lib.hid hrow
            clear hrow
            go_must (refine ev_append rfl rfl Tryd.underlying23 info25b rfl (by decide) (base := wr.heap.size) rfl Hrow.out rfl (news := [.int .i64 0, .bool false, .int .i64 0, .string ByteArray.empty, .slice none 0 0, .slice none 0 0]) rfl (fun _ => ⟨_, rfl, World.news_of_block Hbz.out⟩) (by simp [Value.oneCell']) (by omega) (by decide) HKr.out.size ?_; intro v6 w12 hown6 hk12 hr12 hf12; obtain ⟨gv, cv, rfl⟩ := hf12 (by decide))
            (try simp only [PU])
            have HOJ2 := Lib.hid (HOJ.out.more (fun b e => e.elim (fun e => (HOS.out.lt b e.symm).2) (fun e => by rw [e]; exact blk_lt Hb7.out)) (by rw [Hln.out.2]; exact hown6) hk12 hr12)
            have HOS := Lib.hid (HOS.out.keep hk12 (fun q e h => HOJ.out.ne q h.symm (.inl e.symm)))
            have Hb7 := Lib.hid (hk12.blk Hb7.out (fun e => HOJ.out.ne g7 e.symm (.inr rfl)))
            have HKr := Lib.hid (show Keeps Nob wr w12 from HKr.out.trans hk12 (fun i hi e => by have := (row_lt HOJ.out.row i e.symm).1; omega))
            have HOJ := HOJ2
            clear hown6 hk12 hr12 hf12 Hbz Hrow s4 s5 HOJ2
            have s4 := (blk_cell Hb7.out 4).trans rfl
            have s5 := (blk_cell Hb7.out 5).trans rfl
            refine wpList_nil ⟨⟨s4, s5⟩, ?_⟩
            refine treec_f rfl rfl ?_
            go_must (refine ev_store (off := 4) (cs' := #[.int .i64 6, .bool b, .int .i64 n, .string t, .slice (some ⟨gq, 0, none⟩) (kl + 1) cq, .slice rA nv rc]) rfl rfl rfl rfl rfl rfl HI.out.2.2.1 HI.out.2.2.2 rfl Hb7.out (Nat.le_of_ble_eq_true rfl) rfl ?_; intro w13 hb13 hk13)
            (try simp only [PU])
            have HOS := Lib.hid (HOS.out.keep hk13 (fun q e h => HOS.out.ne Hb7.out (by decide) (by rw [e, h])))
            have HOJ := Lib.hid (HOJ.out.keep hk13 (fun b _ e => .inr (.inr e)))
            have Hb7 := Lib.hid hb13
            have HKr := Lib.hid (show Keeps Nob wr w13 from HKr.out.trans hk13 (fun i hi e => by have := Hg7.out; omega))
            clear hb13 hk13
            refine wpList_nil (then_normal ?_)
            refine treec_f rfl rfl ?_
            go_wp2_with fail
            refine treec_f rfl rfl ?_
            go_must (refine ev_store (off := 5) (cs' := #[.int .i64 6, .bool b, .int .i64 n, .string t, .slice (some ⟨gq, 0, none⟩) (kl + 1) cq, .slice (some ⟨gv, 0, none⟩) (nv + 1) cv]) rfl rfl rfl rfl rfl rfl HI.out.2.1.1 HI.out.2.1.2 rfl Hb7.out (Nat.le_of_ble_eq_true rfl) rfl ?_; intro w14 hb14 hk14)
            (try simp only [PU])
            have HOS := Lib.hid (HOS.out.keep hk14 (fun q e h => HOS.out.ne Hb7.out (by decide) (by rw [e, h])))
            have HOJ := Lib.hid (HOJ.out.keep hk14 (fun b _ e => .inr (.inr e)))
            have Hb7 := Lib.hid hb14
            have HKr := Lib.hid (show Keeps Nob wr w14 from HKr.out.trans hk14 (fun i hi e => by have := Hg7.out; omega))
            clear hb14 hk14
            refine wpList_nil (then_normal ?_)
            refine treec_nil ?_
         case' nb1_5 =>
          refine treec_e rfl rfl ?b1_7
          case' b1_7 =>
           go_must (refine ev_slice (cs := #[.int .i64 0, .bool false, .int .i64 0, .string ByteArray.empty, .slice none 0 0, .slice none 0 0]) (t := 25) (n := 1) (c := 1) rfl (by first | (go_simp; done) | (go_simp; rfl)) ?_; intro gz wz hgz hlz hbz hkz)
           (try simp only [PU])
           have Hbz := Lib.hid hbz
           (try have Hbk := Lib.hid (hkz.blk Hbk.out id))
           have Hb7 := Lib.hid (hkz.blk Hb7.out id)
           have HOS := Lib.hid (HOS.out.keep hkz (fun _ _ => id))
           have HOJ := Lib.hid (HOJ.out.keep hkz (fun _ _ e => e.elim))
           have HKr := Lib.hid (HKr.out.trans hkz (fun _ _ h => h))
           clear s4 s5
           have s4 := (blk_cell Hb7.out 4).trans rfl
           have s5 := (blk_cell Hb7.out 5).trans rfl
           clear hgz hlz hbz hkz
           refine wpList_nil ⟨⟨s4, s5⟩, ?_⟩
           refine treec_e rfl rfl ?_
           go_must (refine ev_slice (cs := #[.string key]) (t := 9) (n := 1) (c := 1) rfl (by first | (go_simp; done) | (go_simp; rfl)) ?_; intro gk wk hgk hlk hbk hkk)
           (try simp only [PU])
           have Hbk := Lib.hid hbk
           (try have Hbz := Lib.hid (hkk.blk Hbz.out id))
           have Hb7 := Lib.hid (hkk.blk Hb7.out id)
           have HOS := Lib.hid (HOS.out.keep hkk (fun _ _ => id))
           have HOJ := Lib.hid (HOJ.out.keep hkk (fun _ _ e => e.elim))
           have HKr := Lib.hid (HKr.out.trans hkk (fun _ _ h => h))
           clear s4 s5
           have s4 := (blk_cell Hb7.out 4).trans rfl
           have s5 := (blk_cell Hb7.out 5).trans rfl
           clear hgk hlk hbk hkk
           refine wpList_nil ⟨⟨s4, s5⟩, ?_⟩
           refine treec_e rfl rfl ?_
           have hrow := HOS.out
           unfold OwnS at hrow
           rw [Hln.out.1] at hrow
           have Hrow := Lib.hid hrow
           clear hrow
           go_must (refine ev_append rfl rfl Tryd.underlying22 info9b rfl (by decide) (base := wr.heap.size) rfl Hrow.out rfl (news := [Value.string key]) rfl (fun _ => ⟨_, rfl, World.news_of_block Hbk.out⟩) (by simp [Value.oneCell']) (by omega) (by decide) HKr.out.size ?_; intro v9 w11 hown9 hk11 hr11 hf11; obtain ⟨gq, cq, rfl⟩ := hf11 (by decide))
           (try simp only [PU])
           (try have Hbz := Lib.hid (hk11.blk Hbz.out (HOS.out.ne Hbz.out (by decide))))
           have Hb7 := Lib.hid (hk11.blk Hb7.out (HOS.out.ne Hb7.out (by decide)))
           have HOJ := Lib.hid (HOJ.out.swap (E' := fun b => some b = (Value.slice (some ⟨gq, 0, none⟩) (kl + 1) cq).ownBlock ∨ b = g7) hk11 (fun b _ e => .inr (.inl e)) (fun b e => e.elim (fun e => by
            rcases hr11 with h | ⟨k, h, hk⟩
            · exact .inl (.inl (e.trans h))
            · rw [h] at e; injection e with e; exact .inr (by omega)) (fun e => .inl (.inr e))))
           have HKr := Lib.hid (show Keeps Nob wr w11 from HKr.out.trans hk11 (fun i hi e => by have := (HOS.out.lt i e.symm).1; omega))
           have HOS := Lib.hid (show OwnS w11 wr.heap.size (.slice (some ⟨gq, 0, none⟩) (kl + 1) cq) (ks ++ [key]) from by unfold OwnS; rw [List.length_append, List.map_append, Hln.out.1]; exact hown9)
           clear hown9 hk11 hr11 hf11 Hbk Hrow s4 s5
           have s4 := (blk_cell Hb7.out 4).trans rfl
           have s5 := (blk_cell Hb7.out 5).trans rfl
           refine wpList_nil ⟨⟨s4, s5⟩, ?_⟩
           refine treec_q (v := ?v1_6) (some 51) rfl rfl rfl ?q1_6 ?h1_6; (case q1_6 => (intro w' hS; obtain ⟨s1, s2⟩ := hS; first | (go_simp; done) | (go_simp; rfl))); (try simp only [PU])
           refine treec_e rfl rfl ?_
           have hrow := HOJ.out.row
           rw [Hln.out.2] at hrow
           have Hrow := Lib.hid hrow
           clear hrow
           go_must (refine ev_append rfl rfl Tryd.underlying23 info25b rfl (by decide) (base := wr.heap.size) rfl Hrow.out rfl (news := [.int .i64 0, .bool false, .int .i64 0, .string ByteArray.empty, .slice none 0 0, .slice none 0 0]) rfl (fun _ => ⟨_, rfl, World.news_of_block Hbz.out⟩) (by simp [Value.oneCell']) (by omega) (by decide) HKr.out.size ?_; intro v6 w12 hown6 hk12 hr12 hf12; obtain ⟨gv, cv, rfl⟩ := hf12 (by decide))
           (try simp only [PU])
           have HOJ2 := Lib.hid (HOJ.out.more (fun b e => e.elim (fun e => (HOS.out.lt b e.symm).2) (fun e => by rw [e]; exact blk_lt Hb7.out)) (by rw [Hln.out.2]; exact hown6) hk12 hr12)
           have HOS := Lib.hid (HOS.out.keep hk12 (fun q e h => HOJ.out.ne q h.symm (.inl e.symm)))
           have Hb7 := Lib.hid (hk12.blk Hb7.out (fun e => HOJ.out.ne g7 e.symm (.inr rfl)))
           have HKr := Lib.hid (show Keeps Nob wr w12 from HKr.out.trans hk12 (fun i hi e => by have := (row_lt HOJ.out.row i e.symm).1; omega))
           have HOJ := HOJ2
           clear hown6 hk12 hr12 hf12 Hbz Hrow s4 s5 HOJ2
           have s4 := (blk_cell Hb7.out 4).trans rfl
           have s5 := (blk_cell Hb7.out 5).trans rfl
           refine wpList_nil ⟨⟨s4, s5⟩, ?_⟩
           refine treec_f rfl rfl ?_
           go_must (refine ev_store (off := 4) (cs' := #[.int .i64 6, .bool b, .int .i64 n, .string t, .slice (some ⟨gq, 0, none⟩) (kl + 1) cq, .slice rA nv rc]) rfl rfl rfl rfl rfl rfl HI.out.2.2.1 HI.out.2.2.2 rfl Hb7.out (Nat.le_of_ble_eq_true rfl) rfl ?_; intro w13 hb13 hk13)
           (try simp only [PU])
           have HOS := Lib.hid (HOS.out.keep hk13 (fun q e h => HOS.out.ne Hb7.out (by decide) (by rw [e, h])))
           have HOJ := Lib.hid (HOJ.out.keep hk13 (fun b _ e => .inr (.inr e)))
           have Hb7 := Lib.hid hb13
           have HKr := Lib.hid (show Keeps Nob wr w13 from HKr.out.trans hk13 (fun i hi e => by have := Hg7.out; omega))
           clear hb13 hk13
           refine wpList_nil (then_normal ?_)
           refine treec_f rfl rfl ?_
           go_wp2_with fail
           refine treec_f rfl rfl ?_
           go_must (refine ev_store (off := 5) (cs' := #[.int .i64 6, .bool b, .int .i64 n, .string t, .slice (some ⟨gq, 0, none⟩) (kl + 1) cq, .slice (some ⟨gv, 0, none⟩) (nv + 1) cv]) rfl rfl rfl rfl rfl rfl HI.out.2.1.1 HI.out.2.1.2 rfl Hb7.out (Nat.le_of_ble_eq_true rfl) rfl ?_; intro w14 hb14 hk14)
           (try simp only [PU])
           have HOS := Lib.hid (HOS.out.keep hk14 (fun q e h => HOS.out.ne Hb7.out (by decide) (by rw [e, h])))
           have HOJ := Lib.hid (HOJ.out.keep hk14 (fun b _ e => .inr (.inr e)))
           have Hb7 := Lib.hid hb14
           have HKr := Lib.hid (show Keeps Nob wr w14 from HKr.out.trans hk14 (fun i hi e => by have := Hg7.out; omega))
           clear hb14 hk14
           refine wpList_nil (then_normal ?_)
           refine treec_nil ?_
         all_goals
          go_wp2_with fail
          go_meet
          exact ⟨kl, ks ++ [key], vs ++ [zJ], some ⟨gq, 0, none⟩, some ⟨gv, 0, none⟩, kl + 1, nv + 1, cq, cv, X5, xs5 ++ z6, rfl, by have := Hfl.out; omega, by omega, by omega, Lib.hid ⟨by rw [List.length_append, Hln.out.1]; rfl, by rw [List.length_append, Hln.out.2]; rfl⟩, Lib.hid (by
           rw [← Hout.out, putOut_mk, Hq.out, List.set_append_right _ _ (by rw [Hln.out.2, Hfl.out]; exact Nat.le_refl _), Hln.out.2, Hfl.out, Nat.sub_self]
           rfl), Hb7, HOS, HOJ, HKr⟩
       · simp only [show idxI (some i) = (i : Int) from rfl]
         have hi := (idxK_some Hq.out).1
         rw [Hln.out.1] at hi
         have hii : ¬ (i : Int) < 0 := by omega
         go_wp2
         go_meet
         exact ⟨i, ks, vs, oA, rA, kl, nv, oc, rc, X5, xs5, rfl, by have := Hfl.out; omega, by have := Hkl.out; omega, by have := Hkl.out; omega, Hln, Lib.hid (by rw [← Hout.out]; show (match idxK key ks with | none => J.mk 6 b n t (ks ++ [key]) (vs ++ [x]) | some i => J.mk 6 b n t ks (vs.set i x)) = _; rw [Hq.out]), Hb7, HOS, HOJ, HKr⟩
      case rest =>
       obtain ⟨i, ks', vs', oA', rA', kl', nv', oc', rc', X', xs', rfl, hi, hnv', hkl', Hln', Hout', Hb7, HOS, HOJ, HKr⟩ := hcut
       have hii : (i : Int) < (nv' : Int) := by omega
       have hrow := HOJ.out.row
       rw [Hln'.out.2] at hrow
       obtain ⟨gr, rc2, cur, he, hgr, hcur, hfit, hset⟩ := row_set hrow hi
       injection he with he1 he2 he3
       subst he1; subst he3
       have Hcur := Lib.hid hcur
       have Hfit := Lib.hid hfit
       have Hset := Lib.hid hset
       have Hgr := Lib.hid hgr
       have HKd := Lib.hid (Keeps.refl Nob wc).drew
       have Hbx := Lib.hid (HKr.out.blk Hb2.out id)
       have c5 : wc.drew.cell? ⟨g7, 5, none⟩ = some (.slice (some ⟨gr, 0, none⟩) nv' rc') := (blk_cell (HKd.out.blk Hb7.out id) 5).trans rfl
       clear hcur hfit hset hgr hrow
       go_upto_region 15 with fail
       refine wp_region_tree (.q 0 (.q 1 (.q 2 (.br [3] (fun k => .br [4] (fun k => .q 5 (.br [6] (fun k => .done)))))))) (fun w' => w'.cell? ⟨g7, 5, none⟩ = some (.slice (some ⟨gr, 0, none⟩) nv' rc')) rfl (by kernel_rfl) (by kernel_rfl) (fun c a d v w h => by cases d <;> exact h) c5 ?_
       refine tq (some 53) ?_; (try simp only [PU])
       refine tq (some 54) ?_; (try simp only [PU])
       refine tq (some 55) ?_; (try simp only [PU])
       refine tree_e rfl rfl ?_
       have e0 := (blk_cell (HKd.out.blk Hbx.out id) 0).trans rfl
       have e1 := (blk_cell (HKd.out.blk Hbx.out id) 1).trans rfl
       have e2 := (blk_cell (HKd.out.blk Hbx.out id) 2).trans rfl
       have e3 := (blk_cell (HKd.out.blk Hbx.out id) 3).trans rfl
       have e4 := (blk_cell (HKd.out.blk Hbx.out id) 4).trans rfl
       have e5 := (blk_cell (HKd.out.blk Hbx.out id) 5).trans rfl
       go_wp2_with fail
       clear e0 e1 e2 e3 e4 e5
       (try refine ⟨c5, ?_⟩)
       refine tree_e rfl rfl ?_
       go_wp2_with (go_at_call 59; go_must (refine (own59 _ _ _ _ (((HX.out.after HK.out).after HKr.out).after HKd.out) Hsz.out.2.2.1).mono ?_; rintro e w8 ⟨⟨v8, rfl, ho8⟩, hk8⟩; have hv8 := ho8.val; obtain ⟨jk, jb, jn, jt, jks, jvs, jkv, jvv, hjj, rfl, hjk, hjv⟩ := hv8.open; obtain ⟨jA, jc, rfl, -⟩ := hjk; obtain ⟨jB, jd, ju, rfl, -⟩ := hjv))
       have HX8 := Lib.hid (show JX w8 (fun b => wc.heap.size ≤ b ∧ b < w8.heap.size) _ x from hv8)
       have HK8 := Lib.hid (show Keeps Nob wc w8 from HKd.out.trans hk8 (fun _ _ h => h))
       have c8 := (blk_cell (HK8.out.blk Hb7.out id) 5).trans rfl
       clear ho8 hv8 hk8 hjj c5
       generalize jks.length = jkl at *
       generalize jvs.length = jvl at *
       (try simp only [PU])
       refine ⟨c8, ?_⟩
       refine tq (some 58) ?_; (try simp only [PU])
       refine tree_e rfl rfl ?_
       go_must (refine ev_store (x := .agg #[.int .i64 jk, .bool jb, .int .i64 jn, .string jt, .slice jA jkl jc, .slice jB jvl jd]) (vs := [.int .i64 jk, .bool jb, .int .i64 jn, .string jt, .slice jA jkl jc, .slice jB jvl jd]) (off := i * 6) (cs' := List.toArray (cur.toList.take (i * 6) ++ ([Value.int .i64 jk, Value.bool jb, Value.int .i64 jn, Value.string jt, Value.slice jA jkl jc, Value.slice jB jvl jd] : List Value) ++ cur.toList.drop (i * 6 + 6))) rfl rfl rfl rfl rfl rfl HI.out.1.1 HI.out.1.2 rfl (HK8.out.blk Hcur.out id) Hfit.out rfl ?_; intro w9 hb9 hk9)
       (try simp only [PU])
       have hrow9 := Hset.out w9 [Value.int .i64 jk, Value.bool jb, Value.int .i64 jn, Value.string jt, Value.slice jA jkl jc, Value.slice jB jvl jd] rfl hb9
       have Hj9 := Lib.hid (HOJ.out.lay (by rw [Hln'.out.2]; exact hi) HK8.out HX8.out (fun b hb => hb) rfl hk9 (by rw [Hln'.out.2]; exact hrow9) HKr.out.size)
       have Hng := Lib.hid (show g7 ≠ gr ∧ (Value.slice oA' kl' oc').ownBlock ≠ some gr from ⟨fun e => HOJ.out.ne gr rfl (.inr e.symm), fun e => HOJ.out.ne gr rfl (.inl e.symm)⟩)
       have HO9 := Lib.hid ((HOS.out.keep HK8.out (fun _ _ => id)).keep hk9 (fun q e h => Hng.out.2 (by rw [e, h])))
       have HKr := Lib.hid (show Keeps Nob wr w9 from (HKr.out.trans HK8.out (fun _ _ h => h)).trans hk9 (fun q hq e => by have := Hgr.out; omega))
       have Hb9 := Lib.hid (hk9.blk (HK8.out.blk Hb7.out id) Hng.out.1)
       have HV9 := Lib.hid (show JX w9 (fun b => wr.heap.size ≤ b ∧ b < w9.heap.size) (.agg #[.int .i64 6, .bool b, .int .i64 n, .string t, .slice oA' kl' oc', .slice (some ⟨gr, 0, none⟩) nv' rc']) out from by
        rw [Hout'.out]
        refine JX.keep (M := Nob) (X := fun b => wr.heap.size ≤ b) ?_ (Keeps.refl Nob w9) (fun _ _ _ => id) (fun b h1 h2 => ⟨h2, h1⟩)
        exact JX.close HO9.out.strs (OwnJ.js ⟨_, _, Hj9.out⟩))
       clear hb9 hk9 hrow9
       have c8 := (blk_cell Hb9.out 5).trans rfl
       refine wpList_nil ⟨c8, ?_⟩
       refine tree_nil ?_
       clear c8
       (try clear c0 c1 c2 c3 c4 c5)
       have c0 := (blk_cell Hb9.out 0).trans rfl
       have c1 := (blk_cell Hb9.out 1).trans rfl
       have c2 := (blk_cell Hb9.out 2).trans rfl
       have c3 := (blk_cell Hb9.out 3).trans rfl
       have c4 := (blk_cell Hb9.out 4).trans rfl
       have c5 := (blk_cell Hb9.out 5).trans rfl
       by_cases hzo0 : zo = 0
       · subst hzo0
         go_wp2_with (first
          | (go_at_call 16; go_must (refine (check16 HV9.out (Tab.up (HT.out.keep (HK.out.trans HKr.out (fun _ _ h => h)).any) (HK.out.trans HKr.out (fun _ _ h => h)).size) Hso.out).mono ?_; rintro e w10 ⟨rfl, hk10⟩; rw [Hzo.out])
             have HKr := Lib.hid (HKr.out.trans hk10 (fun _ _ h => h))
             have Hb9 := Lib.hid (hk10.blk Hb9.out id)
             have HV9 := Lib.hid (HV9.out.keep (X' := fun b => wr.heap.size ≤ b ∧ b < w10.heap.size) hk10 (fun _ _ _ => id) (fun b hb h => ⟨h.1, Nat.lt_of_lt_of_le hb hk10.size⟩))
             clear hk10
             (try clear c0 c1 c2 c3 c4 c5)
             have c0 := (blk_cell Hb9.out 0).trans rfl
             have c1 := (blk_cell Hb9.out 1).trans rfl
             have c2 := (blk_cell Hb9.out 2).trans rfl
             have c3 := (blk_cell Hb9.out 3).trans rfl
             have c4 := (blk_cell Hb9.out 4).trans rfl
             have c5 := (blk_cell Hb9.out 5).trans rfl
             (try simp only [PU]))
          | ((with_reducible refine at_store (t := 25) (p := 6) rfl ?_); go_must (refine ev_store (cs' := #[.int .i64 6, .bool b, .int .i64 n, .string t, .slice oA' kl' oc', .slice (some ⟨gr, 0, none⟩) nv' rc']) rfl rfl rfl rfl rfl rfl HI.out.1.1 HI.out.1.2 rfl (HKr.out.blk Hb3.out id) (Nat.le_of_ble_eq_true rfl) rfl ?_; intro w11 hb11 hk11)
             have Hb9z := Lib.hid hb11
             have HV11 := Lib.hid (HV9.out.keep (X' := fun b => W.heap.size ≤ b ∧ b < w11.heap.size) hk11 (fun b _ hb e => by have h1 := hb.1; have h2 := Hgs.out; have h3 := Hwr.out; omega) (fun b hb h => ⟨Nat.le_trans HK.out.size h.1, Nat.lt_of_lt_of_le hb hk11.size⟩))
             have HK9 := Lib.hid (show Keeps Nob W w11 from (HK.out.trans HKr.out (fun _ _ h => h)).trans hk11 (fun i hi e => by have := Hgs.out; omega))
             clear hb11 hk11 c0 c1 c2 c3 c4 c5
             have d0 := (blk_cell Hb9z.out 0).trans rfl
             have d1 := (blk_cell Hb9z.out 1).trans rfl
             have d2 := (blk_cell Hb9z.out 2).trans rfl
             have d3 := (blk_cell Hb9z.out 3).trans rfl
             have d4 := (blk_cell Hb9z.out 4).trans rfl
             have d5 := (blk_cell Hb9z.out 5).trans rfl
             (try simp only [PU]))
         )
         refine bodyPost_ret (results_ct (x := .agg #[.int .i64 6, .bool b, .int .i64 n, .string t, .slice oA' kl' oc', .slice (some ⟨gr, 0, none⟩) nv' rc']) rfl _ _ rfl (by go_simp) rfl) rfl ?_
         rw [HR.out, if_neg (by simp), if_neg (by simp), if_neg (by simp), if_neg (by simp)]
         exact ⟨⟨_, rfl, HV11.out⟩, HK9.out⟩
       · have hzob : (zo == 0) = false := beq_eq_false_iff_ne.2 hzo0
         have Hzo0 := Lib.hid hzo0
         go_wp2_with (first
          | (go_at_call 16; go_must (refine (check16 HV9.out (Tab.up (HT.out.keep (HK.out.trans HKr.out (fun _ _ h => h)).any) (HK.out.trans HKr.out (fun _ _ h => h)).size) Hso.out).mono ?_; rintro e w10 ⟨rfl, hk10⟩; rw [Hzo.out])
             have HKr := Lib.hid (HKr.out.trans hk10 (fun _ _ h => h))
             have Hb9 := Lib.hid (hk10.blk Hb9.out id)
             have HV9 := Lib.hid (HV9.out.keep (X' := fun b => wr.heap.size ≤ b ∧ b < w10.heap.size) hk10 (fun _ _ _ => id) (fun b hb h => ⟨h.1, Nat.lt_of_lt_of_le hb hk10.size⟩))
             clear hk10
             (try clear c0 c1 c2 c3 c4 c5)
             have c0 := (blk_cell Hb9.out 0).trans rfl
             have c1 := (blk_cell Hb9.out 1).trans rfl
             have c2 := (blk_cell Hb9.out 2).trans rfl
             have c3 := (blk_cell Hb9.out 3).trans rfl
             have c4 := (blk_cell Hb9.out 4).trans rfl
             have c5 := (blk_cell Hb9.out 5).trans rfl
             (try simp only [PU]))
          | ((with_reducible refine at_store (t := 25) (p := 6) rfl ?_); go_must (refine ev_store (cs' := #[.int .i64 0, .bool false, .int .i64 0, .string ByteArray.empty, .slice none 0 0, .slice none 0 0]) rfl rfl rfl rfl rfl rfl HI.out.1.1 HI.out.1.2 rfl (HKr.out.blk Hb3.out id) (Nat.le_of_ble_eq_true rfl) rfl ?_; intro w9 hb9 hk9)
             have Hb9z := Lib.hid hb9
             have HK9 := Lib.hid (show Keeps Nob W w9 from (HK.out.trans HKr.out (fun _ _ h => h)).trans hk9 (fun i hi e => by have := Hgs.out; omega))
             clear hb9 hk9
             (try clear c0 c1 c2 c3 c4 c5)
             have d0 := (blk_cell Hb9z.out 0).trans rfl
             have d1 := (blk_cell Hb9z.out 1).trans rfl
             have d2 := (blk_cell Hb9z.out 2).trans rfl
             have d3 := (blk_cell Hb9z.out 3).trans rfl
             have d4 := (blk_cell Hb9z.out 4).trans rfl
             have d5 := (blk_cell Hb9z.out 5).trans rfl
             (try simp only [PU]))
         )
         refine bodyPost_ret (results_ct (x := .agg #[.int .i64 0, .bool false, .int .i64 0, .string ByteArray.empty, .slice none 0 0, .slice none 0 0]) rfl _ _ rfl (by go_simp) rfl) rfl ?_
         rw [HR.out, if_neg (by simp), if_neg (by simp), if_neg (by simp), if_pos Hzo0.out]
         exact ⟨⟨_, rfl, zval⟩, HK9.out⟩
    · have hk6b : (k == 6) = false := beq_eq_false_iff_ne.2 hk6
      have Hk6 := Lib.hid hk6
      go_wp2_with (first
       | ((with_reducible refine at_store (t := 25) (p := 6) rfl ?_); go_must (refine ev_store (cs' := #[.int .i64 0, .bool false, .int .i64 0, .string ByteArray.empty, .slice none 0 0, .slice none 0 0]) rfl rfl rfl rfl rfl rfl HI.out.1.1 HI.out.1.2 rfl (HKr.out.blk Hb3.out id) (Nat.le_of_ble_eq_true rfl) rfl ?_; intro w9 hb9 hk9)
          have Hb9z := Lib.hid hb9
          have HK9 := Lib.hid (show Keeps Nob W w9 from (HK.out.trans HKr.out (fun _ _ h => h)).trans hk9 (fun i hi e => by have := Hgs.out; omega))
          clear hb9 hk9
          (try clear c0 c1 c2 c3 c4 c5)
          have d0 := (blk_cell Hb9z.out 0).trans rfl
          have d1 := (blk_cell Hb9z.out 1).trans rfl
          have d2 := (blk_cell Hb9z.out 2).trans rfl
          have d3 := (blk_cell Hb9z.out 3).trans rfl
          have d4 := (blk_cell Hb9z.out 4).trans rfl
          have d5 := (blk_cell Hb9z.out 5).trans rfl
          (try simp only [PU]))
      )
      refine bodyPost_ret (results_ct (x := .agg #[.int .i64 0, .bool false, .int .i64 0, .string ByteArray.empty, .slice none 0 0, .slice none 0 0]) rfl _ _ rfl (by go_simp) rfl) rfl ?_
      rw [HR.out, if_neg (by simp), if_neg (by simp), if_pos Hk6.out]
      exact ⟨⟨_, rfl, zval⟩, HK9.out⟩
end Go.Proofs.WV

namespace Go.Proofs.KL
open Go.RowKit
section
variable {P : Program} {Q : Exit → Act → World → Prop} {S : World → Prop} {i : Nat} {l : List Oper} {o : Oper} {v : Value} {a : Act} {w : World}
theorem tqa {r : PT} (d : Option Tmp) (h : wpTree P l.toArray Q S r (a.put d v) w) (ho : l[i]? = some o := by rfl) (hd : o.dst = d := by rfl) (hw : Region.wanted o (yielded l.toArray a.tmps) = true := by rfl)
  (hr : ∀ w', S w' → (execOp a.eval o).run P w' = .ok (.value v) w' := by (intro w' hS; first | (go_simp; done) | (go_simp; rfl))) : wpTree P l.toArray Q S (.q i r) a w := tree_q d ho hd hw hr h
theorem tsa {r : PT} (d : Option Tmp) (h : wpTree P l.toArray Q S r (a.put d undef) w) (ho : l[i]? = some o := by rfl) (hd : o.dst = d := by rfl) (hw : Region.wanted o (yielded l.toArray a.tmps) = false := by rfl) : wpTree P l.toArray Q S (.q i r) a w := tree_skip d ho hd hw h
theorem cqa {r : PC} (d : Option Tmp) (h : wpTreeC P l.toArray Q S r (a.put d v) w) (ho : l[i]? = some o := by rfl) (hd : o.dst = d := by rfl) (hw : Region.wanted o (yielded l.toArray a.tmps) = true := by rfl)
  (hr : ∀ w', S w' → (execOp a.eval o).run P w' = .ok (.value v) w' := by (intro w' hS; first | (go_simp; done) | (go_simp; rfl))) : wpTreeC P l.toArray Q S (.q i r) a w := treec_q d ho hd hw hr h
theorem cfa {r : PC} (d : Option Tmp) (h : wpTreeC P l.toArray Q S r (a.put d v) w) (ho : l[i]? = some o := by rfl) (hd : o.dst = d := by rfl) (hw : Region.wanted o (yielded l.toArray a.tmps) = true := by rfl)
  (hr : ∀ w', (execOp a.eval o).run P w' = .ok (.value v) w' := by (intro w'; first | (go_simp; done) | (go_simp; rfl))) : wpTreeC P l.toArray Q S (.qf i r) a w := treec_qf d ho hd hw hr h
end
end Go.Proofs.KL

namespace Go.Proofs.WV
open Go.RowKit Go.Proofs.KL Go.Proofs.WM
set_option maxRecDepth 100000
set_option linter.unusedSimpArgs false
set_option linter.unusedVariables false

structure RowP (W : World) (lo : Nat) (v : Value) (acc : List J) (xs : List Value) (hi : Nat) : Prop where
 row : W.ownsRow lo 25 6 v acc.length xs
 val : ∀ i, i < acc.length → JX W (fun b => b < hi) (sixAt xs i) (acc.getD i default)
 le : hi ≤ lo
theorem RowP.keep {M : Nat → Prop} {W W' : World} {lo hi : Nat} {v : Value} {acc : List J} {xs : List Value} (h : RowP W lo v acc xs hi) (hk : Keeps M W W') (hM : ∀ b, b < W.heap.size → M b → lo ≤ b ∧ v.ownBlock ≠ some b) : RowP W' lo v acc xs hi :=
 ⟨row_keep h.row hk (fun k e hm => (hM k (row_lt h.row k e).2 hm).2 e), fun i hi => (h.val i hi).keep hk (fun b hb hl hm => by have := (hM b hb hm).1; have := h.le; omega) (fun _ _ h => h), h.le⟩
theorem RowP.js {W : World} {lo hi : Nat} {v : Value} {acc : List J} {xs : List Value} (h : RowP W lo v acc xs hi) : JsX W (fun b => b < hi ∨ lo ≤ b) v acc := by
 obtain ⟨A, c, rfl, hc⟩ := row_slice h.row
 refine ⟨A, c, fun i k => xs.getD (i * 6 + k) vz, rfl, hc, fun i hi => ?_, fun i hi => (h.val i hi).keep (Keeps.refl Nob W) (fun _ _ _ => id) (fun _ _ h => .inl h)⟩
 have hcell : ∀ k, k < 6 → ∃ g, A = some ⟨g, 0, none⟩ ∧ lo ≤ g ∧ W.cell? ⟨g, i * 6 + k, none⟩ = some (xs.getD (i * 6 + k) vz) := fun k hk => by
  obtain ⟨g, c', e, hl, hc⟩ := row_cell h.row (k := i * 6 + k) (by omega)
  injection e with e1
  exact ⟨g, e1, hl, hc⟩
 obtain ⟨g, e, hl, q0⟩ := hcell 0 (by omega)
 have hq : ∀ k, k < 6 → W.cell? ⟨g, i * 6 + k, none⟩ = some (xs.getD (i * 6 + k) vz) := fun k hk => by
  obtain ⟨g', e', _, hc⟩ := hcell k hk
  rw [e] at e'
  injection e' with e'
  injection e' with e'
  subst e'
  exact hc
 refine ⟨g, 0, e, .inr hl, ?_⟩
 rw [Nat.zero_add]
 exact ⟨⟨hq 0 (by omega), hq 1 (by omega), hq 2 (by omega)⟩, hq 3 (by omega), hq 4 (by omega), hq 5 (by omega)⟩
theorem RowP.push {W W2 : World} {lo hi : Nat} {v v' : Value} {acc : List J} {xs : List Value} {x0 x1 x2 x3 x4 x5 : Value} {x : J} (h : RowP W lo v acc xs hi) (hx : JX W (fun b => b < hi) (.agg #[x0, x1, x2, x3, x4, x5]) x) (hown : W2.ownsRow lo 25 6 v' (acc.length + 1) (xs ++ [x0, x1, x2, x3, x4, x5]))
  (hk : Keeps (fun k => some k = v.ownBlock) W W2) : RowP W2 lo v' (acc ++ [x]) (xs ++ [x0, x1, x2, x3, x4, x5]) hi := by
 have hn : ∀ b, b < W.heap.size → b < hi → ¬ some b = v.ownBlock := fun b _ hl e => by have := (row_lt h.row b e.symm).1; have := h.le; omega
 refine ⟨by rw [List.length_append]; exact hown, fun i hi => ?_, h.le⟩
 by_cases e : i < acc.length
 · rw [sixAt_append h.row.1 e, List.getD_eq_getElem?_getD, List.getElem?_append_left e, ← List.getD_eq_getElem?_getD]
   exact (h.val i e).keep hk hn (fun _ _ h => h)
 · have e2 : i = acc.length := by simp at hi; omega
   subst e2
   rw [sixAt_last h.row.1, List.getD_eq_getElem?_getD, List.getElem?_append_right (Nat.le_refl _), Nat.sub_self]
   exact hx.keep hk hn (fun _ _ h => h)
theorem RowP.lay {W W2 : World} {lo hi : Nat} {v : Value} {acc : List J} {xs : List Value} {x0 x1 x2 x3 x4 x5 : Value} {i g : Nat} {x : J} (h : RowP W lo v acc xs hi) (hil : i < acc.length) (hx : JX W (fun b => b < hi) (.agg #[x0, x1, x2, x3, x4, x5]) x)
  (hg : lo ≤ g) (hk : Keeps (· = g) W W2) (hrow : W2.ownsRow lo 25 6 v acc.length (setSix xs i [x0, x1, x2, x3, x4, x5])) : RowP W2 lo v (acc.set i x) (setSix xs i [x0, x1, x2, x3, x4, x5]) hi := by
 have hle := h.le
 refine ⟨by rw [List.length_set]; exact hrow, fun p hp => ?_, hle⟩
 rw [List.length_set] at hp
 by_cases e : p = i
 · subst e
   rw [setSix_same h.row.1 hil, List.getD_eq_getElem?_getD, List.getElem?_set_self hil, Option.getD_some]
   exact hx.keep hk (fun b _ hb e => by omega) (fun _ _ h => h)
 · rw [setSix_other h.row.1 hil rfl e, List.getD_eq_getElem?_getD, List.getElem?_set_ne (Ne.symm e), ← List.getD_eq_getElem?_getD]
   exact (h.val p hp).keep hk (fun b _ hb e => by omega) (fun _ _ h => h)
theorem row_own_ne {W : World} {lo lo2 : Nat} {kv vv : Value} {ks : List ByteArray} {n : Nat} {xs : List Value} (h1 : OwnS W lo kv ks) (h2 : W.ownsRow lo2 25 6 vv n xs) : ∀ b, some b = kv.ownBlock → vv.ownBlock ≠ some b := fun b e e2 => by
 rcases h1.2 with ⟨rfl, _⟩ | ⟨g', cap, cur, rfl, hb, hg', _⟩
 · cases e
 · simp only [Value.ownBlock, Option.some.injEq] at e
   subst e
   exact row_ne h2 hg' (by decide) e2.symm
theorem own_row_ne {W : World} {lo lo2 : Nat} {kv vv : Value} {ks : List ByteArray} {n : Nat} {xs : List Value} (h1 : OwnS W lo kv ks) (h2 : W.ownsRow lo2 25 6 vv n xs) : ∀ b, kv.ownBlock = some b → some b = vv.ownBlock → False := fun b e e2 => row_own_ne h1 h2 b e.symm e2.symm
theorem formed_table {b : Bool} {n : Int} {t : ByteArray} {ks : List ByteArray} {vs : List J} (h : formedJ (.mk 6 b n t ks vs) = true) : b = false ∧ n = 0 ∧ t = ByteArray.empty := by
 unfold formedJ at h
 simp only [fineJ, Bool.and_eq_true, Bool.or_eq_true, decide_eq_true_eq, Bool.not_eq_true', decide_eq_false_iff_not] at h
 obtain ⟨⟨⟨⟨⟨⟨⟨⟨⟨⟨h1, h2⟩, hb⟩, hn⟩, ht⟩, hks⟩, hvs⟩, hr⟩, hlen⟩, hnd⟩, hfl⟩ := h
 refine ⟨?_, ?_, ?_⟩
 · rcases hb with h | h
   · exact h
   · cases h
 · rcases hn with h | h
   · exact h
   · cases h
 · rcases ht with h | h
   · obtain ⟨d⟩ := t
     have h' : d = #[] := by simpa [bl] using h
     rw [h']
     rfl
   · cases h

set_option maxHeartbeats 8000000 in
theorem put33 {W : World} {X Y : Nat → Prop} {v xv : Value} {j x : J} {key : ByteArray} (h : JX W X v j) (hx : JX W Y xv x) (ht : Tab W W.heap.size) (hs : sizeJ j + sizeJ x + key.size ≤ 900000000) : Calls Tryd.prog 33 #[v, .string key, xv] W (GetRef W (putJ j key x)) := by
 obtain ⟨k, b, n, t, ks, vs, kv, vv, rfl, rfl, hks, hvs⟩ := h.open
 obtain ⟨kA, kc, rfl, -⟩ := id hks
 obtain ⟨vA, vc, u, rfl, -, hA, hv⟩ := id hvs
 obtain ⟨xk, xb, xn, xt, xks, xvs, xkv, xvv, hxe, rfl, hxk, hxv⟩ := hx.open
 obtain ⟨xA, xkc, rfl, -⟩ := id hxk
 obtain ⟨xB, xvc, xu, rfl, -, -, -⟩ := id hxv
 obtain ⟨kl, hkn⟩ : ∃ x, ks.length = x := ⟨_, rfl⟩
 obtain ⟨nv, hnv⟩ : ∃ x, vs.length = x := ⟨_, rfl⟩
 obtain ⟨xkl, hxkn⟩ : ∃ x, xks.length = x := ⟨_, rfl⟩
 obtain ⟨xvl, hxvn⟩ : ∃ x, xvs.length = x := ⟨_, rfl⟩
 have hkl : kl ≤ 900000000 ∧ nv ≤ 900000000 := by
  have := size_len vs
  have hs2 : sizeJ (.mk k b n t ks vs) ≤ 900000000 := by omega
  unfold sizeJ at hs2
  omega
 have Hkl := Lib.hid hkl
 have Hln := Lib.hid (And.intro hkn hnv)
 obtain ⟨j0, hj0⟩ : ∃ j0, J.mk k b n t ks vs = j0 := ⟨_, rfl⟩
 obtain ⟨out, hout⟩ : ∃ o, putOut key x (J.mk k b n t ks vs) = o := ⟨_, rfl⟩
 obtain ⟨z, hz⟩ : ∃ z, checkJ (J.mk k b n t ks vs) = z := ⟨_, rfl⟩
 obtain ⟨zx, hzx⟩ : ∃ z, checkJ x = z := ⟨_, rfl⟩
 obtain ⟨zo, hzo⟩ : ∃ z, checkJ out = z := ⟨_, rfl⟩
 obtain ⟨R, hR⟩ : ∃ R, putJ (J.mk k b n t ks vs) key x = R := ⟨_, rfl⟩
 have HR := Lib.hid (show R = if z ≠ 0 then (zJ, z) else if zx ≠ 0 then (zJ, zx) else if k ≠ 6 then (zJ, 2) else if zo ≠ 0 then (zJ, 3) else (out, 0) by rw [← hR, putJ_if, hz, hzx, hout, hzo]; rfl)
 have Hz := Lib.hid hz
 have Hzx := Lib.hid hzx
 have Hzo := Lib.hid hzo
 have Hout := Lib.hid hout
 have Hso := Lib.hid (show sizeJ out ≤ 10000000000 by have := putOut_size key x (J.mk k b n t ks vs); rw [hout] at this; omega)
 have Hsz := Lib.hid (show sizeJ (J.mk k b n t ks vs) ≤ 1000000000 ∧ sizeJ (J.mk k b n t ks vs) ≤ 10000000000 ∧ sizeJ x ≤ 1000000000 ∧ sizeJ x ≤ 10000000000 by omega)
 rw [hR]
 rw [hkn] at h ⊢
 rw [hnv] at h ⊢
 rw [hxkn] at hx ⊢
 rw [hxvn] at hx ⊢
 have HV := Lib.hid h.low
 have HX := Lib.hid hx.low
 have HT := Lib.hid ht
 obtain ⟨i25, hi25, hs25⟩ := info25
 obtain ⟨i23, hi23, hs23⟩ := info23
 obtain ⟨i22, hi22, hs22⟩ := info22
 have HI := Lib.hid (And.intro (And.intro hi25 hs25) (And.intro (And.intro hi23 hs23) (And.intro hi22 hs22)))
 have HA := Lib.hid (show ∀ i, i < nv → ∃ b o, vA = some ⟨b, o, none⟩ ∧ b < W.heap.size ∧ Six W b (o + i * 6) (u i 0) (u i 1) (u i 2) (u i 3) (u i 4) (u i 5) from fun i hi => by
  obtain ⟨b, o, e, _, h6⟩ := hA i (by rw [hnv]; exact hi)
  exact ⟨b, o, e, h6.lt, h6⟩)
 have HVu := Lib.hid (show ∀ i, i < nv → JX W (fun b => b < W.heap.size) (.agg #[u i 0, u i 1, u i 2, u i 3, u i 4, u i 5]) (vs.getD i default) from fun i hi => (hv i (by rw [hnv]; exact hi)).low)
 have HKs := Lib.hid (show StrsX W (fun b => b < W.heap.size) (.slice kA kl kc) ks from by have h := hks.keep (X' := fun b => b < W.heap.size) (Keeps.refl Nob W) (fun _ _ _ => id) (fun b hb _ => hb); rw [hkn] at h; exact h)
 clear hA hv hks hvs hxk hxv h hx ht hs hkl hkn hnv hxkn hxvn hj0 hout hz hzx hzo hR hi25 hs25 hi23 hs23 hi22 hs22 hxe
 go_enter Tryd.func33, Tryd.ntmps33
 go_upto_region 1 with (first
  | ((with_reducible refine at_dst (N := 3) rfl ?_); go_must (refine ev_box (cs := #[.int .i64 k, .bool b, .int .i64 n, .string t, .slice kA kl kc, .slice vA nv vc]) rfl rfl rfl ?_; intro g1 w1 hg1 hl1 hb1 hk1)
     have Hb1 := Lib.hid hb1
     have Hg1 := Lib.hid (And.intro hg1 hl1)
     have HK := Lib.hid hk1
     clear hg1 hl1 hb1 hk1
     (try simp only [PU]))
  | ((with_reducible refine at_dst (N := 5) rfl ?_); go_must (refine ev_box (cs := #[.int .i64 xk, .bool xb, .int .i64 xn, .string xt, .slice xA xkl xkc, .slice xB xvl xvc]) rfl rfl rfl ?_; intro g2 w2 hg2 hl2 hb2 hk2)
     have Hb1 := Lib.hid (hk2.blk Hb1.out id)
     have Hb2 := Lib.hid hb2
     have Hg2 := Lib.hid (show W.heap.size ≤ g1 ∧ g1 < g2 ∧ g2 < w2.heap.size from ⟨Hg1.out.1, Nat.lt_of_lt_of_le Hg1.out.2 hg2, hl2⟩)
     have HK := Lib.hid (HK.out.trans hk2 (fun _ _ h => h))
     clear hg2 hl2 hb2 hk2 Hg1
     (try simp only [PU]))
  | ((with_reducible refine at_dst (N := 6) rfl ?_); go_must (refine ev_alloc rfl rfl zero25 rfl ?_; intro g3 w3 hg3 hl3 hb3 hk3)
     have Hb1 := Lib.hid (hk3.blk Hb1.out id)
     have Hb2 := Lib.hid (hk3.blk Hb2.out id)
     have Hb3 := Lib.hid hb3
     have Hgs := Lib.hid (show W.heap.size ≤ g1 ∧ g1 < g2 ∧ g2 < g3 ∧ g3 < w3.heap.size from ⟨Hg2.out.1, Hg2.out.2.1, Nat.lt_of_lt_of_le Hg2.out.2.2 hg3, hl3⟩)
     have HK := Lib.hid (HK.out.trans hk3 (fun _ _ h => h))
     clear hg3 hl3 hb3 hk3 Hg2
     (try simp only [PU]))
 )
 have HKr := Lib.hid (Keeps.refl Nob w3)
 (try clear c0 c1 c2 c3 c4 c5)
 have c0 := (blk_cell Hb1.out 0).trans rfl
 have c1 := (blk_cell Hb1.out 1).trans rfl
 have c2 := (blk_cell Hb1.out 2).trans rfl
 have c3 := (blk_cell Hb1.out 3).trans rfl
 have c4 := (blk_cell Hb1.out 4).trans rfl
 have c5 := (blk_cell Hb1.out 5).trans rfl
 go_upto_if 15 with (first
  | (go_at_call 14; go_must (refine (check14 ((HV.out.after HK.out).after HKr.out) (Tab.up (HT.out.keep (HK.out.trans HKr.out (fun _ _ h => h)).any) (HK.out.trans HKr.out (fun _ _ h => h)).size) Hsz.out.2.1).mono ?_; rintro e w10 ⟨rfl, hk10⟩; rw [Hz.out])
     have HKr := Lib.hid (HKr.out.trans hk10 (fun _ _ h => h))
     clear hk10 c0 c1 c2 c3 c4 c5
     (try simp only [PU]))
 )
 by_cases hz0 : z = 0
 · subst hz0
   have Hb2c := Lib.hid (HKr.out.blk Hb2.out id)
   go_upto_region 4 with fail
   (try clear c0 c1 c2 c3 c4 c5)
   have c0 := (blk_cell Hb2c.out 0).trans rfl
   have c1 := (blk_cell Hb2c.out 1).trans rfl
   have c2 := (blk_cell Hb2c.out 2).trans rfl
   have c3 := (blk_cell Hb2c.out 3).trans rfl
   have c4 := (blk_cell Hb2c.out 4).trans rfl
   have c5 := (blk_cell Hb2c.out 5).trans rfl
   go_upto_if 21 with (first
    | (go_at_call 14; go_must (refine (check14 ((HX.out.after HK.out).after HKr.out) (Tab.up (HT.out.keep (HK.out.trans HKr.out (fun _ _ h => h)).any) (HK.out.trans HKr.out (fun _ _ h => h)).size) Hsz.out.2.2.2).mono ?_; rintro e w10 ⟨rfl, hk10⟩; rw [Hzx.out])
       have HKr := Lib.hid (HKr.out.trans hk10 (fun _ _ h => h))
       clear hk10 c0 c1 c2 c3 c4 c5
       (try simp only [PU]))
   )
   by_cases hzx0 : zx = 0
   · subst hzx0
     clear Hb2c
     have Hb1c := Lib.hid (HKr.out.blk Hb1.out id)
     go_upto_region 7 with fail
     (try clear c0 c1 c2 c3 c4 c5)
     have c0 := (blk_cell Hb1c.out 0).trans rfl
     have c1 := (blk_cell Hb1c.out 1).trans rfl
     have c2 := (blk_cell Hb1c.out 2).trans rfl
     have c3 := (blk_cell Hb1c.out 3).trans rfl
     have c4 := (blk_cell Hb1c.out 4).trans rfl
     have c5 := (blk_cell Hb1c.out 5).trans rfl
     by_cases hk6 : k = 6
     · have Hfl := Lib.hid (show kl = nv by rw [← Hln.out.1, ← Hln.out.2]; exact formed_len (check_formed Hz.out) hk6)
       subst hk6
       obtain ⟨rfl, rfl, rfl⟩ := formed_table (check_formed Hz.out)
       have HR4 := Lib.hid (show out = match idxK key ks with | none => J.mk 6 false 0 ByteArray.empty (ks ++ [key]) (vs ++ [x]) | some i => J.mk 6 false 0 ByteArray.empty ks (vs.set i x) from by rw [← Hout.out]; rfl)
       have hkl9 := Hkl.out
       go_upto_region 9 with fail
       clear c0 c1 c2 c3 c4 c5 Hb1c
       go_cut [10] (fun p wx => ∃ (g : Nat) (oA rA : Option Addr) (oc rc : Nat) (xs : List Value), p = .pointer (some ⟨g, 0, none⟩) ∧ Hid (w3.heap.size ≤ g ∧ (Value.slice rA nv rc).ownBlock ≠ some g) ∧ Hid (wx.heap[g]? = some (.cells #[.int .i64 6, .bool false, .int .i64 0, .string ByteArray.empty, .slice oA kl oc, .slice rA nv rc] 25 (0, 0))) ∧ Hid (OwnS wx w3.heap.size (.slice oA kl oc) ks) ∧ Hid (RowP wx w3.heap.size (.slice rA nv rc) vs xs W.heap.size) ∧ Hid (Keeps Nob w3 wx))
       case first =>
        have HKr := Lib.hid (HKr.out.trans (Keeps.refl Nob _).drew (fun _ _ h => h))
        have s4 := (blk_cell (HKr.out.blk Hb1.out id) 4).trans rfl
        have s5 := (blk_cell (HKr.out.blk Hb1.out id) 5).trans rfl
        refine wp_region_tree (.q 1 (.q 2 (.q 5 (.q 6 (.br [0, 4, 9] (fun k => bif Nat.beq k 0 then .br [3, 4, 9] (fun k => bif Nat.beq k 3 then .br [4, 9] (fun k => bif Nat.beq k 4 then .br [7, 9] (fun k => bif Nat.beq k 7 then .q 8 (.br [9] (fun k => .br [10] (fun k => .done))) else .br [7] (fun k => .q 8 (.br [10] (fun k => .done)))) else .br [4] (fun k => .br [7] (fun k => .q 8 (.br [10] (fun k => .done))))) else bif Nat.beq k 4 then .br [3, 9] (fun k => bif Nat.beq k 3 then .br [7, 9] (fun k => bif Nat.beq k 7 then .q 8 (.br [9] (fun k => .br [10] (fun k => .done))) else .br [7] (fun k => .q 8 (.br [10] (fun k => .done)))) else .br [3] (fun k => .br [7] (fun k => .q 8 (.br [10] (fun k => .done))))) else .br [3, 4] (fun k => bif Nat.beq k 3 then .br [4] (fun k => .br [7] (fun k => .q 8 (.br [10] (fun k => .done)))) else .br [3] (fun k => .br [7] (fun k => .q 8 (.br [10] (fun k => .done)))))) else bif Nat.beq k 4 then .br [0, 9] (fun k => bif Nat.beq k 0 then .br [3, 9] (fun k => bif Nat.beq k 3 then .br [7, 9] (fun k => bif Nat.beq k 7 then .q 8 (.br [9] (fun k => .br [10] (fun k => .done))) else .br [7] (fun k => .q 8 (.br [10] (fun k => .done)))) else .br [3] (fun k => .br [7] (fun k => .q 8 (.br [10] (fun k => .done))))) else .br [0] (fun k => .br [3] (fun k => .br [7] (fun k => .q 8 (.br [10] (fun k => .done)))))) else .br [0, 4] (fun k => bif Nat.beq k 0 then .br [3, 4] (fun k => bif Nat.beq k 3 then .br [4] (fun k => .br [7] (fun k => .q 8 (.br [10] (fun k => .done)))) else .br [3] (fun k => .br [7] (fun k => .q 8 (.br [10] (fun k => .done))))) else .br [0] (fun k => .br [3] (fun k => .br [7] (fun k => .q 8 (.br [10] (fun k => .done)))))))))))) (fun w' => w'.cell? ⟨g1, 4, none⟩ = some (.slice kA kl kc) ∧ w'.cell? ⟨g1, 5, none⟩ = some (.slice vA nv vc)) rfl (by kernel_rfl) (by kernel_rfl) (fun c a d v w h => by cases d <;> exact h) ⟨s4, s5⟩ ?_
        repeat' (first
         | (refine tqa _ ?_; (try simp only [PU]))
         | (refine tsa _ ?_; (try simp only [PU]))
         | refine tree_e rfl rfl ?_
         | refine tree_b rfl rfl ?_ ?_
         | refine tree_nil ?_
         | ((with_reducible refine at_dst (N := 28) rfl ?_); go_must (refine ev_slice (cs := #[]) (t := 9) (n := 0) (c := 0) rfl (by first | (go_simp; done) | (go_simp; rfl)) ?_; intro gk wk hgk hlk hbk hkk)
            (try simp only [PU])
            have Hgk := Lib.hid (show w3.heap.size ≤ gk from Nat.le_trans HKr.out.size hgk)
            (try have Hbk := Lib.hid (Keeps.blk hkk Hbk.out id))
            (try have Hbv := Lib.hid (Keeps.blk hkk Hbv.out id))
            (try have Hba := Lib.hid (Keeps.blk hkk Hba.out id))
            (try have HOS := Lib.hid (OwnS.keep HOS.out hkk (fun _ _ => id)))
            (try have HRP := Lib.hid (RowP.keep HRP.out hkk (fun _ _ e => e.elim)))
            have HKr := Lib.hid (HKr.out.trans hkk (fun _ _ h => h))
            clear s4 s5
            have s4 := (blk_cell (HKr.out.blk Hb1.out id) 4).trans rfl
            have s5 := (blk_cell (HKr.out.blk Hb1.out id) 5).trans rfl
            have Hbk := Lib.hid hbk
            clear hgk hlk hbk hkk
            refine wpList_nil ⟨⟨s4, s5⟩, ?_⟩)
         | ((with_reducible refine at_dst (N := 32) rfl ?_); go_must (refine ev_slice (cs := #[]) (t := 25) (n := 0) (c := 0) rfl (by first | (go_simp; done) | (go_simp; rfl)) ?_; intro gv wv hgk hlk hbk hkk)
            (try simp only [PU])
            have Hgv := Lib.hid (show w3.heap.size ≤ gv from Nat.le_trans HKr.out.size hgk)
            (try have Hga := Lib.hid (show ¬ ga = gv from fun e => by have h1 := blk_lt Hba.out; omega))
            (try have Hbk := Lib.hid (Keeps.blk hkk Hbk.out id))
            (try have Hbv := Lib.hid (Keeps.blk hkk Hbv.out id))
            (try have Hba := Lib.hid (Keeps.blk hkk Hba.out id))
            (try have HOS := Lib.hid (OwnS.keep HOS.out hkk (fun _ _ => id)))
            (try have HRP := Lib.hid (RowP.keep HRP.out hkk (fun _ _ e => e.elim)))
            have HKr := Lib.hid (HKr.out.trans hkk (fun _ _ h => h))
            clear s4 s5
            have s4 := (blk_cell (HKr.out.blk Hb1.out id) 4).trans rfl
            have s5 := (blk_cell (HKr.out.blk Hb1.out id) 5).trans rfl
            have Hbv := Lib.hid hbk
            clear hgk hlk hbk hkk
            refine wpList_nil ⟨⟨s4, s5⟩, ?_⟩)
         | ((with_reducible refine at_dst (N := 10) rfl ?_); go_must (refine ev_alloc rfl rfl zero25 rfl ?_; intro ga wa hgk hlk hbk hkk)
            (try simp only [PU])
            have Hga0 := Lib.hid (show w3.heap.size ≤ ga from Nat.le_trans HKr.out.size hgk)
            (try have Hga := Lib.hid (show ¬ ga = gv from fun e => by have h1 := blk_lt Hbv.out; omega))
            (try have Hgr := Lib.hid (show (Value.slice rA nv rc).ownBlock ≠ some ga from fun e => by have h1 := (row_lt HRP.out.row ga e).2; omega))
            (try have Hbk := Lib.hid (Keeps.blk hkk Hbk.out id))
            (try have Hbv := Lib.hid (Keeps.blk hkk Hbv.out id))
            (try have Hba := Lib.hid (Keeps.blk hkk Hba.out id))
            (try have HOS := Lib.hid (OwnS.keep HOS.out hkk (fun _ _ => id)))
            (try have HRP := Lib.hid (RowP.keep HRP.out hkk (fun _ _ e => e.elim)))
            have HKr := Lib.hid (HKr.out.trans hkk (fun _ _ h => h))
            clear s4 s5
            have s4 := (blk_cell (HKr.out.blk Hb1.out id) 4).trans rfl
            have s5 := (blk_cell (HKr.out.blk Hb1.out id) 5).trans rfl
            have Hba := Lib.hid hbk
            clear hgk hlk hbk hkk
            refine wpList_nil ⟨⟨s4, s5⟩, ?_⟩)
         | ((with_reducible refine at_dst (N := 31) rfl ?_); go_must (refine ev_append rfl rfl Tryd.underlying22 info9b rfl (by decide) (base := w3.heap.size) (v := .slice (some ⟨gk, 0, none⟩) 0 0) (n := 0) (xs := []) rfl ⟨rfl, .inr ⟨gk, 0, #[], rfl, Hgk.out, Hbk.out, Nat.zero_le _, by decide, rfl, rfl⟩⟩ rfl (news := ks.map Value.string) (by rw [List.length_map, Nat.mul_one]; exact Hln.out.1) (strs_news ((HKs.out.keep (X' := fun _ => True) (HK.out.trans HKr.out (fun _ _ h => h)) (fun _ _ _ => id) (fun _ _ _ => trivial)))) (fun u hu => by obtain ⟨k, -, rfl⟩ := List.mem_map.1 hu; rfl) (by omega) (by decide) HKr.out.size ?_; intro v9 w11 hown9 hk11 hr11 hf11)
            have hos : OwnS w11 w3.heap.size v9 ks := by have h := hown9; rw [Nat.zero_add, ← Hln.out.1] at h; exact h
            obtain ⟨oA, oc, hv9, -⟩ := hos.slice
            rw [Hln.out.1] at hv9
            subst hv9
            (try simp only [PU])
            (try have Hbv := Lib.hid (hk11.blk Hbv.out (fun e : some gv = some gk => by have e' := Option.some.inj e; subst e'; have h1 := Hbv.out; rw [Hbk.out] at h1; injection h1 with h1; injection h1 with _ h1; cases h1)))
            (try have HRP := Lib.hid (HRP.out.keep hk11 (fun b _ e => ⟨by have e' : b = gk := Option.some.inj e; have := Hgk.out; omega, fun e2 => row_ne HRP.out.row Hbk.out (by decide) ((show some gk = some b from e.symm).trans e2.symm)⟩)))
            (try have Hba := Lib.hid (hk11.blk Hba.out (fun e : some ga = some gk => by have e' := Option.some.inj e; subst e'; have h1 := Hba.out; rw [Hbk.out] at h1; injection h1 with h1; injection h1 with _ h1; cases h1)))
            have HOS := Lib.hid hos
            have HKr := Lib.hid (show Keeps Nob w3 w11 from HKr.out.trans hk11 (fun i hi e => by have e' : i = gk := Option.some.inj e; have := Hgk.out; omega))
            clear hown9 hk11 hr11 hf11 hos Hbk s4 s5
            have s4 := (blk_cell (HKr.out.blk Hb1.out id) 4).trans rfl
            have s5 := (blk_cell (HKr.out.blk Hb1.out id) 5).trans rfl
            refine wpList_nil ⟨⟨s4, s5⟩, ?_⟩)
         | ((with_reducible refine at_dst (N := 35) rfl ?_); go_must (refine ev_append rfl rfl Tryd.underlying23 info25b rfl (by decide) (base := w3.heap.size) (v := .slice (some ⟨gv, 0, none⟩) 0 0) (n := 0) (xs := []) rfl ⟨rfl, .inr ⟨gv, 0, #[], rfl, Hgv.out, Hbv.out, Nat.zero_le _, by decide, rfl, rfl⟩⟩ rfl (news := flat6 u nv) (flat6_len u nv) (flat6_news (X := fun b => b < W.heap.size) (fun i hi => by obtain ⟨b, o, e, hb, h6⟩ := HA.out i hi; exact ⟨b, o, e, hb, h6.keep (HK.out.trans HKr.out (fun _ _ h => h)) id⟩)) (flat6_one HVu.out) (by omega) (by decide) HKr.out.size ?_; intro v6 w12 hown6 hk12 hr12 hf12)
            have hrow : w12.ownsRow w3.heap.size 25 6 v6 nv (flat6 u nv) := by have h := hown6; rw [Nat.zero_add] at h; exact h
            obtain ⟨rA, rc, hv6, -⟩ := row_slice hrow
            subst hv6
            (try simp only [PU])
            have hrp : RowP w12 w3.heap.size (.slice rA nv rc) vs (flat6 u nv) W.heap.size := ⟨by rw [Hln.out.2]; exact hrow, fun i hi => by
             rw [Hln.out.2] at hi
             rw [flat6_six u hi]
             exact ((HVu.out i hi).after (HK.out.trans HKr.out (fun _ _ h => h))).keep hk12 (fun b _ hb e => by have e' : b = gv := Option.some.inj e; have h1 := Hgv.out; have h2 := HK.out.size; omega) (fun b _ hb => hb), HK.out.size⟩
            have HRP := Lib.hid hrp
            (try have HOS := Lib.hid (HOS.out.keep hk12 (fun q e h => HOS.out.ne Hbv.out (by decide) (by rw [e]; exact h.symm))))
            (try have Hgr := Lib.hid (show (Value.slice rA nv rc).ownBlock ≠ some ga from fun e => by
              rcases hr12 with h | ⟨k, h, hk⟩
              · exact Hga.out (Option.some.inj (e.symm.trans h))
              · rw [h] at e; injection e with e; have h1 := blk_lt Hba.out; omega))
            (try have Hba := Lib.hid (hk12.blk Hba.out (fun e : some ga = some gv => Hga.out (Option.some.inj e))))
            have HKr := Lib.hid (show Keeps Nob w3 w12 from HKr.out.trans hk12 (fun i hi e => by have e' : i = gv := Option.some.inj e; have := Hgv.out; omega))
            clear hown6 hk12 hr12 hf12 hrow hrp Hbv s4 s5
            have s4 := (blk_cell (HKr.out.blk Hb1.out id) 4).trans rfl
            have s5 := (blk_cell (HKr.out.blk Hb1.out id) 5).trans rfl
            refine wpList_nil ⟨⟨s4, s5⟩, ?_⟩)
         | ((with_reducible refine at_store (t := 25) rfl ?_); go_must (refine ev_store (cs' := #[.int .i64 6, .bool false, .int .i64 0, .string ByteArray.empty, .slice oA kl oc, .slice rA nv rc]) rfl rfl rfl rfl rfl rfl HI.out.1.1 HI.out.1.2 rfl Hba.out (Nat.le_of_ble_eq_true rfl) rfl ?_; intro w13 hb13 hk13)
            (try simp only [PU])
            have HOS := Lib.hid (HOS.out.keep hk13 (fun q e h => HOS.out.ne Hba.out (by decide) (by rw [e, h])))
            have HRP := Lib.hid (HRP.out.keep hk13 (fun b _ e => ⟨by have := Hga0.out; omega, fun e2 => Hgr.out (by rw [e2, e])⟩))
            have HKr := Lib.hid (show Keeps Nob w3 w13 from HKr.out.trans hk13 (fun i hi e => by have := Hga0.out; omega))
            have Hba := Lib.hid hb13
            clear hb13 hk13 s4 s5
            have s4 := (blk_cell (HKr.out.blk Hb1.out id) 4).trans rfl
            have s5 := (blk_cell (HKr.out.blk Hb1.out id) 5).trans rfl
            refine wpList_nil ⟨⟨s4, s5⟩, ?_⟩)
        )
        all_goals
         go_wp2_with fail
         go_meet
         exact ⟨ga, oA, rA, oc, rc, flat6 u nv, rfl, Lib.hid ⟨Hga0.out, Hgr.out⟩, Hba, HOS, HRP, HKr⟩
       case rest =>
        obtain ⟨g, oA, rA, oc, rc, xs, rfl, Hgn, Hba, HOS, HRP, HKr⟩ := hcut
        have Hb1c := Lib.hid (HKr.out.blk Hb1.out id)
        (try clear c0 c1 c2 c3 c4 c5)
        have c0 := (blk_cell Hb1c.out 0).trans rfl
        have c1 := (blk_cell Hb1c.out 1).trans rfl
        have c2 := (blk_cell Hb1c.out 2).trans rfl
        have c3 := (blk_cell Hb1c.out 3).trans rfl
        have c4 := (blk_cell Hb1c.out 4).trans rfl
        have c5 := (blk_cell Hb1c.out 5).trans rfl
        obtain ⟨q, hq⟩ : ∃ q, idxK key ks = q := ⟨_, rfl⟩
        have Hq := Lib.hid hq
        rw [hq] at HR4
        clear hq
        go_upto_if 41 with (first
         | (go_at_call 60; go_must (refine (find60 ((HV.out.after HK.out).after HKr.out) (by simp only [J.keys]; rw [Hln.out.1]; omega)).mono ?_; rintro e w14 ⟨rfl, hk14⟩; simp only [J.keys]; rw [Hq.out])
            have Hba := Lib.hid (hk14.blk Hba.out id)
            have HOS := Lib.hid (HOS.out.keep hk14 (fun _ _ => id))
            have HRP := Lib.hid (HRP.out.keep hk14 (fun _ _ e => e.elim))
            have HKr := Lib.hid (HKr.out.trans hk14 (fun _ _ h => h))
            clear hk14 c0 c1 c2 c3 c4 c5 Hb1c
            (try simp only [PU]))
        )
        go_cut [11] (fun iv wx => ∃ (ks' : List ByteArray) (vs' : List J) (oA' rA' : Option Addr) (kl' nv' oc' rc' : Nat) (xs' : List Value), iv = .int .i64 (idxI q) ∧ Hid (out = .mk 6 false 0 ByteArray.empty ks' vs') ∧ Hid (vs'.length = nv') ∧ Hid (wx.heap[g]? = some (.cells #[.int .i64 6, .bool false, .int .i64 0, .string ByteArray.empty, .slice oA' kl' oc', .slice rA' nv' rc'] 25 (0, 0))) ∧ Hid (OwnS wx w3.heap.size (.slice oA' kl' oc') ks') ∧ Hid (RowP wx w3.heap.size (.slice rA' nv' rc') vs' xs' W.heap.size) ∧ Hid (Keeps Nob w3 wx))
        case first =>
         rcases q with _ | i
         · simp only [show idxI none = -1 from rfl]
           go_upto_region 13 with fail
           have HKr := Lib.hid (HKr.out.trans (Keeps.refl Nob _).drew (fun _ _ h => h))
           have Hba := Lib.hid ((Keeps.refl Nob _).drew.blk Hba.out id)
           have HOS := Lib.hid (HOS.out.keep (Keeps.refl Nob _).drew (fun _ _ => id))
           have HRP := Lib.hid (HRP.out.keep (Keeps.refl Nob _).drew (fun _ _ e => e.elim))
           (try clear s4 s5 e0 e1 e2 e3 e4 e5)
           have s4 := (blk_cell Hba.out 4).trans rfl
           have s5 := (blk_cell Hba.out 5).trans rfl
           have Hbx := Lib.hid (HKr.out.blk Hb2.out id)
           have e0 := (blk_cell Hbx.out 0).trans rfl
           have e1 := (blk_cell Hbx.out 1).trans rfl
           have e2 := (blk_cell Hbx.out 2).trans rfl
           have e3 := (blk_cell Hbx.out 3).trans rfl
           have e4 := (blk_cell Hbx.out 4).trans rfl
           have e5 := (blk_cell Hbx.out 5).trans rfl
           refine wp_region_treec 11 (.q 0 (.q 1 (.q 2 (.q 5 (.q 6 (.br [3, 7] (fun k => bif Nat.beq k 3 then .br [4, 7] (fun k => bif Nat.beq k 4 then .q 10 (.br [7] (fun k => .br [8] (fun k => .br [9] (fun k => .brc [11] (fun k => .brc [12] (fun k => .brc [13] (fun k => .done))))))) else .br [4, 8] (fun k => bif Nat.beq k 4 then .q 10 (.br [8] (fun k => .br [9] (fun k => .brc [11] (fun k => .brc [12] (fun k => .brc [13] (fun k => .done)))))) else .br [4] (fun k => .q 10 (.br [9] (fun k => .brc [11] (fun k => .brc [12] (fun k => .brc [13] (fun k => .done)))))))) else .br [3, 8] (fun k => bif Nat.beq k 3 then .br [4, 8] (fun k => bif Nat.beq k 4 then .q 10 (.br [8] (fun k => .br [9] (fun k => .brc [11] (fun k => .brc [12] (fun k => .brc [13] (fun k => .done)))))) else .br [4] (fun k => .q 10 (.br [9] (fun k => .brc [11] (fun k => .brc [12] (fun k => .brc [13] (fun k => .done))))))) else .br [3] (fun k => .br [4] (fun k => .q 10 (.br [9] (fun k => .brc [11] (fun k => .brc [12] (fun k => .brc [13] (fun k => .done))))))))))))))) (fun w' => w'.cell? ⟨g, 4, none⟩ = some (.slice oA kl oc) ∧ w'.cell? ⟨g, 5, none⟩ = some (.slice rA nv rc) ∧ w'.cell? ⟨g2, 0, none⟩ = some (.int .i64 xk) ∧ w'.cell? ⟨g2, 1, none⟩ = some (.bool xb) ∧ w'.cell? ⟨g2, 2, none⟩ = some (.int .i64 xn) ∧ w'.cell? ⟨g2, 3, none⟩ = some (.string xt) ∧ w'.cell? ⟨g2, 4, none⟩ = some (.slice xA xkl xkc) ∧ w'.cell? ⟨g2, 5, none⟩ = some (.slice xB xvl xvc)) rfl (by kernel_rfl) (by kernel_rfl) (fun c a d v w h => by cases d <;> exact h) ⟨s4, s5, e0, e1, e2, e3, e4, e5⟩ ?_
           repeat' (first
            | (refine cqa _ ?_; (try simp only [PU]))
            | (refine cfa _ ?_; (try simp only [PU]))
            | refine treec_e rfl rfl ?_
            | refine treec_b rfl rfl ?_ ?_
            | refine treec_f rfl rfl ?_
            | refine treec_nil ?_
            | ((with_reducible refine at_dst (N := 58) rfl ?_); go_wp2_with fail)
            | ((with_reducible refine at_dst (N := 50) rfl ?_); go_must (refine ev_slice (cs := #[.string key]) (t := 9) (n := 1) (c := 1) rfl (by first | (go_simp; done) | (go_simp; rfl)) ?_; intro gk wk hgk hlk hbk hkk)
               (try simp only [PU])
               have Hbk := Lib.hid hbk
               (try have Hbz := Lib.hid (Keeps.blk hkk Hbz.out id))
               have Hba := Lib.hid (Keeps.blk hkk Hba.out id)
               have HOS := Lib.hid (OwnS.keep HOS.out hkk (fun _ _ => id))
               have HRP := Lib.hid (RowP.keep HRP.out hkk (fun _ _ e => e.elim))
               have HKr := Lib.hid (HKr.out.trans hkk (fun _ _ h => h))
               (try clear s4 s5 e0 e1 e2 e3 e4 e5)
               have s4 := (blk_cell Hba.out 4).trans rfl
               have s5 := (blk_cell Hba.out 5).trans rfl
               have Hbx := Lib.hid (HKr.out.blk Hb2.out id)
               have e0 := (blk_cell Hbx.out 0).trans rfl
               have e1 := (blk_cell Hbx.out 1).trans rfl
               have e2 := (blk_cell Hbx.out 2).trans rfl
               have e3 := (blk_cell Hbx.out 3).trans rfl
               have e4 := (blk_cell Hbx.out 4).trans rfl
               have e5 := (blk_cell Hbx.out 5).trans rfl
               clear hgk hlk hbk hkk
               refine wpList_nil ⟨⟨s4, s5, e0, e1, e2, e3, e4, e5⟩, ?_⟩)
            | ((with_reducible refine at_dst (N := 54) rfl ?_); go_wp2_with fail
               (try refine ⟨⟨s4, s5, e0, e1, e2, e3, e4, e5⟩, ?_⟩))
            | ((with_reducible refine at_dst (N := 55) rfl ?_); go_must (refine ev_slice (cs := #[.int .i64 xk, .bool xb, .int .i64 xn, .string xt, .slice xA xkl xkc, .slice xB xvl xvc]) (t := 25) (n := 1) (c := 1) rfl (by first | (go_simp; done) | (go_simp; rfl)) ?_; intro gz wz hgk hlk hbk hkk)
               (try simp only [PU])
               have Hbz := Lib.hid hbk
               (try have Hbk := Lib.hid (Keeps.blk hkk Hbk.out id))
               have Hba := Lib.hid (Keeps.blk hkk Hba.out id)
               have HOS := Lib.hid (OwnS.keep HOS.out hkk (fun _ _ => id))
               have HRP := Lib.hid (RowP.keep HRP.out hkk (fun _ _ e => e.elim))
               have HKr := Lib.hid (HKr.out.trans hkk (fun _ _ h => h))
               (try clear s4 s5 e0 e1 e2 e3 e4 e5)
               have s4 := (blk_cell Hba.out 4).trans rfl
               have s5 := (blk_cell Hba.out 5).trans rfl
               have Hbx := Lib.hid (HKr.out.blk Hb2.out id)
               have e0 := (blk_cell Hbx.out 0).trans rfl
               have e1 := (blk_cell Hbx.out 1).trans rfl
               have e2 := (blk_cell Hbx.out 2).trans rfl
               have e3 := (blk_cell Hbx.out 3).trans rfl
               have e4 := (blk_cell Hbx.out 4).trans rfl
               have e5 := (blk_cell Hbx.out 5).trans rfl
               clear hgk hlk hbk hkk
               refine wpList_nil ⟨⟨s4, s5, e0, e1, e2, e3, e4, e5⟩, ?_⟩)
            | ((with_reducible refine at_dst (N := 51) rfl ?_); have hrow := HOS.out
               unfold OwnS at hrow
               rw [Hln.out.1] at hrow
               have Hrow := Lib.hid hrow
               clear hrow
               go_must (refine ev_append rfl rfl Tryd.underlying22 info9b rfl (by decide) (base := w3.heap.size) rfl Hrow.out rfl (news := [Value.string key]) rfl (fun _ => ⟨_, rfl, World.news_of_block Hbk.out⟩) (by simp [Value.oneCell']) (by omega) (by decide) HKr.out.size ?_; intro v9 w11 hown9 hk11 hr11 hf11; obtain ⟨gq, cq, rfl⟩ := hf11 (by decide))
               (try simp only [PU])
               (try have Hbz := Lib.hid (hk11.blk Hbz.out (HOS.out.ne Hbz.out (by decide))))
               have Hba := Lib.hid (hk11.blk Hba.out (HOS.out.ne Hba.out (by decide)))
               have HRP := Lib.hid (HRP.out.keep hk11 (fun b _ e => ⟨(HOS.out.lt b e.symm).1, row_own_ne HOS.out HRP.out.row b e⟩))
               have HKr := Lib.hid (show Keeps Nob w3 w11 from HKr.out.trans hk11 (fun i hi e => by have := (HOS.out.lt i e.symm).1; omega))
               have HOS := Lib.hid (show OwnS w11 w3.heap.size (.slice (some ⟨gq, 0, none⟩) (kl + 1) cq) (ks ++ [key]) from by unfold OwnS; rw [List.length_append, List.map_append, Hln.out.1]; exact hown9)
               clear hown9 hk11 hr11 hf11 Hbk Hrow
               (try clear s4 s5 e0 e1 e2 e3 e4 e5)
               have s4 := (blk_cell Hba.out 4).trans rfl
               have s5 := (blk_cell Hba.out 5).trans rfl
               have Hbx := Lib.hid (HKr.out.blk Hb2.out id)
               have e0 := (blk_cell Hbx.out 0).trans rfl
               have e1 := (blk_cell Hbx.out 1).trans rfl
               have e2 := (blk_cell Hbx.out 2).trans rfl
               have e3 := (blk_cell Hbx.out 3).trans rfl
               have e4 := (blk_cell Hbx.out 4).trans rfl
               have e5 := (blk_cell Hbx.out 5).trans rfl
               refine wpList_nil ⟨⟨s4, s5, e0, e1, e2, e3, e4, e5⟩, ?_⟩)
            | ((with_reducible refine at_dst (N := 56) rfl ?_); have hrow := HRP.out.row
               rw [Hln.out.2] at hrow
               have Hrow := Lib.hid hrow
               clear hrow
               go_must (refine ev_append rfl rfl Tryd.underlying23 info25b rfl (by decide) (base := w3.heap.size) rfl Hrow.out rfl (news := [.int .i64 xk, .bool xb, .int .i64 xn, .string xt, .slice xA xkl xkc, .slice xB xvl xvc]) rfl (fun _ => ⟨_, rfl, World.news_of_block Hbz.out⟩) (by simp [Value.oneCell']) (by omega) (by decide) HKr.out.size ?_; intro v6 w12 hown6 hk12 hr12 hf12; obtain ⟨gw, cw, rfl⟩ := hf12 (by decide))
               (try simp only [PU])
               have HRP2 := Lib.hid (HRP.out.push ((HX.out.after HK.out).after HKr.out) (by rw [Hln.out.2]; exact hown6) hk12)
               have Hgw := Lib.hid (show ¬ g = gw from fun e => by
                rcases hr12 with h | ⟨k, h, hk⟩
                · exact Hgn.out.2 (h.symm.trans (show some gw = some g by rw [e]))
                · have e2 : gw = k := Option.some.inj h; have h1 := blk_lt Hba.out; omega)
               have Hba := Lib.hid (hk12.blk Hba.out (fun e => Hgn.out.2 e.symm))
               have HOS := Lib.hid (HOS.out.keep hk12 (fun q e h => own_row_ne HOS.out HRP.out.row q e h))
               have HKr := Lib.hid (show Keeps Nob w3 w12 from HKr.out.trans hk12 (fun i hi e => by have := (row_lt HRP.out.row i e.symm).1; omega))
               have HRP := HRP2
               clear hown6 hk12 hr12 hf12 Hbz Hrow HRP2
               (try clear s4 s5 e0 e1 e2 e3 e4 e5)
               have s4 := (blk_cell Hba.out 4).trans rfl
               have s5 := (blk_cell Hba.out 5).trans rfl
               have Hbx := Lib.hid (HKr.out.blk Hb2.out id)
               have e0 := (blk_cell Hbx.out 0).trans rfl
               have e1 := (blk_cell Hbx.out 1).trans rfl
               have e2 := (blk_cell Hbx.out 2).trans rfl
               have e3 := (blk_cell Hbx.out 3).trans rfl
               have e4 := (blk_cell Hbx.out 4).trans rfl
               have e5 := (blk_cell Hbx.out 5).trans rfl
               refine wpList_nil ⟨⟨s4, s5, e0, e1, e2, e3, e4, e5⟩, ?_⟩)
            | ((with_reducible refine at_store (t := 22) rfl ?_); go_must (refine ev_store (off := 4) (cs' := #[.int .i64 6, .bool false, .int .i64 0, .string ByteArray.empty, .slice (some ⟨gq, 0, none⟩) (kl + 1) cq, .slice rA nv rc]) rfl rfl rfl rfl rfl rfl HI.out.2.2.1 HI.out.2.2.2 rfl Hba.out (Nat.le_of_ble_eq_true rfl) rfl ?_; intro w13 hb13 hk13)
               (try simp only [PU])
               have HOS := Lib.hid (HOS.out.keep hk13 (fun q e h => HOS.out.ne Hba.out (by decide) (by rw [e, h])))
               have HRP := Lib.hid (HRP.out.keep hk13 (fun b _ e => ⟨by have := Hgn.out.1; omega, fun e2 => Hgw.out (by rw [e] at e2; exact (Option.some.inj e2).symm)⟩))
               have HKr := Lib.hid (show Keeps Nob w3 w13 from HKr.out.trans hk13 (fun i hi e => by have := Hgn.out.1; omega))
               have Hba := Lib.hid hb13
               clear hb13 hk13
               refine wpList_nil (then_normal ?_))
            | ((with_reducible refine at_store (t := 23) rfl ?_); go_must (refine ev_store (off := 5) (cs' := #[.int .i64 6, .bool false, .int .i64 0, .string ByteArray.empty, .slice (some ⟨gq, 0, none⟩) (kl + 1) cq, .slice (some ⟨gw, 0, none⟩) (nv + 1) cw]) rfl rfl rfl rfl rfl rfl HI.out.2.1.1 HI.out.2.1.2 rfl Hba.out (Nat.le_of_ble_eq_true rfl) rfl ?_; intro w14 hb14 hk14)
               (try simp only [PU])
               have HOS := Lib.hid (HOS.out.keep hk14 (fun q e h => HOS.out.ne Hba.out (by decide) (by rw [e, h])))
               have HRP := Lib.hid (HRP.out.keep hk14 (fun b _ e => ⟨by have := Hgn.out.1; omega, fun e2 => Hgw.out (by rw [e] at e2; exact (Option.some.inj e2).symm)⟩))
               have HKr := Lib.hid (show Keeps Nob w3 w14 from HKr.out.trans hk14 (fun i hi e => by have := Hgn.out.1; omega))
               have Hba := Lib.hid hb14
               clear hb14 hk14
               refine wpList_nil (then_normal ?_))
           )
           all_goals
            go_wp2_with fail
            go_meet
            exact ⟨ks ++ [key], vs ++ [x], some ⟨gq, 0, none⟩, some ⟨gw, 0, none⟩, kl + 1, nv + 1, cq, cw, _, rfl, HR4, Lib.hid (by rw [List.length_append, Hln.out.2]; rfl), Hba, HOS, HRP, HKr⟩
         · simp only [show idxI (some i) = (i : Int) from rfl]
           have hi := (idxK_some Hq.out).1
           rw [Hln.out.1, Hfl.out] at hi
           have hii : ¬ (i : Int) < 0 := by omega
           have hii2 : (i : Int) < (nv : Int) := by omega
           have hrow := HRP.out.row
           rw [Hln.out.2] at hrow
           obtain ⟨gr, rc2, cur, he, hgr, hcur, hfit, hset⟩ := row_set hrow hi
           injection he with he1 he2 he3
           subst he1; subst he3
           have Hcur := Lib.hid hcur
           have Hfit := Lib.hid hfit
           have Hset := Lib.hid hset
           have Hgr := Lib.hid hgr
           clear hcur hfit hset hgr hrow
           (try clear s4 s5 e0 e1 e2 e3 e4 e5)
           have s4 := (blk_cell Hba.out 4).trans rfl
           have s5 := (blk_cell Hba.out 5).trans rfl
           have Hbx := Lib.hid (HKr.out.blk Hb2.out id)
           have e0 := (blk_cell Hbx.out 0).trans rfl
           have e1 := (blk_cell Hbx.out 1).trans rfl
           have e2 := (blk_cell Hbx.out 2).trans rfl
           have e3 := (blk_cell Hbx.out 3).trans rfl
           have e4 := (blk_cell Hbx.out 4).trans rfl
           have e5 := (blk_cell Hbx.out 5).trans rfl
           go_wp2_with (first
            | ((with_reducible refine at_store (t := 25) rfl ?_); go_must (refine ev_store (x := .agg #[.int .i64 xk, .bool xb, .int .i64 xn, .string xt, .slice xA xkl xkc, .slice xB xvl xvc]) (vs := [.int .i64 xk, .bool xb, .int .i64 xn, .string xt, .slice xA xkl xkc, .slice xB xvl xvc]) (off := i * 6) (cs' := List.toArray (cur.toList.take (i * 6) ++ ([Value.int .i64 xk, Value.bool xb, Value.int .i64 xn, Value.string xt, Value.slice xA xkl xkc, Value.slice xB xvl xvc] : List Value) ++ cur.toList.drop (i * 6 + 6))) rfl rfl rfl rfl rfl rfl HI.out.1.1 HI.out.1.2 rfl Hcur.out Hfit.out rfl ?_; intro w15 hb9 hk9)
               have hrow9 := Hset.out w15 [Value.int .i64 xk, Value.bool xb, Value.int .i64 xn, Value.string xt, Value.slice xA xkl xkc, Value.slice xB xvl xvc] rfl hb9
               have HRP := Lib.hid (HRP.out.lay (by rw [Hln.out.2]; exact hi) ((HX.out.after HK.out).after HKr.out) Hgr.out hk9 (by rw [Hln.out.2]; exact hrow9))
               have HOS := Lib.hid (HOS.out.keep hk9 (fun q e h => HOS.out.ne Hcur.out (by decide) (by rw [e, h])))
               have Hba := Lib.hid (hk9.blk Hba.out (fun e => Hgn.out.2 (by rw [e]; rfl)))
               have HKr := Lib.hid (show Keeps Nob w3 w15 from HKr.out.trans hk9 (fun q hq e => by have := Hgr.out; omega))
               clear hb9 hk9 hrow9 s4 s5 e0 e1 e2 e3 e4 e5
               (try simp only [PU]))
           )
           go_meet
           exact ⟨ks, vs.set i x, oA, some ⟨gr, 0, none⟩, kl, nv, oc, rc, _, rfl, HR4, Lib.hid (by rw [List.length_set]; exact Hln.out.2), Hba, HOS, HRP, HKr⟩
        case rest =>
         obtain ⟨ks', vs', oA', rA', kl', nv', oc', rc', xs', rfl, Hout', Hln', Hba, HOS, HRP, HKr⟩ := hcut
         have HV9 := Lib.hid (show JX wc (fun b => b < wc.heap.size ∧ (b < W.heap.size ∨ w3.heap.size ≤ b)) (.agg #[.int .i64 6, .bool false, .int .i64 0, .string ByteArray.empty, .slice oA' kl' oc', .slice rA' nv' rc']) out from by
          rw [Hout'.out]
          refine JX.keep (M := Nob) (X := fun b => b < W.heap.size ∨ w3.heap.size ≤ b) ?_ (Keeps.refl Nob wc) (fun _ _ _ => id) (fun b h1 h2 => ⟨h1, h2⟩)
          exact JX.close (HOS.out.strs.keep (Keeps.refl Nob wc) (fun _ _ _ => id) (fun _ _ h => .inr h)) HRP.out.js)
         (try clear c0 c1 c2 c3 c4 c5)
         have c0 := (blk_cell Hba.out 0).trans rfl
         have c1 := (blk_cell Hba.out 1).trans rfl
         have c2 := (blk_cell Hba.out 2).trans rfl
         have c3 := (blk_cell Hba.out 3).trans rfl
         have c4 := (blk_cell Hba.out 4).trans rfl
         have c5 := (blk_cell Hba.out 5).trans rfl
         go_upto_if 61 with (first
          | (go_at_call 14; go_must (refine (check14 HV9.out (Tab.up (HT.out.keep (HK.out.trans HKr.out (fun _ _ h => h)).any) (HK.out.trans HKr.out (fun _ _ h => h)).size) Hso.out).mono ?_; rintro e w10 ⟨rfl, hk10⟩; rw [Hzo.out])
             have HKr := Lib.hid (HKr.out.trans hk10 (fun _ _ h => h))
             have Hba := Lib.hid (hk10.blk Hba.out id)
             have HV9 := Lib.hid (HV9.out.keep (X' := fun b => b < w10.heap.size ∧ (b < W.heap.size ∨ w3.heap.size ≤ b)) hk10 (fun _ _ _ => id) (fun b hb h => ⟨Nat.lt_of_lt_of_le hb hk10.size, h.2⟩))
             clear hk10 c0 c1 c2 c3 c4 c5
             (try simp only [PU]))
         )
         by_cases hzo0 : zo = 0
         · subst hzo0
           (try clear c0 c1 c2 c3 c4 c5)
           have c0 := (blk_cell Hba.out 0).trans rfl
           have c1 := (blk_cell Hba.out 1).trans rfl
           have c2 := (blk_cell Hba.out 2).trans rfl
           have c3 := (blk_cell Hba.out 3).trans rfl
           have c4 := (blk_cell Hba.out 4).trans rfl
           have c5 := (blk_cell Hba.out 5).trans rfl
           go_wp2_with (first
            | ((with_reducible refine at_store (t := 25) (p := 6) rfl ?_); go_must (refine ev_store (cs' := #[.int .i64 6, .bool false, .int .i64 0, .string ByteArray.empty, .slice oA' kl' oc', .slice rA' nv' rc']) rfl rfl rfl rfl rfl rfl HI.out.1.1 HI.out.1.2 rfl (HKr.out.blk Hb3.out id) (Nat.le_of_ble_eq_true rfl) rfl ?_; intro w16 hb11 hk11)
               have Hb9z := Lib.hid hb11
               have HV11 := Lib.hid (HV9.out.keep (X' := fun b => b < w16.heap.size) hk11 (fun b _ hb e => by have h1 := Hgs.out; have h2 := HK.out.size; rcases hb.2 with h | h <;> omega) (fun b hb _ => Nat.lt_of_lt_of_le hb hk11.size))
               have HK9 := Lib.hid (show Keeps Nob W w16 from (HK.out.trans HKr.out (fun _ _ h => h)).trans hk11 (fun i hi e => by have := Hgs.out; omega))
               clear hb11 hk11 c0 c1 c2 c3 c4 c5
               have d0 := (blk_cell Hb9z.out 0).trans rfl
               have d1 := (blk_cell Hb9z.out 1).trans rfl
               have d2 := (blk_cell Hb9z.out 2).trans rfl
               have d3 := (blk_cell Hb9z.out 3).trans rfl
               have d4 := (blk_cell Hb9z.out 4).trans rfl
               have d5 := (blk_cell Hb9z.out 5).trans rfl
               (try simp only [PU]))
           )
           refine bodyPost_ret (results_ct (x := .agg #[.int .i64 6, .bool false, .int .i64 0, .string ByteArray.empty, .slice oA' kl' oc', .slice rA' nv' rc']) rfl _ _ rfl (by go_simp) rfl) rfl ?_
           rw [HR.out, if_neg (by simp), if_neg (by simp), if_neg (by simp), if_neg (by simp)]
           exact ⟨⟨_, rfl, HV11.out⟩, HK9.out⟩
         · have hzob : (zo == 0) = false := beq_eq_false_iff_ne.2 hzo0
           have Hzo0 := Lib.hid hzo0
           go_wp2_with (first
            | ((with_reducible refine at_store (t := 25) (p := 6) rfl ?_); go_must (refine ev_store (cs' := #[.int .i64 0, .bool false, .int .i64 0, .string ByteArray.empty, .slice none 0 0, .slice none 0 0]) rfl rfl rfl rfl rfl rfl HI.out.1.1 HI.out.1.2 rfl (HKr.out.blk Hb3.out id) (Nat.le_of_ble_eq_true rfl) rfl ?_; intro w9 hb9 hk9)
               have Hb9z := Lib.hid hb9
               have HK9 := Lib.hid (show Keeps Nob W w9 from (HK.out.trans HKr.out (fun _ _ h => h)).trans hk9 (fun i hi e => by have := Hgs.out; omega))
               clear hb9 hk9
               (try clear c0 c1 c2 c3 c4 c5)
               have d0 := (blk_cell Hb9z.out 0).trans rfl
               have d1 := (blk_cell Hb9z.out 1).trans rfl
               have d2 := (blk_cell Hb9z.out 2).trans rfl
               have d3 := (blk_cell Hb9z.out 3).trans rfl
               have d4 := (blk_cell Hb9z.out 4).trans rfl
               have d5 := (blk_cell Hb9z.out 5).trans rfl
               (try simp only [PU]))
           )
           refine bodyPost_ret (results_ct (x := .agg #[.int .i64 0, .bool false, .int .i64 0, .string ByteArray.empty, .slice none 0 0, .slice none 0 0]) rfl _ _ rfl (by go_simp) rfl) rfl ?_
           rw [HR.out, if_neg (by simp), if_neg (by simp), if_neg (by simp), if_pos Hzo0.out]
           exact ⟨⟨_, rfl, zval⟩, HK9.out⟩
     · have hk6b : (k == 6) = false := beq_eq_false_iff_ne.2 hk6
       have Hk6 := Lib.hid hk6
       go_wp2_with (first
        | ((with_reducible refine at_store (t := 25) (p := 6) rfl ?_); go_must (refine ev_store (cs' := #[.int .i64 0, .bool false, .int .i64 0, .string ByteArray.empty, .slice none 0 0, .slice none 0 0]) rfl rfl rfl rfl rfl rfl HI.out.1.1 HI.out.1.2 rfl (HKr.out.blk Hb3.out id) (Nat.le_of_ble_eq_true rfl) rfl ?_; intro w9 hb9 hk9)
           have Hb9z := Lib.hid hb9
           have HK9 := Lib.hid (show Keeps Nob W w9 from (HK.out.trans HKr.out (fun _ _ h => h)).trans hk9 (fun i hi e => by have := Hgs.out; omega))
           clear hb9 hk9
           (try clear c0 c1 c2 c3 c4 c5)
           have d0 := (blk_cell Hb9z.out 0).trans rfl
           have d1 := (blk_cell Hb9z.out 1).trans rfl
           have d2 := (blk_cell Hb9z.out 2).trans rfl
           have d3 := (blk_cell Hb9z.out 3).trans rfl
           have d4 := (blk_cell Hb9z.out 4).trans rfl
           have d5 := (blk_cell Hb9z.out 5).trans rfl
           (try simp only [PU]))
       )
       refine bodyPost_ret (results_ct (x := .agg #[.int .i64 0, .bool false, .int .i64 0, .string ByteArray.empty, .slice none 0 0, .slice none 0 0]) rfl _ _ rfl (by go_simp) rfl) rfl ?_
       rw [HR.out, if_neg (by simp), if_neg (by simp), if_pos Hk6.out]
       exact ⟨⟨_, rfl, zval⟩, HK9.out⟩
   · have hz0b : (zx == 0) = false := beq_eq_false_iff_ne.2 hzx0
     have Hz0 := Lib.hid hzx0
     go_wp2_with (first
      | ((with_reducible refine at_store (t := 25) (p := 6) rfl ?_); go_must (refine ev_store (cs' := #[.int .i64 0, .bool false, .int .i64 0, .string ByteArray.empty, .slice none 0 0, .slice none 0 0]) rfl rfl rfl rfl rfl rfl HI.out.1.1 HI.out.1.2 rfl (HKr.out.blk Hb3.out id) (Nat.le_of_ble_eq_true rfl) rfl ?_; intro w9 hb9 hk9)
         have Hb9z := Lib.hid hb9
         have HK9 := Lib.hid (show Keeps Nob W w9 from (HK.out.trans HKr.out (fun _ _ h => h)).trans hk9 (fun i hi e => by have := Hgs.out; omega))
         clear hb9 hk9
         (try clear c0 c1 c2 c3 c4 c5)
         have d0 := (blk_cell Hb9z.out 0).trans rfl
         have d1 := (blk_cell Hb9z.out 1).trans rfl
         have d2 := (blk_cell Hb9z.out 2).trans rfl
         have d3 := (blk_cell Hb9z.out 3).trans rfl
         have d4 := (blk_cell Hb9z.out 4).trans rfl
         have d5 := (blk_cell Hb9z.out 5).trans rfl
         (try simp only [PU]))
     )
     refine bodyPost_ret (results_ct (x := .agg #[.int .i64 0, .bool false, .int .i64 0, .string ByteArray.empty, .slice none 0 0, .slice none 0 0]) rfl _ _ rfl (by go_simp) rfl) rfl ?_
     rw [HR.out, if_neg (by simp), if_pos Hz0.out]
     exact ⟨⟨_, rfl, zval⟩, HK9.out⟩
 · have hz0b : (z == 0) = false := beq_eq_false_iff_ne.2 hz0
   have Hz0 := Lib.hid hz0
   go_wp2_with (first
    | ((with_reducible refine at_store (t := 25) (p := 6) rfl ?_); go_must (refine ev_store (cs' := #[.int .i64 0, .bool false, .int .i64 0, .string ByteArray.empty, .slice none 0 0, .slice none 0 0]) rfl rfl rfl rfl rfl rfl HI.out.1.1 HI.out.1.2 rfl (HKr.out.blk Hb3.out id) (Nat.le_of_ble_eq_true rfl) rfl ?_; intro w9 hb9 hk9)
       have Hb9z := Lib.hid hb9
       have HK9 := Lib.hid (show Keeps Nob W w9 from (HK.out.trans HKr.out (fun _ _ h => h)).trans hk9 (fun i hi e => by have := Hgs.out; omega))
       clear hb9 hk9
       (try clear c0 c1 c2 c3 c4 c5)
       have d0 := (blk_cell Hb9z.out 0).trans rfl
       have d1 := (blk_cell Hb9z.out 1).trans rfl
       have d2 := (blk_cell Hb9z.out 2).trans rfl
       have d3 := (blk_cell Hb9z.out 3).trans rfl
       have d4 := (blk_cell Hb9z.out 4).trans rfl
       have d5 := (blk_cell Hb9z.out 5).trans rfl
       (try simp only [PU]))
   )
   refine bodyPost_ret (results_ct (x := .agg #[.int .i64 0, .bool false, .int .i64 0, .string ByteArray.empty, .slice none 0 0, .slice none 0 0]) rfl _ _ rfl (by go_simp) rfl) rfl ?_
   rw [HR.out, if_pos Hz0.out]
   exact ⟨⟨_, rfl, zval⟩, HK9.out⟩
end Go.Proofs.WV

namespace Go.Proofs.WV
open Go.RowKit Go.Proofs.KL Go.Proofs.WM
set_option maxRecDepth 100000
set_option linter.unusedSimpArgs false
set_option linter.unusedVariables false

set_option maxHeartbeats 4000000 in
theorem size34 {w : World} {X : Nat → Prop} {v : Value} {j : J} (h : JX w X v j) : ∀ W (left : Nat), Keeps Nob w W → sizeJ j ≤ 1000000000000 → left ≤ 1000000000000 → Calls Tryd.prog 34 #[v, .int .i64 left] W fun e w' => e = .returned (.int .i64 (sizeS j left)) ∧ Keeps Nob W w' := by
 induction h with
 | mk k b n t ks vs kv A c u h1 hc hA hv ih =>
   intro W left hW hb hleft
   obtain ⟨i25, hi25, hs25⟩ := info25
   have HI := Lib.hid (And.intro hi25 hs25)
   have HA := Lib.hid hA
   have IH := Lib.hid ih
   have HV := Lib.hid hv
   have HW := Lib.hid hW
   obtain ⟨kA, kc, rfl, hkc, hkx⟩ := id h1
   have HKX := Lib.hid hkx
   have Hb := Lib.hid (show 1 + t.size + ks.length + (ks.map ByteArray.size).sum + sizeL vs ≤ 1000000000000 by have h' := hb; unfold sizeJ at h'; exact h')
   obtain ⟨R, hR⟩ : ∃ x, sizeS (.mk k b n t ks vs) left = x := ⟨_, rfl⟩
   rw [hR]
   have HR := Lib.hid (show goS (1 + t.size + ks.length + (ks.map ByteArray.size).sum) left vs = R by rw [← hR]; unfold sizeS; rfl)
   have Hsz := Lib.hid (show vs.length ≤ sizeL vs from size_len vs)
   obtain ⟨kl, hkl⟩ : ∃ x, ks.length = x := ⟨_, rfl⟩
   have Hkl := Lib.hid hkl
   obtain ⟨len, hlen⟩ : ∃ x, vs.length = x := ⟨_, rfl⟩
   have Hlen := Lib.hid hlen
   have hbk : (t.size : Int) ≤ 1000000000000 ∧ (kl : Int) ≤ 1000000000000 ∧ (len : Int) ≤ 1000000000000 := by have h1 := Hb.out; have h2 := Hsz.out; omega
   obtain ⟨hbt, hbk, hbl⟩ := hbk
   rw [hlen, hkl]
   rw [hkl] at hkc
   clear h1 hc hA hv ih hW hlen hkl hi25 hs25 hR hkx hb
   go_enter Tryd.func34, Tryd.ntmps34
   go_wp2_with (first
    | ((with_reducible refine at_dst (N := 2) rfl ?_); go_must (refine ev_box (cs := #[.int .i64 k, .bool b, .int .i64 n, .string t, .slice kA kl kc, .slice A len c]) rfl rfl rfl ?_; intro g1 w1 hg1 hl1 hb1 hk1)
       have v3 := (blk_cell hb1 3).trans rfl
       have v4 := (blk_cell hb1 4).trans rfl
       have v5 := (blk_cell hb1 5).trans rfl
       have Hb1 := Lib.hid hb1
       have HK1 := Lib.hid hk1
       clear hb1 hk1
       (try simp only [PU]))
   )
   obtain ⟨n0, hn0⟩ : ∃ x : Nat, 1 + t.size + kl = x := ⟨_, rfl⟩
   have Hn0 := Lib.hid hn0
   have hn0i : 1 + (t.size : Int) + (kl : Int) = (n0 : Int) := by omega
   rw [hn0i]
   clear hn0 hn0i v3 v4
   go_loopw [21, 5] (fun iv nv wr => ∃ i : Nat, iv = .int .i64 i ∧ i ≤ kl ∧ nv = .int .i64 ((n0 + ((ks.take i).map ByteArray.size).sum : Nat) : Int) ∧ Hid (wr = w1)) (fun iv _ _ => kl - (intOf iv).toNat)
   case atStart => exact ⟨0, rfl, Nat.zero_le _, by simp, Lib.hid rfl⟩
   case round =>
    obtain ⟨i, rfl, hi, rfl, Hw⟩ := hrel
    have hw : w1 = wr := Hw.out.symm
    subst hw
    by_cases hlt : i < kl
    · obtain ⟨b', o, rfl, -, hcell⟩ := HKX.out i (by rw [Hkl.out]; exact hlt)
      have kc0 := (HW.out.trans HK1.out (fun _ _ h => h)).cell hcell id
      have hst := sum_take ks i (by rw [Hkl.out]; exact hlt)
      have hsl := sum_take_le ks (i + 1)
      obtain ⟨key, hkey⟩ : ∃ x, ks.getD i ByteArray.empty = x := ⟨_, rfl⟩
      rw [hkey] at kc0 hst
      obtain ⟨m, hm⟩ : ∃ x, n0 + ((ks.take i).map ByteArray.size).sum = x := ⟨_, rfl⟩
      have hmb : (m : Int) ≤ 1000000000000 ∧ (key.size : Int) ≤ 1000000000000 := by have h1 := Hb.out; have h2 := Hn0.out; have h3 := Hkl.out; omega
      obtain ⟨hmb1, hmb2⟩ := hmb
      have Hst := Lib.hid (show n0 + ((ks.take (i + 1)).map ByteArray.size).sum = m + key.size by omega)
      rw [hm]
      clear hcell hst hsl hkey hm
      go_wp2
      go_roundw
      case rel => exact ⟨i + 1, by go_num, by omega, by rw [Hst.out] <;> (congr 1), by first | exact Lib.hid rfl | exact Lib.hid trivial⟩
      case measure => simp [intOf]; omega
    · have hi' : i = kl := by omega
      subst hi'
      have htl := List.take_length (l := ks)
      rw [Hkl.out] at htl
      rw [htl]
      obtain ⟨m, hm⟩ : ∃ x, n0 + (ks.map ByteArray.size).sum = x := ⟨_, rfl⟩
      have HG0 := Lib.hid (show goS m left vs = R by rw [← HR.out, ← hm, ← Hn0.out, Hkl.out])
      have Hm := Lib.hid (show m + sizeL vs ≤ 1000000000000 by have h1 := Hb.out; have h2 := Hn0.out; have h3 := Hkl.out; omega)
      rw [hm]
      clear htl hm
      go_wp2
      go_loopw [33, 5] (fun iv nv wr => ∃ i n1 : Nat, iv = .int .i64 i ∧ i ≤ len ∧ nv = .int .i64 n1 ∧ Hid (goS n1 left (vs.drop i) = R) ∧ Hid (n1 + sizeL (vs.drop i) ≤ 1000000000000) ∧ Hid (Keeps Nob W wr)) (fun iv _ _ => len - (intOf iv).toNat)
      case atStart => exact ⟨0, m, rfl, Nat.zero_le _, rfl, HG0, Hm, HK1⟩
      case round =>
       obtain ⟨i, n1, rfl, hi, rfl, HG, Hn1, HKr⟩ := hrel
       by_cases hlt : i < len
       · have hdrop := dropJ (vs := vs) (j := i) (by rw [Hlen.out]; exact hlt)
         obtain ⟨b', o, rfl, -, h6⟩ := HA.out i (by rw [Hlen.out]; exact hlt)
         obtain ⟨⟨e0, e1, e2⟩, e3, e4, e5⟩ := h6.keep (HW.out.trans HKr.out (fun _ _ h => h)) id
         have hg := HG.out
         have hnn := Hn1.out
         rw [hdrop] at hg hnn
         unfold goS at hg
         unfold sizeL at hnn
         have hsix := (HV.out i (by rw [Hlen.out]; exact hlt)).six
         have hrun := IH.out i (by rw [Hlen.out]; exact hlt)
         have hsle := (sizeS_le (vs.getD i default) (left - n1)).1
         generalize vs.getD i default = vj at *
         have hn1i : (n1 : Int) ≤ 1000000000000 := by omega
         generalize u i 0 = x0 at *
         generalize u i 1 = x1 at *
         generalize u i 2 = x2 at *
         generalize u i 3 = x3 at *
         generalize u i 4 = x4 at *
         generalize u i 5 = x5 at *
         obtain ⟨y0, y1, y2, y3, yA, yn, yc, yB, ym, yd, ⟨rfl, rfl, rfl⟩, rfl, rfl, rfl⟩ := hsix
         have hleftI : (left : Int) ≤ 1000000000000 := by omega
         by_cases hout : left < n1
         · rw [if_pos hout] at hg
           have HRR := Lib.hid hg
           have hti : (left : Int) < (n1 : Int) := by omega
           clear hg hnn hrun hsle hdrop h6 hout
           go_wp2_with (first
            | ((with_reducible refine at_dst (N := 9) rfl ?_); go_must (refine ev_alloc rfl rfl zero25 rfl ?_; intro g5 w2 hg5 hl5 hb5 hk5)
               have Hb5 := Lib.hid hb5
               have HK2 := Lib.hid hk5
               clear hb5 hk5
               (try simp only [PU]))
            | ((with_reducible refine at_store (t := 25) (p := 9) rfl ?_); go_must (refine ev_store (cs' := #[.int .i64 y0, .bool y1, .int .i64 y2, .string y3, .slice yA yn yc, .slice yB ym yd]) rfl rfl rfl rfl rfl rfl HI.out.1 HI.out.2 rfl Hb5.out (Nat.le_of_ble_eq_true rfl) rfl ?_; intro w3 hb3 hk3)
               have s0 := (blk_cell hb3 0).trans rfl
               have s1 := (blk_cell hb3 1).trans rfl
               have s2 := (blk_cell hb3 2).trans rfl
               have s3 := (blk_cell hb3 3).trans rfl
               have s4 := (blk_cell hb3 4).trans rfl
               have s5 := (blk_cell hb3 5).trans rfl
               have HK3 := Lib.hid (show Keeps Nob W w3 from HKr.out.trans (HK2.out.own hk3 hg5) (fun _ _ h => h))
               clear hb3 hk3
               (try simp only [PU]))
           )
           go_ret
           rw [← HRR.out]
           exact ⟨rfl, HK3.out⟩
         · rw [if_neg hout] at hg
           have hti : ¬ (left : Int) < (n1 : Int) := by omega
           have hsub : (left : Int) - (n1 : Int) = ((left - n1 : Nat) : Int) := by omega
           have Hrun := Lib.hid (fun W' hk => hrun W' (left - n1) hk (by omega) (by omega))
           obtain ⟨d, hd⟩ : ∃ d, left - n1 = d := ⟨_, rfl⟩
           rw [hd] at hg hsub Hrun hsle
           obtain ⟨m1, hm1⟩ : ∃ m, sizeS vj d = m := ⟨_, rfl⟩
           rw [hm1] at hg hsle
           have Hm1 := Lib.hid hm1
           have HGn := Lib.hid hg
           have hm1i : (m1 : Int) ≤ 1000000000000 := by omega
           have Hnn := Lib.hid (show n1 + m1 + sizeL (vs.drop (i + 1)) ≤ 1000000000000 by omega)
           clear hg hnn hrun hsle hdrop h6 hout hd hm1
           go_wp2_with (first
            | ((with_reducible refine at_dst (N := 9) rfl ?_); go_must (refine ev_alloc rfl rfl zero25 rfl ?_; intro g5 w2 hg5 hl5 hb5 hk5)
               have Hb5 := Lib.hid hb5
               have HK2 := Lib.hid hk5
               clear hb5 hk5
               (try simp only [PU]))
            | ((with_reducible refine at_store (t := 25) (p := 9) rfl ?_); go_must (refine ev_store (cs' := #[.int .i64 y0, .bool y1, .int .i64 y2, .string y3, .slice yA yn yc, .slice yB ym yd]) rfl rfl rfl rfl rfl rfl HI.out.1 HI.out.2 rfl Hb5.out (Nat.le_of_ble_eq_true rfl) rfl ?_; intro w3 hb3 hk3)
               have s0 := (blk_cell hb3 0).trans rfl
               have s1 := (blk_cell hb3 1).trans rfl
               have s2 := (blk_cell hb3 2).trans rfl
               have s3 := (blk_cell hb3 3).trans rfl
               have s4 := (blk_cell hb3 4).trans rfl
               have s5 := (blk_cell hb3 5).trans rfl
               have HK3 := Lib.hid (show Keeps Nob W w3 from HKr.out.trans (HK2.out.own hk3 hg5) (fun _ _ h => h))
               clear hb3 hk3
               (try simp only [PU]))
            | (go_at_call 34; go_must (refine (Hrun.out w3 (HW.out.trans HK3.out (fun _ _ h => h))).mono ?_; rintro e w4 ⟨rfl, hk4⟩); rw [Hm1.out]; have HK4 := Lib.hid (HK3.out.trans hk4 (fun _ _ h => h)); clear hk4; (try simp only [PU]))
           )
           go_roundw
           case rel => exact ⟨i + 1, n1 + m1, by go_num, by omega, by first | rfl | (congr 1), HGn, Hnn, HK4⟩
           case measure => simp [intOf]; omega
       · have hi' : i = len := by omega
         subst hi'
         have HRR := Lib.hid (show n1 = R by
          have hg := HG.out
          rw [List.drop_of_length_le (by rw [Hlen.out]; exact Nat.le_refl _)] at hg
          unfold goS at hg
          exact hg)
         go_wp2
         go_ret
         rw [← HRR.out]
         exact ⟨rfl, HKr.out⟩
end Go.Proofs.WV

namespace Go.Proofs.WV
open Go.RowKit Go.Proofs.KL Go.Proofs.WM
set_option maxRecDepth 100000
set_option linter.unusedSimpArgs false
set_option linter.unusedVariables false

def smallJ (vs : List J) : Bool := vs.all fun j => decide (sizeJ j ≤ 3000)
set_option maxHeartbeats 4000000 in
theorem small12 {W : World} {X : Nat → Prop} {A : Option Addr} {len c : Nat} {vs : List J} (h : JsX W X (.slice A len c) vs) (hb : ∀ j ∈ vs, sizeJ j ≤ 1000000000000) (hlen : len ≤ 1000000000) : Calls Tryd.prog 12 #[.slice A len c] W fun e w' => e = .returned (.bool (smallJ vs)) ∧ Keeps Nob W w' := by
 obtain ⟨A', c', u, e, hc, hA, hv⟩ := h
 injection e with e1 e2 e3
 subst e1; subst e3
 obtain ⟨i25, hi25, hs25⟩ := info25
 have HI := Lib.hid (And.intro hi25 hs25)
 have Hlen := Lib.hid e2
 have HA := Lib.hid hA
 have HV := Lib.hid hv
 have Hb := Lib.hid hb
 obtain ⟨R, hR⟩ : ∃ x, smallJ vs = x := ⟨_, rfl⟩
 have HR := Lib.hid hR
 rw [hR]
 have hli : (len : Int) ≤ 1000000000 := by omega
 clear e2 hA hv hb hR hi25 hs25 hc
 go_enter Tryd.func12, Tryd.ntmps12
 go_wp2
 go_loopw [7] (fun iv wr => ∃ i : Nat, iv = .int .i64 i ∧ i ≤ len ∧ Hid (smallJ (vs.drop i) = R) ∧ Hid (Keeps Nob W wr)) (fun iv _ => len - (intOf iv).toNat)
 case atStart => exact ⟨0, rfl, Nat.zero_le _, HR, Lib.hid (Keeps.refl _ _)⟩
 case round =>
  obtain ⟨i, rfl, hi, HG, HKr⟩ := hrel
  by_cases hlt : i < len
  · have hdrop := dropJ (vs := vs) (j := i) (by rw [← Hlen.out]; exact hlt)
    obtain ⟨b', o, rfl, -, h6⟩ := HA.out i (by rw [← Hlen.out]; exact hlt)
    obtain ⟨⟨e0, e1, e2⟩, e3, e4, e5⟩ := h6.keep HKr.out id
    have hg := HG.out
    rw [hdrop] at hg
    have hg' : (decide (sizeJ (vs.getD i default) ≤ 3000) && smallJ (vs.drop (i + 1))) = R := hg
    have hjx := HV.out i (by rw [← Hlen.out]; exact hlt)
    have hsix := hjx.six
    have hbv := Hb.out (vs.getD i default) (by
     rw [List.getD_eq_getElem?_getD, List.getElem?_eq_getElem (by rw [← Hlen.out]; exact hlt)]
     exact List.getElem_mem _)
    have hsi := sizeS_iff (vs.getD i default) 3000
    have hsb := (sizeS_le (vs.getD i default) 3000).1
    have Hrun := Lib.hid (fun W' (hk : Keeps Nob W W') => size34 hjx W' 3000 hk hbv (by decide))
    generalize vs.getD i default = vj at *
    generalize u i 0 = x0 at *
    generalize u i 1 = x1 at *
    generalize u i 2 = x2 at *
    generalize u i 3 = x3 at *
    generalize u i 4 = x4 at *
    generalize u i 5 = x5 at *
    obtain ⟨y0, y1, y2, y3, yA, yn, yc, yB, ym, yd, ⟨rfl, rfl, rfl⟩, rfl, rfl, rfl⟩ := hsix
    obtain ⟨m, hm⟩ : ∃ m, sizeS vj 3000 = m := ⟨_, rfl⟩
    rw [hm] at hsi hsb
    have Hm := Lib.hid hm
    by_cases hbig : 3000 < m
    · have HRR := Lib.hid (show false = R by rw [← hg', decide_eq_false (by have := hsi.1 hbig; omega)]; rfl)
      have hmi : (3000 : Int) < (m : Int) := by omega
      clear hg hg' hdrop h6 hsi hsb hm hjx hbv hbig
      go_wp2_with (first
       | ((with_reducible refine at_dst (N := 4) rfl ?_); go_must (refine ev_alloc rfl rfl zero25 rfl ?_; intro g5 w2 hg5 hl5 hb5 hk5)
          have Hb5 := Lib.hid hb5
          have HK2 := Lib.hid hk5
          clear hb5 hk5
          (try simp only [PU]))
       | ((with_reducible refine at_store (t := 25) (p := 4) rfl ?_); go_must (refine ev_store (cs' := #[.int .i64 y0, .bool y1, .int .i64 y2, .string y3, .slice yA yn yc, .slice yB ym yd]) rfl rfl rfl rfl rfl rfl HI.out.1 HI.out.2 rfl Hb5.out (Nat.le_of_ble_eq_true rfl) rfl ?_; intro w3 hb3 hk3)
          have s0 := (blk_cell hb3 0).trans rfl
          have s1 := (blk_cell hb3 1).trans rfl
          have s2 := (blk_cell hb3 2).trans rfl
          have s3 := (blk_cell hb3 3).trans rfl
          have s4 := (blk_cell hb3 4).trans rfl
          have s5 := (blk_cell hb3 5).trans rfl
          have HK3 := Lib.hid (show Keeps Nob W w3 from HKr.out.trans (HK2.out.own hk3 hg5) (fun _ _ h => h))
          clear hb3 hk3
          (try simp only [PU]))
       | (go_at_call 34; go_must (refine (Hrun.out w3 HK3.out).mono ?_; rintro e w4 ⟨rfl, hk4⟩); rw [Hm.out]; have HK4 := Lib.hid (HK3.out.trans hk4 (fun _ _ h => h)); clear hk4; (try simp only [PU]))
      )
      go_ret
      rw [← HRR.out]
      exact ⟨rfl, HK4.out⟩
    · have HRR := Lib.hid (show smallJ (vs.drop (i + 1)) = R by rw [← hg', decide_eq_true (by rcases Nat.lt_or_ge 3000 (sizeJ vj) with h | h; exact absurd (hsi.2 h) hbig; exact h)]; rfl)
      have hmi : ¬ (3000 : Int) < (m : Int) := by omega
      clear hg hg' hdrop h6 hsi hsb hm hjx hbv hbig
      go_wp2_with (first
       | ((with_reducible refine at_dst (N := 4) rfl ?_); go_must (refine ev_alloc rfl rfl zero25 rfl ?_; intro g5 w2 hg5 hl5 hb5 hk5)
          have Hb5 := Lib.hid hb5
          have HK2 := Lib.hid hk5
          clear hb5 hk5
          (try simp only [PU]))
       | ((with_reducible refine at_store (t := 25) (p := 4) rfl ?_); go_must (refine ev_store (cs' := #[.int .i64 y0, .bool y1, .int .i64 y2, .string y3, .slice yA yn yc, .slice yB ym yd]) rfl rfl rfl rfl rfl rfl HI.out.1 HI.out.2 rfl Hb5.out (Nat.le_of_ble_eq_true rfl) rfl ?_; intro w3 hb3 hk3)
          have s0 := (blk_cell hb3 0).trans rfl
          have s1 := (blk_cell hb3 1).trans rfl
          have s2 := (blk_cell hb3 2).trans rfl
          have s3 := (blk_cell hb3 3).trans rfl
          have s4 := (blk_cell hb3 4).trans rfl
          have s5 := (blk_cell hb3 5).trans rfl
          have HK3 := Lib.hid (show Keeps Nob W w3 from HKr.out.trans (HK2.out.own hk3 hg5) (fun _ _ h => h))
          clear hb3 hk3
          (try simp only [PU]))
       | (go_at_call 34; go_must (refine (Hrun.out w3 HK3.out).mono ?_; rintro e w4 ⟨rfl, hk4⟩); rw [Hm.out]; have HK4 := Lib.hid (HK3.out.trans hk4 (fun _ _ h => h)); clear hk4; (try simp only [PU]))
      )
      go_roundw
      case rel => exact ⟨i + 1, by go_num, by omega, HRR, HK4⟩
      case measure => simp [intOf]; omega
  · have hi' : i = len := by omega
    subst hi'
    have HRR := Lib.hid (show true = R by
     have hg := HG.out
     rw [List.drop_of_length_le (by rw [← Hlen.out]; exact Nat.le_refl _)] at hg
     exact hg)
    go_wp2
    go_ret
    rw [← HRR.out]
    exact ⟨rfl, HKr.out⟩
end Go.Proofs.WV

namespace Go.Proofs.WV
open Go.RowKit Go.Proofs.KL Go.Proofs.WM
set_option maxRecDepth 100000
set_option linter.unusedSimpArgs false
set_option linter.unusedVariables false

theorem head52 {W : World} {X : Nat → Prop} {A : Option Addr} {n c : Nat} {s : Bs} (hb : BytesX W X (.slice A n c) s) (hl : n ≤ 2000000000) : Calls Tryd.prog 52 #[.slice A n c] W (HeadEnd W (headH s)) := by
 by_cases h : s.take 8 = beginB.take s.length
 · exact head_yes hb hl h
 · have e : headH s = (0, 0, false, false) := by unfold headH; rw [if_neg h]
   rw [e]
   exact head_no hb h
def growRen : Go.Shelf.Ren := ⟨fun | 4 => 88 | n => n, fun | 22 => 38 | 25 => 5 | n => n, fun | n => n⟩
theorem laysGrow : Go.Proofs.Lays8.n4 Tryd.prog growRen := {
 mixed := by kernel_rfl
 f4 := ⟨Tryd.f88.name, by decide, Tryd.func88.trans (congrArg some (by kernel_rfl))⟩
 t0 := Tryd.underlying0
 a0 := Tryd.isAgg0
 z0 := Tryd.sizeOf0
 v0 := Tryd.zeroValue0
 t3 := Tryd.underlying3
 a3 := Tryd.isAgg3
 z3 := Tryd.sizeOf3
 v3 := Tryd.zeroValue3
 t4 := Tryd.underlying4
 a4 := Tryd.isAgg4
 z4 := Tryd.sizeOf4
 v4 := Tryd.zeroValue4
 t9 := Tryd.underlying9
 a9 := Tryd.isAgg9
 z9 := Tryd.sizeOf9
 v9 := Tryd.zeroValue9
 t20 := Tryd.underlying20
 a20 := Tryd.isAgg20
 z20 := Tryd.sizeOf20
 v20 := Tryd.zeroValue20
 t22 := Tryd.underlying38
 a22 := Tryd.isAgg38
 z22 := Tryd.sizeOf38
 v22 := Tryd.zeroValue38 }
def NewB (w : World) (bs : Bs) : Ending → World → Prop := fun e w' => (∃ v, e = .returned v ∧ OwnB w' w.heap.size v bs) ∧ Keeps Nob w w'
theorem grow88 (n : Nat) (hn : n ≤ 4000000000) (w : World) : Calls Tryd.prog 88 #[.slice none 0 0, .int .i64 n] w (NewB w []) := by
 by_cases h0 : n = 0
 · subst h0
   refine (Any8.slices_Grow_room laysGrow none 0 0 0 w (Nat.le_refl _) (by decide) (by decide) (Nat.le_refl _)).mono ?_
   rintro e w' ⟨rfl, rfl⟩
   exact ⟨⟨_, rfl, .inl ⟨rfl, rfl⟩⟩, Keeps.refl _ _⟩
 · obtain ⟨i, hi, hz⟩ := Option.map_eq_some_iff.1 byteT38.info
   simp only [Prod.mk.injEq] at hz
   obtain ⟨hz1, hz2, hz3⟩ := hz
   refine (Any8.slices_Grow_grow laysGrow i (.int .u8 0) hi hz1 (by omega) none 0 0 n [] w (Nat.le_refl _) (by omega) (by rw [hz3]; omega) (by omega) (by simp) (fun _ => rfl) (fun a h => by cases h)).mono ?_
   rintro e w' ⟨rfl, rfl⟩
   have hge := grownCap_ge w n 0 5
   have hle := grownCap_le_maxLen w n 0 5 (by unfold maxLen; omega)
   refine ⟨⟨_, rfl, .inr ⟨w.heap.size, grownCap w n 0 5, _, (0, 0), by rw [Nat.zero_add]; rfl, Nat.le_refl _, blk_new w.drew _, .inl (Nat.zero_le _), Nat.zero_le _, hle, ?_, by simp⟩⟩, grown_keeps _⟩
   have hzc : ∀ m, (Builtin.zeroCells (Value.int .u8 0).cells m).size = m := fun m => by simp [Builtin.zeroCells, Value.cells]
   rw [Nat.zero_add, Nat.sub_zero]
   simp only [Array.size_append, List.size_toArray, List.length_nil, hzc]
   show 0 + n + (grownCap w n 0 5 - n) = _
   omega
end Go.Proofs.WV

namespace Go.Proofs.WV
open Go.RowKit Go.Proofs.KL Go.Proofs.WM
set_option maxRecDepth 100000
set_option linter.unusedSimpArgs false
set_option linter.unusedVariables false

theorem sl_nil (n c : Nat) (w : World) : (binOp .eql 38 (.slice none n c) (.slice none 0 0)).run Tryd.prog w = .ok (.bool true) w := by kernel_rfl
theorem sl_some (b o : Nat) (sp : Option Nat) (n c : Nat) (w : World) : (binOp .eql 38 (.slice (some ⟨b, o, sp⟩) n c) (.slice none 0 0)).run Tryd.prog w = .ok (.bool false) w := by kernel_rfl
theorem OwnB.weaken {w : World} {b b' : Nat} {v : Value} {bs : Bs} (h : OwnB w b v bs) (hb : b' ≤ b) : OwnB w b' v bs := by
 rcases h with h | ⟨g, cap, cur, fz, e, hg, h⟩
 · exact .inl h
 · exact .inr ⟨g, cap, cur, fz, e, Nat.le_trans hb hg, h⟩
set_option maxHeartbeats 2000000 in
theorem clone53 {W : World} {X : Nat → Prop} {A : Option Addr} {n c : Nat} {s : Bs} (hb : BytesX W X (.slice A n c) s) (hl : n ≤ 2000000000) : Calls Tryd.prog 53 #[.slice A n c] W (NewB W s) := by
 obtain ⟨hn, hc⟩ := hb.len
 have HB := Lib.hid hb
 have Hn := Lib.hid hn
 cases A with
 | none =>
   have hs : s = [] := by
    rcases Nat.eq_zero_or_pos n with h0 | h0
    · exact List.eq_nil_of_length_eq_zero (by omega)
    · obtain ⟨b, o, e, -⟩ := hb.at h0; cases e
   have Hs := Lib.hid hs
   have hnil := sl_nil n c
   clear hb hn hs
   go_enter Tryd.func53, Tryd.ntmps53
   go_wp2
   go_ret
   exact ⟨⟨_, rfl, .inl ⟨rfl, Hs.out⟩⟩, Keeps.refl _ _⟩
 | some ad =>
   obtain ⟨b, o, sp⟩ := ad
   have hnil := sl_some b o sp n c
   clear hb hn
   go_enter Tryd.func53, Tryd.ntmps53
   go_wp2_with (first
    | ((with_reducible refine at_dst (N := 5) rfl ?_); go_must (refine ev_slice (cs := #[]) (t := 5) (n := 0) (c := 0) rfl (by first | (go_simp; done) | (go_simp; rfl)) ?_; intro g w1 hg hlg hbg hkg)
       have Hbg := Lib.hid hbg
       have Hkg := Lib.hid hkg
       have Hg := Lib.hid hg
       clear hbg hkg hg hlg
       (try simp only [PU]))
    | ((with_reducible refine at_dst (N := 7) rfl ?_); go_must (refine ev_app_sl rfl rfl byteT38 (base := W.heap.size) (bs := []) rfl (.inr ⟨g, 0, #[], (0, 0), rfl, Hg.out, Hbg.out, .inl (Nat.zero_le _), Nat.zero_le _, by decide, rfl, rfl⟩) rfl (news := s) Hn.out.symm (HB.out.keep (X' := X) Hkg.out (fun _ _ _ => id) (fun _ _ h => h)).news (by simp only [List.length_nil]; omega) Hkg.out.size ?_; intro v' w2 ho2 ha2; obtain ⟨nA, nc, hv'⟩ := ho2.slice; subst hv')
       have Ho2 := Lib.hid ho2
       have Ha2 := Lib.hid ha2
       clear ho2 ha2
       (try simp only [PU]))
   )
   go_ret
   refine ⟨⟨_, rfl, Ho2.out⟩, ?_⟩
   exact Hkg.out.trans Ha2.out.keep (fun i hi e => by have := Hg.out; have e' : i = g := Option.some.inj e; omega)
def catTo (s t : Bs) (i : Nat) : Bs := if i = 0 then [] else if i = 1 then s else s ++ t
set_option maxHeartbeats 4000000 in
theorem concat51 {W : World} {X Y : Nat → Prop} {A B : Option Addr} {n c m d g : Nat} {s t : Bs} (hg : W.heap[g]? = some (.cells #[.slice A n c, .slice B m d] 38 (0, 0))) (hs : BytesX W X (.slice A n c) s) (ht : BytesX W Y (.slice B m d) t) (hl : n ≤ 1000000000) (hl2 : m ≤ 1000000000) :
  Calls Tryd.prog 51 #[.slice (some ⟨g, 0, none⟩) 2 2] W (NewB W (s ++ t)) := by
 have h0 : W.cell? ⟨g, 0, none⟩ = some (.slice A n c) := (blk_cell hg 0).trans rfl
 have h1 : W.cell? ⟨g, 1, none⟩ = some (.slice B m d) := (blk_cell hg 1).trans rfl
 have Hg := Lib.hid hg
 have HS := Lib.hid hs
 have HT := Lib.hid ht
 have Hns := Lib.hid hs.len.1
 have Hnt := Lib.hid ht.len.1
 have H88 := Lib.hid (fun (k : Nat) (hk : k ≤ 4000000000) w => grow88 k hk w)
 clear hg hs ht
 go_enter Tryd.func51, Tryd.ntmps51
 go_upto_region 3 with fail
 go_loopg [11, 3] 2 (fun K iv sv wr => ∃ i : Nat, iv = .int .i64 i ∧ i + K = 2 ∧ sv = .int .i64 ((if i = 0 then 0 else if i = 1 then n else n + m : Nat) : Int) ∧ Hid (wr = W))
 case atStart => exact ⟨0, rfl, rfl, rfl, Lib.hid rfl⟩
 case round =>
  obtain ⟨i, rfl, hik, rfl, Hw⟩ := hrel
  have hw : W = wr := Hw.out.symm
  subst hw
  rcases (show i = 0 ∨ i = 1 ∨ i = 2 by omega) with e | e | e
  · subst e
    simp only [if_true, Int.natCast_zero] at *
    go_wp2
    go_roundg 1
    case measure => omega
    case rel => exact ⟨1, rfl, rfl, by simp, Lib.hid rfl⟩
  · subst e
    simp only [if_neg (show ¬ (1 : Nat) = 0 by decide), if_true] at *
    go_wp2
    go_roundg 0
    case measure => omega
    case rel => exact ⟨2, rfl, rfl, by simp, Lib.hid rfl⟩
  · subst e
    simp only [if_neg (show ¬ (2 : Nat) = 0 by decide), if_neg (show ¬ (2 : Nat) = 1 by decide)] at *
    have hcast : ((n + m : Nat) : Int) = (n : Int) + m := by omega
    obtain ⟨k, hk⟩ : ∃ k, n + m = k := ⟨_, rfl⟩
    have Hk := Lib.hid (show k ≤ 4000000000 by omega)
    rw [hk]
    clear hcast hk
    go_upto_region 11 with (first
     | (go_at_call 88; go_must (refine (H88.out k Hk.out _).mono ?_; rintro e w1 ⟨⟨v1, rfl, ho1⟩, hk1⟩; obtain ⟨vA, vc, hv1⟩ := ho1.slice; subst hv1)
        have Ho1 := Lib.hid ho1
        have Hk1 := Lib.hid hk1
        clear ho1 hk1
        (try simp only [PU]))
    )
    clear h0 h1
    go_loopg [27, 6] 2 (fun K iv rv wr => ∃ (i : Nat) (R : Option Addr) (rn rc : Nat), iv = .int .i64 i ∧ i + K = 2 ∧ rv = .slice R rn rc ∧ Hid (OwnB wr W.heap.size (.slice R rn rc) (catTo s t i)) ∧ Hid (Keeps Nob W wr))
    case atStart => exact ⟨0, vA, 0, vc, rfl, rfl, rfl, Ho1, Hk1⟩
    case round =>
     obtain ⟨i, R, rn, rc, rfl, hik, rfl, HO, HK⟩ := hrel
     have h0 : wr.cell? ⟨g, 0, none⟩ = some (.slice A n c) := (blk_cell (HK.out.blk Hg.out id) 0).trans rfl
     have h1 : wr.cell? ⟨g, 1, none⟩ = some (.slice B m d) := (blk_cell (HK.out.blk Hg.out id) 1).trans rfl
     have HS2 := Lib.hid (HS.out.keep (X' := X) HK.out (fun _ _ _ => id) (fun _ _ h => h))
     have HT2 := Lib.hid (HT.out.keep (X' := Y) HK.out (fun _ _ _ => id) (fun _ _ h => h))
     rcases (show i = 0 ∨ i = 1 ∨ i = 2 by omega) with e | e | e
     · subst e
       go_wp2_with (first
        | ((with_reducible refine at_dst (N := 33) rfl ?_); go_must (refine ev_app_sl rfl rfl byteT38 (base := W.heap.size) (bs := []) rfl HO.out rfl (news := s) Hns.out.symm HS2.out.news (by simp only [List.length_nil]; omega) HK.out.size ?_; intro v' w3 ho2 ha2; obtain ⟨nA, nc, hv'⟩ := ho2.slice; subst hv')
           have Ho2 := Lib.hid ho2
           have Hk2 := Lib.hid (HK.out.trans ha2.keep (fun i hi e => by have := (HO.out.lt i e.symm).1; omega))
           clear ho2 ha2
           (try simp only [PU]))
       )
       go_roundg 1
       case measure => omega
       case rel => exact ⟨1, _, _, _, rfl, rfl, rfl, Ho2, Hk2⟩
     · subst e
       go_wp2_with (first
        | ((with_reducible refine at_dst (N := 33) rfl ?_); go_must (refine ev_app_sl rfl rfl byteT38 (base := W.heap.size) (bs := s) rfl HO.out rfl (news := t) Hnt.out.symm HT2.out.news (by have := Hns.out; omega) HK.out.size ?_; intro v' w3 ho2 ha2; obtain ⟨nA, nc, hv'⟩ := ho2.slice; subst hv')
           have Ho2 := Lib.hid ho2
           have Hk2 := Lib.hid (HK.out.trans ha2.keep (fun i hi e => by have := (HO.out.lt i e.symm).1; omega))
           clear ho2 ha2
           (try simp only [PU]))
       )
       go_roundg 0
       case measure => omega
       case rel => exact ⟨2, _, _, _, rfl, rfl, rfl, Ho2, Hk2⟩
     · subst e
       go_wp2
       go_ret
       exact ⟨⟨_, rfl, HO.out⟩, HK.out⟩
end Go.Proofs.WV

namespace Go.Proofs.WV
open Go.RowKit Go.Proofs.KL Go.Proofs.WM
set_option linter.unusedVariables false

abbrev lz : Value := .slice none 0 0
def OwnL (W : World) (lo : Nat) (v : Value) (ls : List Bs) : Prop :=
 ∃ xs : List Value, W.ownsRow lo 38 1 v ls.length xs ∧ ∀ i, i < ls.length → ∃ A n c, xs.getD i lz = .slice A n c ∧ BytesX W (fun b => lo ≤ b ∧ b < W.heap.size ∧ some b ≠ v.ownBlock) (.slice A n c) (ls.getD i [])
theorem OwnL.nil (W : World) (lo : Nat) : OwnL W lo (.slice none 0 0) [] := ⟨[], ⟨rfl, .inl ⟨rfl, rfl⟩⟩, fun i h => absurd h (Nat.not_lt_zero _)⟩
theorem ownsRow_lt {W : World} {lo n sz : Nat} {t : TypeId} {v : Value} {xs : List Value} (h : W.ownsRow lo t sz v n xs) : ∀ k, v.ownBlock = some k → lo ≤ k ∧ k < W.heap.size := fun k hk => by
 rcases h.2 with ⟨rfl, _⟩ | ⟨g, cap, cur, rfl, hb, hg, _⟩
 · cases hk
 · simp only [Value.ownBlock, Option.some.injEq] at hk; subst hk; exact ⟨hb, blk_lt hg⟩
theorem ownsRow_keep {M : Nat → Prop} {W W' : World} {lo n sz : Nat} {t : TypeId} {v : Value} {xs : List Value} (h : W.ownsRow lo t sz v n xs) (hk : Keeps M W W') (hn : ∀ k, v.ownBlock = some k → ¬ M k) : W'.ownsRow lo t sz v n xs := by
 obtain ⟨hl, h⟩ := h
 refine ⟨hl, ?_⟩
 rcases h with h | ⟨g, cap, cur, rfl, hb, hg, h⟩
 · exact .inl h
 · exact .inr ⟨g, cap, cur, rfl, hb, hk.blk hg (hn g rfl), h⟩
theorem OwnL.lt {W : World} {lo : Nat} {v : Value} {ls : List Bs} (h : OwnL W lo v ls) : ∀ k, v.ownBlock = some k → lo ≤ k ∧ k < W.heap.size := by
 obtain ⟨xs, hr, -⟩ := h
 exact ownsRow_lt hr
theorem OwnL.keep {M : Nat → Prop} {W W' : World} {lo : Nat} {v : Value} {ls : List Bs} (h : OwnL W lo v ls) (hk : Keeps M W W') (hM : ∀ b, b < W.heap.size → M b → b < lo) : OwnL W' lo v ls := by
 obtain ⟨xs, hr, hp⟩ := h
 refine ⟨xs, ownsRow_keep hr hk (fun k hk' hm => by have := ownsRow_lt hr k hk'; have := hM k this.2 hm; omega), fun i hi => ?_⟩
 obtain ⟨A, n, c, e, hb⟩ := hp i hi
 exact ⟨A, n, c, e, hb.keep hk (fun b hl hx hm => by have := hM b hl hm; have := hx.1; omega) (fun b hl hx => ⟨hx.1, Nat.lt_of_lt_of_le hl hk.size, hx.2.2⟩)⟩
theorem OwnL.slice {W : World} {lo : Nat} {v : Value} {ls : List Bs} (h : OwnL W lo v ls) : ∃ A c, v = .slice A ls.length c ∧ ls.length ≤ c := by
 obtain ⟨xs, hr, -⟩ := h
 rcases hr.2 with ⟨rfl, h0⟩ | ⟨g, cap, cur, rfl, _, _, hc, _⟩
 · exact ⟨none, 0, by rw [h0], by omega⟩
 · exact ⟨_, cap, rfl, hc⟩
theorem OwnL.push {W w1 : World} {lo : Nat} {v v' : Value} {ls : List Bs} {xs : List Value} (hr : W.ownsRow lo 38 1 v ls.length xs) (hp : ∀ i, i < ls.length → ∃ A n c, xs.getD i lz = .slice A n c ∧ BytesX W (fun b => lo ≤ b ∧ b < W.heap.size ∧ some b ≠ v.ownBlock) (.slice A n c) (ls.getD i []))
  {A : Option Addr} {n c : Nat} {x : Bs} (hx : BytesX W (fun b => lo ≤ b ∧ b < W.heap.size ∧ some b ≠ v.ownBlock) (.slice A n c) x) (hr1 : w1.ownsRow lo 38 1 v' (ls.length + 1) (xs ++ [.slice A n c])) (hk : Keeps (fun k => some k = v.ownBlock) W w1)
  (hrow : v'.ownBlock = v.ownBlock ∨ ∃ b, v'.ownBlock = some b ∧ W.heap.size ≤ b) : OwnL w1 lo v' (ls ++ [x]) := by
 have hxl : xs.length = ls.length := by have := hr.1; omega
 have keep : ∀ {A n c y}, BytesX W (fun b => lo ≤ b ∧ b < W.heap.size ∧ some b ≠ v.ownBlock) (.slice A n c) y → BytesX w1 (fun b => lo ≤ b ∧ b < w1.heap.size ∧ some b ≠ v'.ownBlock) (.slice A n c) y := fun h =>
  h.keep hk (fun b _ hb hm => hb.2.2 hm) (fun b hl hb => ⟨hb.1, Nat.lt_of_lt_of_le hl hk.size, fun e => by
   rcases hrow with e' | ⟨b', e', hb'⟩
   · exact hb.2.2 (by rw [e, e'])
   · rw [e'] at e; injection e with e; omega⟩)
 refine ⟨xs ++ [.slice A n c], by rw [List.length_append]; exact hr1, fun i hi => ?_⟩
 rw [List.length_append] at hi
 simp only [List.length_cons, List.length_nil] at hi
 by_cases hl : i < ls.length
 · obtain ⟨A', n', c', e, hb⟩ := hp i hl
   refine ⟨A', n', c', ?_, ?_⟩
   · rw [List.getD_eq_getElem?_getD, List.getElem?_append_left (by omega), ← List.getD_eq_getElem?_getD]; exact e
   · rw [List.getD_eq_getElem?_getD, List.getElem?_append_left hl, ← List.getD_eq_getElem?_getD]; exact keep hb
 · have e : i = ls.length := by omega
   subst e
   refine ⟨A, n, c, ?_, ?_⟩
   · rw [List.getD_eq_getElem?_getD, List.getElem?_append_right (by omega), hxl, Nat.sub_self]; rfl
   · rw [List.getD_eq_getElem?_getD, List.getElem?_append_right (Nat.le_refl _), Nat.sub_self]; exact keep hx
def FdX (W : World) (rb : Nat) (kb : Option Nat) (waits : Bs) (dead : Bool) : Prop :=
 ∃ A n c, W.heap[rb]? = some (.cells #[.slice A n c, .bool true, .bool dead] 41 (0, 0)) ∧ BytesX W (fun b => some b = kb) (.slice A n c) waits
theorem FdX.keep {M : Nat → Prop} {W W' : World} {rb : Nat} {kb : Option Nat} {waits : Bs} {dead : Bool} (h : FdX W rb kb waits dead) (hk : Keeps M W W') (hr : ¬ M rb) (hb : ∀ b, some b = kb → ¬ M b) : FdX W' rb kb waits dead := by
 obtain ⟨A, n, c, hblk, hx⟩ := h
 exact ⟨A, n, c, hk.blk hblk hr, hx.keep hk (fun b _ hx => hb b hx) (fun _ _ h => h)⟩
theorem headH_le (s : Bs) : (headH s).1 ≤ s.length + 4 ∧ (headH s).2.1 ≤ 1000000 := by
 unfold headH
 split
 · rcases hn : numH false 0 (s.drop 8) with _ | ⟨any, n, r⟩
   · exact ⟨Nat.zero_le _, Nat.zero_le _⟩
   · have h := (numH_suf hn (by omega)).1
     simp only [tailH]
     split
     · exact ⟨Nat.zero_le _, Nat.zero_le _⟩
     split
     · exact ⟨Nat.zero_le _, Nat.zero_le _⟩
     · exact ⟨by show s.length - r.length + 4 ≤ _; omega, h⟩
 · exact ⟨Nat.zero_le _, Nat.zero_le _⟩
theorem feedF_step (f : Nat) (out : List Bs) (w : Bs) : feedF (f + 1) out w = match frOf w (headH w) with
  | .bad => ⟨out, [], true⟩
  | .part => ⟨out, w, false⟩
  | .whole x r => feedF f (out ++ [x]) r := by
 rw [← frame_head]
 (conv => lhs; unfold feedF) <;> (cases frameB w <;> rfl)
end Go.Proofs.WV

namespace Go.Proofs.WV
open Go.RowKit Go.Proofs.KL Go.Proofs.WM
set_option maxRecDepth 100000
set_option linter.unusedSimpArgs false
set_option linter.unusedVariables false

theorem info38b : (Tryd.prog.info? 38).map (fun i => (i.zero, i.size, i.bytes)) = some (some (.slice none 0 0), 1, 24) := by kernel_rfl
theorem infoS38 : ∃ i, Tryd.prog.info? 38 = some i ∧ i.size = 1 := by
 have h : (Tryd.prog.info? 38).map (·.size) = some 1 := by kernel_rfl
 obtain ⟨i, hi, hs⟩ := Option.map_eq_some_iff.1 h
 exact ⟨i, hi, hs⟩
theorem infoS4 : ∃ i, Tryd.prog.info? 4 = some i ∧ i.size = 1 := by
 have h : (Tryd.prog.info? 4).map (·.size) = some 1 := by kernel_rfl
 obtain ⟨i, hi, hs⟩ := Option.map_eq_some_iff.1 h
 exact ⟨i, hi, hs⟩
theorem ptr39_s (g : Nat) (w : World) : (binOp .eql 39 (.pointer (some ⟨g, 0, none⟩)) (.pointer none)).run Tryd.prog w = .ok (.bool false) w := by kernel_rfl
def FeedEnd (W0 : World) (rb : Nat) (F : Fed) (e : Ending) (w' : World) : Prop :=
 (∃ ov, e = .returned (.tuple #[ov, .int .i64 (if F.dead = true then 4 else 0)]) ∧ OwnL w' W0.heap.size ov F.out) ∧ (∃ kb, (∀ b, kb = some b → W0.heap.size ≤ b ∧ b < w'.heap.size) ∧ FdX w' rb kb F.waits F.dead) ∧ Keeps (· = rb) W0 w'
set_option maxHeartbeats 8000000 in
theorem feed21 {W : World} {rb : Nat} {kb : Option Nat} {ws bs : Bs} {X : Nat → Prop} {B : Option Addr} {m d : Nat} (h : FdX W rb kb ws false) (hb : BytesX W X (.slice B m d) bs) (hw : ws.length ≤ 999000000) (hm : m ≤ 1000000) :
  Calls Tryd.prog 21 #[.pointer (some ⟨rb, 0, none⟩), .slice B m d] W (FeedEnd W rb (feedB ws bs)) := by
 obtain ⟨A, n, c, hblk, hx⟩ := h
 obtain ⟨i38, hi38, hs38⟩ := infoS38
 obtain ⟨i4, hi4, hs4⟩ := infoS4
 have HI := Lib.hid (And.intro (And.intro hi38 hs38) (And.intro hi4 hs4))
 have hnil := ptr39_s rb
 have hmi : (m : Int) ≤ 1000000 := by omega
 have Hn := Lib.hid hx.len.1
 have Hm := Lib.hid hb.len.1
 have Hblk := Lib.hid hblk
 have HX := Lib.hid hx
 have HB := Lib.hid hb
 have Hrb := Lib.hid (blk_lt hblk)
 have Hw := Lib.hid hw
 have Hmm := Lib.hid hm
 have c0 : W.cell? ⟨rb, 0, none⟩ = some (.slice A n c) := (blk_cell hblk 0).trans rfl
 have c1 : W.cell? ⟨rb, 1, none⟩ = some (.bool true) := (blk_cell hblk 1).trans rfl
 have c2 : W.cell? ⟨rb, 2, none⟩ = some (.bool false) := (blk_cell hblk 2).trans rfl
 obtain ⟨R, hR⟩ : ∃ x, feedB ws bs = x := ⟨_, rfl⟩
 have HR := Lib.hid hR
 rw [hR]
 clear hblk hx hb hi38 hs38 hi4 hs4 hw hm hR
 go_enter Tryd.func21, Tryd.ntmps21
 go_wp2_with (first
  | ((with_reducible refine at_dst (N := 36) rfl ?_); go_must (refine ev_slice (cs := #[.slice A n c, .slice B m d]) (t := 38) (n := 2) (c := 2) rfl (by first | (go_simp; done) | (go_simp; rfl)) ?_; intro gt w1 hgt hlt hbt hkt)
     have Hbt := Lib.hid hbt
     have Hk1 := Lib.hid hkt
     clear hbt hkt hgt hlt c0 c1 c2
     (try simp only [PU]))
  | (go_at_call 51; go_must (refine (concat51 Hbt.out (HX.out.keep (X' := fun b => some b = kb) Hk1.out (fun _ _ _ => id) (fun _ _ h => h)) (HB.out.keep (X' := X) Hk1.out (fun _ _ _ => id) (fun _ _ h => h)) (by have := Hn.out; have := Hw.out; omega) (by have := Hmm.out; omega)).mono ?_; rintro e w2 ⟨⟨v2, rfl, ho2⟩, hk2⟩; obtain ⟨cA, cc, hv2⟩ := ho2.slice; subst hv2)
     have Ho2 := Lib.hid (OwnB.weaken ho2 Hk1.out.size)
     have Hk2 := Lib.hid (Hk1.out.trans hk2 (fun _ _ h => h))
     have Hbr := Lib.hid (Hk2.out.blk Hblk.out id)
     clear ho2 hk2
     generalize hL0 : (ws ++ bs).length = L0 at *
     have HL0 := Lib.hid hL0
     clear hL0
     (try simp only [PU]))
  | ((with_reducible refine at_store (t := 38) rfl ?_); go_must (refine ev_store (cs' := #[.slice cA L0 cc, .bool true, .bool false]) rfl rfl rfl rfl rfl rfl HI.out.1.1 HI.out.1.2 rfl Hbr.out (Nat.le_of_ble_eq_true rfl) rfl ?_; intro w3 hb3 hk3)
     have Hbr3 := Lib.hid hb3
     have Ho3 := Lib.hid (Ho2.out.keep hk3 (fun k hk e => by have := (Ho2.out.lt k hk).1; have := Hrb.out; omega))
     have Hk3 := Lib.hid (show Keeps (· = rb) W w3 from Hk2.out.any.trans hk3 (fun _ _ h => h))
     clear hb3 hk3
     (try simp only [PU]))
 )
 obtain ⟨ws0, hws0⟩ : ∃ x, ws ++ bs = x := ⟨_, rfl⟩
 have HR0 := Lib.hid (show feedF (ws0.length + 1) [] ws0 = R by rw [← hws0]; exact HR.out)
 have hl0 : ws0.length ≤ 1000000000 := by rw [← hws0, List.length_append]; have := Hw.out; have := Hm.out; have := Hmm.out; omega
 rw [hws0] at Ho3
 have hL : L0 = ws0.length := by rw [← hws0, HL0.out]
 have Hbr3 := Lib.hid (hL ▸ Hbr3.out : w3.heap[rb]? = some (.cells #[.slice cA ws0.length cc, .bool true, .bool false] 41 (0, 0)))
 have Ho3 := Lib.hid (hL ▸ Ho3.out : OwnB w3 W.heap.size (.slice cA ws0.length cc) ws0)
 clear hL
 obtain ⟨kc, hkc⟩ : ∃ x, (Value.slice cA ws0.length cc).ownBlock = x := ⟨_, rfl⟩
 have HX3 := Lib.hid (show BytesX w3 (fun b => some b = kc) (.slice cA ws0.length cc) ws0 from (hkc ▸ Ho3.out.bytes.keep (X' := fun b => some b = (Value.slice cA ws0.length cc).ownBlock) (Keeps.refl Nob w3) (fun _ _ _ => id) (fun b _ e => e.symm)))
 have Hkc := Lib.hid (show ∀ b, kc = some b → W.heap.size ≤ b ∧ b < w3.heap.size from fun b e => Ho3.out.lt b (hkc.trans e))
 clear hws0 hkc HR
 go_loopg [6] ws0.length (fun K ov wr => ∃ (oA : Option Addr) (oc : Nat) (A' : Option Addr) (c' f : Nat) (out : List Bs) (r : Bs), ov = .slice oA out.length oc ∧ r.length ≤ K ∧ r.length ≤ 1000000000 ∧ out.length + r.length ≤ 1000000000 ∧ Hid (r.length < f) ∧ Hid (OwnL wr W.heap.size (.slice oA out.length oc) out) ∧ Hid (wr.heap[rb]? = some (.cells #[.slice A' r.length c', .bool true, .bool false] 41 (0, 0))) ∧ Hid (BytesX wr (fun b => some b = kc) (.slice A' r.length c') r) ∧ Hid (w3.heap.size ≤ wr.heap.size) ∧ Hid (∀ b, (Value.slice oA out.length oc).ownBlock = some b → kc ≠ some b) ∧ Hid (Keeps (· = rb) W wr) ∧ Hid (feedF f out r = R))
 case atStart => exact ⟨none, 0, cA, cc, ws0.length + 1, [], ws0, rfl, Nat.le_refl _, hl0, by simpa using hl0, Lib.hid (Nat.lt_succ_self _), Lib.hid (OwnL.nil _ _), Hbr3, HX3, Lib.hid (Nat.le_refl _), Lib.hid (fun b e => by cases e), Hk3, HR0⟩
 case round =>
  obtain ⟨oA, oc, A', c', f, out, r, rfl, hlK, hlr, hlo, Hf, HO, Hbr, HX', Hsz, Hap, HK, HE⟩ := hrel
  obtain ⟨f, rfl⟩ : ∃ f', f = f' + 1 := ⟨f - 1, by have := Hf.out; omega⟩
  have hst := feedF_step f out r
  have hhd := head52 HX'.out (by omega)
  have hle := headH_le r
  have hfr := frame_head r
  have HsW := Lib.hid HK.out.size
  rcases hH : headH r with ⟨size, k, whole, may⟩
  rw [hH] at hst hhd hle hfr
  rw [HE.out] at hst
  simp only [frOf] at hst hfr
  simp only at hle
  have H52 := Lib.hid hhd
  have c0 : wr.cell? ⟨rb, 0, none⟩ = some (.slice A' r.length c') := (blk_cell Hbr.out 0).trans rfl
  obtain ⟨e, he⟩ : ∃ e, size + k = e := ⟨_, rfl⟩
  have hcast : (size : Int) + (k : Int) = (e : Int) := by omega
  rw [he] at hst hfr
  have hsz9 : (size : Int) ≤ 2000000000 := by omega
  have hk9 : (k : Int) ≤ 1000000 := by omega
  have Hek := Lib.hid (show size ≤ e ∧ e - size = k by omega)
  clear hhd hle hH HE he
  rcases may with _ | _
  · have HRR := Lib.hid (show R = ⟨out, [], true⟩ from hst)
    obtain ⟨N, hN⟩ : ∃ N, r.length = N := ⟨_, rfl⟩
    have HN := Lib.hid hN
    rw [hN] at c0 Hbr HX' H52
    clear hst hN hfr
    go_wp2_with (first
     | (go_at_call 52; go_must (refine H52.out.mono ?_; rintro e4 w4 ⟨rfl, hk4⟩)
        have HK4 := Lib.hid hk4
        have Hbr4 := Lib.hid (hk4.blk Hbr.out id)
        clear hk4 c0
        have c0 := (blk_cell Hbr4.out 0).trans rfl
        (try simp only [PU]))
     | ((with_reducible refine at_store (t := 4) rfl ?_); go_must (refine ev_store (off := 2) (cs' := #[.slice A' N c', .bool true, .bool true]) rfl rfl rfl rfl rfl rfl HI.out.2.1 HI.out.2.2 rfl Hbr4.out (Nat.le_of_ble_eq_true rfl) rfl ?_; intro w5 hb5 hk5)
        have Hb5 := Lib.hid hb5
        have Hk5 := Lib.hid (HK4.out.any.trans hk5 (fun _ _ h => h))
        clear hb5 hk5
        (try simp only [PU]))
     | ((with_reducible refine at_store (t := 38) rfl ?_); go_must (refine ev_store (cs' := #[.slice none 0 0, .bool true, .bool true]) rfl rfl rfl rfl rfl rfl HI.out.1.1 HI.out.1.2 rfl Hb5.out (Nat.le_of_ble_eq_true rfl) rfl ?_; intro w6 hb6 hk6)
        have Hb6 := Lib.hid hb6
        have Hk6 := Lib.hid (Hk5.out.trans hk6 (fun _ _ h => h))
        clear hb6 hk6
        (try simp only [PU]))
    )
    go_ret2
    rw [HRR.out]
    exact ⟨⟨_, rfl, HO.out.keep Hk6.out (fun b _ e => by rw [e]; exact Hrb.out)⟩, ⟨none, (fun b e => by cases e), none, 0, 0, Hb6.out, BytesX.nil _ _⟩, HK.out.trans Hk6.out (fun _ _ h => h)⟩
  · rcases whole with _ | _
    · have HRR := Lib.hid (show R = ⟨out, r, false⟩ from hst)
      obtain ⟨N, hN⟩ : ∃ N, r.length = N := ⟨_, rfl⟩
      have HN := Lib.hid hN
      (try rw [hN] at hlti)
      rw [hN] at c0 Hbr H52
      clear hst hN hfr
      (try clear hlt)
      go_wp2_with (first
       | (go_at_call 52; go_must (refine H52.out.mono ?_; rintro e4 w4 ⟨rfl, hk4⟩)
          have HK4 := Lib.hid hk4
          have Hbr4 := Lib.hid (hk4.blk Hbr.out id)
          clear hk4 c0
          have c0 := (blk_cell Hbr4.out 0).trans rfl
          (try simp only [PU]))
      )
      go_ret2
      rw [HRR.out]
      exact ⟨⟨_, rfl, HO.out.keep HK4.out (fun b _ h => h.elim)⟩, ⟨kc, (fun b e => ⟨(Hkc.out b e).1, Nat.lt_of_lt_of_le (Hkc.out b e).2 (Nat.le_trans Hsz.out HK4.out.size)⟩), A', N, c', Hbr4.out, by rw [← HN.out]; exact HX'.out.keep HK4.out (fun _ _ _ => id) (fun _ _ h => h)⟩, HK.out.trans HK4.out (fun _ _ h => h.elim)⟩
    · by_cases hlt : r.length < e
      · have HRR := Lib.hid (show R = ⟨out, r, false⟩ by simpa [hlt] using hst)
        have hlti : (r.length : Int) < (e : Int) := by omega
        obtain ⟨N, hN⟩ : ∃ N, r.length = N := ⟨_, rfl⟩
        have HN := Lib.hid hN
        (try rw [hN] at hlti)
        rw [hN] at c0 Hbr H52
        clear hst hN hfr
        (try clear hlt)
        go_wp2_with (first
         | (go_at_call 52; go_must (refine H52.out.mono ?_; rintro e4 w4 ⟨rfl, hk4⟩)
            have HK4 := Lib.hid hk4
            have Hbr4 := Lib.hid (hk4.blk Hbr.out id)
            clear hk4 c0
            have c0 := (blk_cell Hbr4.out 0).trans rfl
            (try simp only [PU]))
        )
        go_ret2
        rw [HRR.out]
        exact ⟨⟨_, rfl, HO.out.keep HK4.out (fun b _ h => h.elim)⟩, ⟨kc, (fun b e => ⟨(Hkc.out b e).1, Nat.lt_of_lt_of_le (Hkc.out b e).2 (Nat.le_trans Hsz.out HK4.out.size)⟩), A', N, c', Hbr4.out, by rw [← HN.out]; exact HX'.out.keep HK4.out (fun _ _ _ => id) (fun _ _ h => h)⟩, HK.out.trans HK4.out (fun _ _ h => h.elim)⟩
      · have HRR := Lib.hid (show R = feedF f (out ++ [(r.drop size).take k]) (r.drop e) by simpa [hlt] using hst)
        have Hfr := Lib.hid (show frameB r = .whole ((r.drop size).take k) (r.drop e) by simpa [hlt] using hfr)
        have hlti : ¬ (r.length : Int) < (e : Int) := by omega
        have Hdl := Lib.hid (show (r.drop e).length + 1 ≤ r.length by have := headF_len (show headF beginB r = .whole _ _ from Hfr.out); omega)
        have Hle := Lib.hid (show e ≤ r.length ∧ r.length ≤ c' by have := HX'.out.len; omega)
        have hsub := HX'.out.sub (l := size) (h := e) (by have := Hek.out; omega) (by have := Hle.out; omega)
        rw [Hek.out.2] at hsub
        have hsub2 := HX'.out.sub (l := e) (h := r.length) (by have := Hle.out; omega) (Nat.le_refl _)
        rw [List.take_of_length_le (by rw [List.length_drop]; exact Nat.le_refl _)] at hsub2
        have Hsub := Lib.hid hsub
        have Hsub2 := Lib.hid hsub2
        obtain ⟨N, hN⟩ : ∃ N, r.length = N := ⟨_, rfl⟩
        have HN := Lib.hid hN
        obtain ⟨on, hon⟩ : ∃ N, out.length = N := ⟨_, rfl⟩
        have Hon := Lib.hid hon
        rw [hN] at c0 Hbr H52 hlti Hle Hsub2
        rw [hon] at HO Hap ⊢
        rw [hN, hon] at hlo
        have hoi : (on : Int) ≤ 1000000000 := by omega
        clear hst hN hon hfr hsub hsub2 hlt
        go_wp2_with (first
         | (go_at_call 52; go_must (refine H52.out.mono ?_; rintro e4 w4 ⟨rfl, hk4⟩)
            have HK4 := Lib.hid hk4
            have Hbr4 := Lib.hid (hk4.blk Hbr.out id)
            clear hk4 c0
            have c0 := (blk_cell Hbr4.out 0).trans rfl
            (try simp only [PU]))
         | ((with_reducible refine at_dst (N := 84) rfl ?_); go_must (refine ev_sub (l := size) (h := e) rfl rfl byteT38 rfl rfl rfl Hek.out.1 (by have := Hle.out; omega) ?_; rw [Hek.out.2]); (try simp only [PU]))
         | (go_at_call 53; go_must (refine (clone53 (Hsub.out.keep (X' := fun b => some b = kc) HK4.out (fun _ _ _ => id) (fun _ _ h => h)) (by omega)).mono ?_; rintro e5 w5 ⟨⟨v5, rfl, ho5⟩, hk5⟩; obtain ⟨xA, xc, hv5⟩ := ho5.slice; subst hv5)
            have Ho5 := Lib.hid ho5
            have HK5 := Lib.hid (HK4.out.trans hk5 (fun _ _ h => h))
            have Hs4 := Lib.hid HK4.out.size
            clear ho5 hk5 c0
            (try simp only [PU]))
         | ((with_reducible refine at_dst (N := 86) rfl ?_); go_must (refine ev_slice (cs := #[.slice xA ((r.drop size).take k).length xc]) (t := 38) (n := 1) (c := 1) rfl (by first | (go_simp; done) | (go_simp; rfl)) ?_; intro gx w6 hgx hlx hbx hkx)
            have Hbx := Lib.hid hbx
            have Ho6 := Lib.hid (Ho5.out.keep hkx (fun _ _ => id))
            have HK6 := Lib.hid (HK5.out.trans hkx (fun _ _ h => h))
            clear hbx hkx hgx hlx
            (try simp only [PU]))
         | ((with_reducible refine at_dst (N := 87) rfl ?_)
            obtain ⟨xs, hrow, hp⟩ := HO.out.keep HK6.out (fun b _ h => h.elim)
            have Hp := Lib.hid hp
            have Hrow := Lib.hid hrow
            rw [Hon.out] at hrow
            have Hrn := Lib.hid hrow
            clear hp hrow
            go_must (refine ev_append rfl rfl Tryd.underlying43 info38b rfl (by decide) (base := W.heap.size) rfl Hrn.out rfl (news := [.slice xA ((r.drop size).take k).length xc]) rfl (fun _ => ⟨_, rfl, World.news_of_block Hbx.out⟩) (by simp [Value.oneCell']) (by omega) (by decide) (Nat.le_trans HsW.out HK6.out.size) ?_; intro v7 w7 hown7 hk7 hr7 hf7; obtain ⟨gr, cap, rfl⟩ := hf7 (by decide))
            have Hrow7 := Lib.hid (show (Value.slice (some ⟨gr, 0, none⟩) (on + 1) cap).ownBlock = (Value.slice oA on oc).ownBlock ∨ ∃ b, (Value.slice (some ⟨gr, 0, none⟩) (on + 1) cap).ownBlock = some b ∧ w6.heap.size ≤ b from hr7)
            have Hpush := Lib.hid (OwnL.push Hrow.out Hp.out (Ho6.out.bytes.keep (X' := fun b => W.heap.size ≤ b ∧ b < w6.heap.size ∧ some b ≠ (Value.slice oA on oc).ownBlock) (Keeps.refl Nob w6) (fun _ _ _ => id) (fun b _ hb => by
              have h1 := Ho6.out.lt b hb
              have h2 := HsW.out
              have h3 := Hs4.out
              exact ⟨by omega, h1.2, fun e => by have := (HO.out.lt b e.symm).2; omega⟩)) (by rw [Hon.out]; exact hown7) hk7 hr7)
            have Hk7 := Lib.hid hk7
            have Hbr7 := Lib.hid (hk7.blk (HK6.out.blk Hbr.out id) (fun e => by have := (HO.out.lt rb e.symm).1; have := Hrb.out; omega))
            have c07 : w7.cell? ⟨rb, 0, none⟩ = some (.slice A' N c') := (blk_cell Hbr7.out 0).trans rfl
            have Hs67 := Lib.hid (hk7.size)
            have Hw7 := Lib.hid (show Keeps (fun j => some j = (Value.slice oA on oc).ownBlock) wr w7 from HK6.out.any.trans hk7 (fun _ _ h => h))
            clear hown7 hk7 hr7 hf7
            (try simp only [PU]))
         | ((with_reducible refine at_dst (N := 96) rfl ?_); go_must (refine ev_sub_l (l := e) rfl rfl byteT38 rfl rfl Hle.out.1 ?_); (try simp only [PU]))
         | ((with_reducible refine at_store (t := 38) rfl ?_); go_must (refine ev_store (cs' := #[.slice (subA A' e c') (N - e) (c' - e), .bool true, .bool false]) rfl rfl rfl rfl rfl rfl HI.out.1.1 HI.out.1.2 rfl Hbr7.out (Nat.le_of_ble_eq_true rfl) rfl ?_; intro w8 hb8 hk8)
            have Hb8 := Lib.hid hb8
            have Hpush8 := Lib.hid (Hpush.out.keep hk8 (fun b _ e => by rw [e]; exact Hrb.out))
            have Hk8 := Lib.hid hk8
            clear hb8 hk8 c07
            (try simp only [PU]))
        )
        have hdl : (r.drop e).length = N - e := by rw [List.length_drop, HN.out]
        have hol : (out ++ [(r.drop size).take k]).length = on + 1 := by rw [List.length_append, Hon.out]; rfl
        go_roundg (r.drop e).length
        case measure => have := Hdl.out; omega
        case rel => exact ⟨some ⟨gr, 0, none⟩, cap, subA A' e c', c' - e, f, out ++ [(r.drop size).take k], r.drop e, by rw [hol], Nat.le_refl _, by have := Hdl.out; omega, by rw [hol]; have := Hdl.out; have := HN.out; omega, Lib.hid (by have := Hdl.out; have := Hf.out; omega), Lib.hid (by rw [hol]; exact Hpush8.out), Lib.hid (by rw [hdl]; exact Hb8.out), Lib.hid (by rw [hdl]; exact (Hsub2.out.keep (X' := fun b => some b = kc) Hw7.out (fun b _ hb e => Hap.out b e.symm hb.symm) (fun _ _ h => h)).keep Hk8.out (fun b _ hb e => by have := (Hkc.out b hb.symm).1; have := Hrb.out; omega) (fun _ _ h => h)), Lib.hid (Nat.le_trans Hsz.out (Nat.le_trans Hw7.out.size Hk8.out.size)), Lib.hid (fun b e => by
          rcases Hrow7.out with h | ⟨b', h, hb'⟩
          · exact Hap.out b (by rw [← h, ← e, hol])
          · intro e2
            have e3 : (Value.slice (some ⟨gr, 0, none⟩) (on + 1) cap).ownBlock = some b := by rw [← e, hol]
            rw [h] at e3
            injection e3 with e3
            have := (Hkc.out b e2).2
            have := Hsz.out
            have := HK6.out.size
            omega), Lib.hid ((HK.out.trans Hw7.out (fun i hi e => by have := (HO.out.lt i e.symm).1; omega)).trans Hk8.out (fun _ _ h => h)), Lib.hid HRR.out.symm⟩
end Go.Proofs.WV

namespace Go.Proofs.WV
open Go.RowKit Go.Proofs.KL Go.Proofs.WM
set_option maxRecDepth 100000
set_option linter.unusedSimpArgs false
set_option linter.unusedVariables false

theorem left_at {rb : Nat} {W : World} {A : Option Addr} {n c : Nat} {x y : Value} (h : W.heap[rb]? = some (.cells #[.slice A n c, x, y] 41 (0, 0))) : Calls Tryd.prog 22 #[.pointer (some ⟨rb, 0, none⟩)] W fun e w' => e = .returned (.int .i64 n) ∧ w' = W := by
 have hnil := ptr39_s rb
 have c0 : W.cell? ⟨rb, 0, none⟩ = some (.slice A n c) := (blk_cell h 0).trans rfl
 clear h
 go_enter Tryd.func22, Tryd.ntmps22
 go_wp2
 go_ret
 exact ⟨rfl, rfl⟩
theorem left_fd {rb : Nat} {kb : Option Nat} {ws : Bs} {dead : Bool} {W : World} (h : FdX W rb kb ws dead) : Calls Tryd.prog 22 #[.pointer (some ⟨rb, 0, none⟩)] W fun e w' => e = .returned (.int .i64 ws.length) ∧ w' = W := by
 obtain ⟨A, n, c, hb, hx⟩ := h
 rw [← hx.len.1]
 exact left_at hb
theorem new27 (W : World) : Calls Tryd.prog 27 #[] W fun e w' => ∃ rb, e = .returned (.pointer (some ⟨rb, 0, none⟩)) ∧ W.heap.size ≤ rb ∧ rb < w'.heap.size ∧ FdX w' rb none [] false ∧ Keeps Nob W w' := by
 go_enter Tryd.func27, Tryd.ntmps27
 go_wp2_with (first
  | ((with_reducible refine at_dst (N := 2) rfl ?_); go_must (refine ev_box (cs := #[.slice none 0 0, .bool true, .bool false]) rfl rfl rfl ?_; intro g w1 hg hl hb hk)
     have Hb := Lib.hid hb
     have Hk := Lib.hid hk
     clear hb hk
     (try simp only [PU]))
 )
 go_ret
 exact ⟨g, rfl, hg, hl, ⟨none, 0, 0, Hb.out, BytesX.nil _ _⟩, Hk.out⟩
end Go.Proofs.WV

namespace Go.Proofs.WV
open Go.Proofs.WM
set_option linter.unusedVariables false

def exList : J := .mk 5 false 0 ⟨#[]⟩ [] [.mk 2 true 0 ⟨#[]⟩ [] [], .mk 1 false 0 ⟨#[]⟩ [] []]
def exV : J := .mk 6 false 0 ⟨#[]⟩ [⟨#[97]⟩, ⟨#[98]⟩] [.mk 3 false 1 ⟨#[]⟩ [] [], exList]
def exText : Bs := [123, 34, 97, 34, 58, 49, 44, 34, 98, 34, 58, 91, 116, 114, 117, 101, 44, 110, 117, 108, 108, 93, 125]
theorem itoa1 : Lib.itoa 1 = [49] := by
 unfold Lib.itoa
 rw [if_neg (by decide)]
 rw [show (1 : Int).toNat = 1 from rfl]
 rw [Lib.decDigits]
 rfl
theorem exText_is : textJ exV = exText := by
 have e1 : List.flatMap esc (bl ⟨#[97]⟩) = [97] := by rfl
 have e2 : List.flatMap esc (bl ⟨#[98]⟩) = [98] := by rfl
 simp [exV, exList, textJ, textL, itoa1, joinC, quoteB, exText, e1, e2]
theorem exWrite : writeJ exV = (exText, 0) := by
 unfold writeJ
 rw [exText_is]
 have h1 : formedJ exV = true := by decide
 have h2 : levelsJ exV = 3 := by decide
 rw [h1, h2]
 rfl
theorem exBad : readW ⟨#[123, 34, 97, 34, 58, 49, 44, 34, 97, 34, 58, 50, 125]⟩ = (zJ, 9, 4) := by kernel_rfl
theorem exRead : readW ⟨#[32, 123, 34, 97, 34, 32, 58, 32, 49, 44, 32, 34, 98, 34, 58, 32, 91, 116, 114, 117, 101, 44, 110, 117, 108, 108, 93, 125]⟩ = (exV, 0, 0) := by
 have h : readJ (bl ⟨#[32, 123, 34, 97, 34, 32, 58, 32, 49, 44, 32, 34, 98, 34, 58, 32, 91, 116, 114, 117, 101, 44, 110, 117, 108, 108, 93, 125]⟩) = .ok exV := by kernel_rfl
 unfold readW
 rw [if_neg (by decide), h]
 have hc : checkJ exV = 0 := by rw [← writeJ_check, exWrite]
 simp only [hc, if_true]
theorem exFeed : feedB [] [76, 101, 110, 103, 116, 104, 58, 32, 50, 13, 10, 13, 10, 97, 98, 76, 101, 110] = ⟨[[97, 98]], [76, 101, 110], false⟩ := by rfl
end Go.Proofs.WV

namespace Go.Proofs.WV
open Go.RowKit Go.Proofs.KL Go.Proofs.WM
set_option maxRecDepth 100000
set_option linter.unusedSimpArgs false
set_option linter.unusedVariables false

theorem stepP_max {dp f : Nat} {x x' : List ByteArray × List J} {s s' : Bs} (h : stepP dp f x s = .ok (x', s')) : max x'.1.length x'.2.length + s'.length ≤ max x.1.length x.2.length + s.length := by
 unfold stepP at h
 rcases hk : keyB x.1 s with e | ⟨k, r0⟩
 · rw [hk] at h; cases h
 · rw [hk] at h
   simp only at h
   rcases hi : innerF f dp r0 with e | ⟨v, r1⟩
   · rw [hi] at h; cases h
   · rw [hi] at h
     simp only [Except.ok.injEq, Prod.mk.injEq] at h
     obtain ⟨rfl, rfl⟩ := h
     have h1 := (keyB_len hk).1
     have h2 := ((read_ok f).2.1 dp r0 v r1 hi).2.1
     simp only [List.length_append, List.length_cons, List.length_nil]
     omega
theorem PairsInv.keep {r g2 gS g5 g3 gm base : Nat} {deep : Int} {x : List ByteArray × List J} {W W' : World} (h : PairsInv r g2 gS g5 g3 gm base deep x W) (hd : r < base ∧ ¬ g2 = r ∧ ¬ gS = r ∧ ¬ g3 = r ∧ ¬ gm = r ∧ ¬ g5 = r) (hk : Keeps (· = r) W W') : PairsInv r g2 gS g5 g3 gm base deep x W' := by
 obtain ⟨⟨h2, hS, h3⟩, ⟨es, c, hm, hs⟩, kv, vv, h5, hks, hvs⟩ := h
 obtain ⟨d1, d2, d3, d4, d5, d6⟩ := hd
 exact ⟨⟨hk.blk h2 d2, hk.blk hS d3, hk.blk h3 d4⟩, ⟨es, c, hk.blk hm d5, hs⟩, kv, vv, hk.blk h5 d6, hks.keep hk (fun k hk' e => by have := (hks.lt k hk').1; omega), hvs.keep hk (fun b _ e => .inl (by omega))⟩
theorem part103 {W : World} {r g2 gS g5 g3 gm base : Nat} {dp : Nat} {T : ByteArray} {s : Bs} {f : Nat} {x : List ByteArray × List J} (hr : Rd W r T s) (hI : PairsInv r g2 gS g5 g3 gm base dp x W)
  (hd : r < base ∧ ¬ g2 = r ∧ ¬ gS = r ∧ ¬ g3 = r ∧ ¬ gm = r ∧ ¬ g5 = r ∧ base ≤ gm ∧ base ≤ g5 ∧ base ≤ W.heap.size) (hn : x.1.length ≤ 1000000 ∧ x.2.length ≤ 1000000)
  (hin : ∀ s' W', s'.length < s.length → Rd W' r T s' → Calls Tryd.prog 80 #[.pointer (some ⟨r, 0, none⟩), .int .i64 dp] W' (ValOut W' r T (innerF f dp s'))) :
  Calls Tryd.prog 103 #[.pointer (some ⟨g2, 0, none⟩), .pointer (some ⟨gS, 0, none⟩), .pointer (some ⟨g5, 0, none⟩), .pointer (some ⟨g3, 0, none⟩)] W (PartOut W r T base (PairsInv r g2 gS g5 g3 gm base dp) (stepP dp f x s)) := by
 have hd3 : ¬ g2 = r ∧ ¬ gS = r ∧ ¬ gm = r := ⟨hd.2.1, hd.2.2.1, hd.2.2.2.2.1⟩
 rcases hs : strB s with m | ⟨t, r1⟩
 · have hst : stepP dp f x s = .error m := by simp only [stepP, keyB, hs]
   rw [hst]
   exact key103s hr hI hs
 · rcases hk : hasKey x.1 (mkB t) with _ | _
   · rcases hw : wordB [58] (blanksB r1) with m | r2
     · have hst : stepP dp f x s = .error m := by simp [stepP, keyB, hs, hk, hw]
       rw [hst]
       exact key103w hr hI hd3 hd.2.2.2.2.2.2.1 hs hk hw
     · have hkb : keyB x.1 s = .ok (mkB t, blanksB r2) := by simp [keyB, hs, hk, hw]
       have hl := (keyB_len hkb).1
       have hin' := fun W' (hr' : Rd W' r T (blanksB r2)) => hin (blanksB r2) W' hl hr'
       rcases hi : innerF f dp (blanksB r2) with m | ⟨j, s'⟩
       · have hst : stepP dp f x s = .error m := by simp only [stepP, hkb, hi]
         rw [hst]
         rw [hi] at hin'
         exact key103e hr hI hd hn hs hk hw hin'
       · have hst : stepP dp f x s = .ok ((x.1 ++ [mkB t], x.2 ++ [j]), s') := by simp only [stepP, hkb, hi]
         rw [hst]
         rw [hi] at hin'
         exact key103o hr hI hd hn hs hk hw hin'
   · have hst : stepP dp f x s = .error (r1.length + 1) := by simp [stepP, keyB, hs, hk]
     rw [hst]
     exact key103d hr hI hd3 hs hk
end Go.Proofs.WV

namespace Go.Proofs.WV
open Go.RowKit Go.Proofs.KL Go.Proofs.WM
set_option maxRecDepth 100000
set_option linter.unusedSimpArgs false
set_option linter.unusedVariables false

theorem zeroM98 : (Tryd.prog.info? 98).map (·.zero) = some (some (.map none)) := by kernel_rfl
theorem infoM98 : ∃ i, Tryd.prog.info? 98 = some i ∧ i.size = 1 := by
 have h : (Tryd.prog.info? 98).map (·.size) = some 1 := by kernel_rfl
 obtain ⟨i, hi, hs⟩ := Option.map_eq_some_iff.1 h
 exact ⟨i, hi, hs⟩
set_option maxHeartbeats 2000000 in
theorem keys81 {w : World} {r : Nat} {T : ByteArray} {c0 : UInt8} {q : Bs} (h : Rd w r T (c0 :: q)) (f dp : Nat) (hf : 3 * (blanksB q).length + 3 ≤ f)
  (hin : ∀ f' s W', s.length ≤ q.length → 3 * s.length + 2 ≤ f' → Rd W' r T s → Calls Tryd.prog 80 #[.pointer (some ⟨r, 0, none⟩), .int .i64 dp] W' (ValOut W' r T (innerF f' dp s))) :
  Calls Tryd.prog 81 #[.pointer (some ⟨r, 0, none⟩), .int .i64 dp] w (ValOut w r T (tabR (openL 125 (stepP dp) f ([], []) q))) := by
 obtain ⟨i25, hi25, hs25⟩ := info25
 obtain ⟨iM, hiM, hsM⟩ := infoM98
 have HI := Lib.hid (And.intro hi25 hs25)
 have HIM := Lib.hid (And.intro hiM hsM)
 have H := Lib.hid h
 have hq : q.length ≤ 1000000 := by have := h.le; have := h.len; simp only [List.length_cons] at *; omega
 have HL := Lib.hid (fun (W : World) (g2 g3 g5 gm gS : Nat) (hr : Rd W r T (c0 :: q)) (hb : g5 ≤ W.heap.size) (hg : w.heap.size ≤ g2 ∧ w.heap.size ≤ g3 ∧ w.heap.size ≤ g5 ∧ g5 ≤ gm ∧ w.heap.size ≤ gS)
   (hI : PairsInv r g2 gS g5 g3 gm g5 dp ([], []) W) =>
  list78k hr g5 ⟨Nat.lt_of_lt_of_le h.lt hg.2.2.1, hb⟩ 125 g2 gS g5 g3 (stepP dp) (PairsInv r g2 gS g5 g3 gm g5 dp)
   (fun x W1 W2 hi hk => by
     have hl := h.lt
     exact hi.keep ⟨by omega, by omega, by omega, by omega, by omega, by omega⟩ hk)
   (fun f x s x' s' hs => (stepP_len hs).1) (fun x => max x.1.length x.2.length) q.length (fun f x s x' s' hs => stepP_max hs)
   (fun f' x s W1 hf' hB hr1 hi1 hk1 => by
     have hl := h.lt
     have hsz := hk1.size
     exact part103 hr1 hi1 ⟨by omega, by omega, by omega, by omega, by omega, by omega, by omega, by omega, by omega⟩ (by omega) (fun s' W' hl' hr' => hin f' s' W' (by omega) (by omega) hr'))
   f hf ([], []) hI (by simp))
 obtain ⟨R0, hR0⟩ : ∃ x, openL 125 (stepP dp) f ([], []) q = x := ⟨_, rfl⟩
 rw [hR0] at HL ⊢
 clear h hin hf hR0 hi25 hs25 hiM hsM
 rcases R0 with m | ⟨⟨ks, vs⟩, r1⟩
 · show Calls _ _ _ _ (ValOut w r T (.error m))
   go_enter Tryd.func81, Tryd.ntmps81
   go_wp2_with (first
    | ((with_reducible refine at_dst (N := 2) rfl ?_); go_must (refine ev_box (cs := #[.pointer (some ⟨r, 0, none⟩)]) rfl rfl rfl ?_; intro g2 w1 hg2 hl2 hb2 hk2)
       have Hb2 := Lib.hid hb2
       have HKa := Lib.hid hk2
       have hgB := hg2
       clear hb2 hk2
       (try simp only [PU]))
    | ((with_reducible refine at_dst (N := 3) rfl ?_); go_must (refine ev_box (cs := #[.int .i64 dp]) rfl rfl rfl ?_; intro g3 w2 hg3 hl3 hb3 hk3)
       have Hb2 := Lib.hid (hk3.blk Hb2.out id)
       have Hb3 := Lib.hid hb3
       have hgA : w.heap.size ≤ g2 ∧ w.heap.size ≤ g3 := ⟨hgB, Nat.le_trans HKa.out.size hg3⟩
       have HKa := Lib.hid (HKa.out.trans hk3 (fun _ _ h => h))
       clear hb3 hk3
       (try simp only [PU]))
    | ((with_reducible refine at_dst (N := 4) rfl ?_); go_must (refine ev_alloc rfl rfl zero25 rfl ?_; intro g4 w3 hg4 hl4 hb4 hk4)
       have Hb2 := Lib.hid (hk4.blk Hb2.out id)
       have Hb3 := Lib.hid (hk4.blk Hb3.out id)
       have Hb4 := Lib.hid hb4
       have Hg4 := Lib.hid (show w.heap.size ≤ g4 from Nat.le_trans HKa.out.size hg4)
       have HKa := Lib.hid (HKa.out.trans hk4 (fun _ _ h => h))
       have Hg2 := Lib.hid (show w.heap.size ≤ g2 ∧ w.heap.size ≤ g3 from hgA)
       clear hb4 hk4
       (try simp only [PU]))
    | ((with_reducible refine at_dst (N := 5) rfl ?_); go_must (refine ev_alloc rfl rfl zero25 rfl ?_; intro g5 w4 hg5 hl5 hb5 hk5)
       have Hg45 := Lib.hid (show g4 < g5 from Nat.lt_of_lt_of_le (blk_lt Hb4.out) hg5)
       have Hg5 := Lib.hid (show w.heap.size ≤ g5 from Nat.le_trans HKa.out.size hg5)
       have Hb2 := Lib.hid (hk5.blk Hb2.out id)
       have Hb3 := Lib.hid (hk5.blk Hb3.out id)
       have Hb4 := Lib.hid (hk5.blk Hb4.out id)
       have Hb5 := Lib.hid hb5
       have HKa := Lib.hid (HKa.out.trans hk5 (fun _ _ h => h))
       clear hb5 hk5
       (try simp only [PU]))
    | ((with_reducible refine at_store (t := 25) (p := 5) rfl ?_); go_must (refine ev_store (cs' := #[.int .i64 6, .bool false, .int .i64 0, .string ByteArray.empty, .slice none 0 0, .slice none 0 0]) rfl rfl rfl rfl rfl rfl HI.out.1 HI.out.2 rfl Hb5.out (Nat.le_of_ble_eq_true rfl) rfl ?_; intro w5 hb6 hk6)
       have Hb2 := Lib.hid (hk6.blk Hb2.out (blk_type Hb2.out Hb5.out (by decide) : ¬ g2 = g5))
       have Hb3 := Lib.hid (hk6.blk Hb3.out (blk_type Hb3.out Hb5.out (by decide) : ¬ g3 = g5))
       have HKa := Lib.hid (show Keeps Nob w w5 from HKa.out.trans hk6 (fun i hi e => by have := Hg5.out; omega))
       have Hb4 := Lib.hid (hk6.blk Hb4.out (fun e : g4 = g5 => by have := Hg45.out; omega))
       have Hb5 := Lib.hid hb6
       clear hb6 hk6
       (try simp only [PU]))
    | ((with_reducible refine at_dst (N := 8) rfl ?_); go_must (refine ev_makeMap rfl rfl ?_; intro gm w6 hgm hlm hbm hkm)
       have Hgm := Lib.hid (show g5 ≤ gm from Nat.le_trans (Nat.le_of_lt (blk_lt Hb5.out)) hgm)
       have Hb2 := Lib.hid (hkm.blk Hb2.out id)
       have Hb3 := Lib.hid (hkm.blk Hb3.out id)
       have Hb4 := Lib.hid (hkm.blk Hb4.out id)
       have Hb5 := Lib.hid (hkm.blk Hb5.out id)
       have Hbm := Lib.hid hbm
       have HKa := Lib.hid (HKa.out.trans hkm (fun _ _ h => h))
       clear hbm hkm
       (try simp only [PU]))
    | ((with_reducible refine at_dst (N := 6) rfl ?_); go_must (refine ev_alloc rfl rfl zeroM98 rfl ?_; intro gS w7 hgS hlS hbS hkS)
       have HgS := Lib.hid (show w.heap.size ≤ gS ∧ g5 < gS from ⟨Nat.le_trans HKa.out.size hgS, Nat.lt_of_lt_of_le (blk_lt Hb5.out) hgS⟩)
       have Hb2 := Lib.hid (hkS.blk Hb2.out id)
       have Hb3 := Lib.hid (hkS.blk Hb3.out id)
       have Hb4 := Lib.hid (hkS.blk Hb4.out id)
       have Hb5 := Lib.hid (hkS.blk Hb5.out id)
       have Hbm := Lib.hid (hkS.blk Hbm.out id)
       have HbS := Lib.hid hbS
       have HKa := Lib.hid (HKa.out.trans hkS (fun _ _ h => h))
       clear hbS hkS
       (try simp only [PU]))
    | ((with_reducible refine at_store (t := 98) (p := 6) rfl ?_); go_must (refine ev_store (cs' := #[.map (some gm)]) rfl rfl rfl rfl rfl rfl HIM.out.1 HIM.out.2 rfl HbS.out (Nat.le_of_ble_eq_true rfl) rfl ?_; intro w8 hb8 hk8)
       have Hb2 := Lib.hid (hk8.blk Hb2.out (blk_type Hb2.out HbS.out (by decide) : ¬ g2 = gS))
       have Hb3 := Lib.hid (hk8.blk Hb3.out (blk_type Hb3.out HbS.out (by decide) : ¬ g3 = gS))
       have Hb4 := Lib.hid (hk8.blk Hb4.out (blk_type Hb4.out HbS.out (by decide) : ¬ g4 = gS))
       have Hb5 := Lib.hid (hk8.blk Hb5.out (blk_type Hb5.out HbS.out (by decide) : ¬ g5 = gS))
       have Hbm := Lib.hid (hk8.blk Hbm.out (fun e : gm = gS => map_ne HbS.out Hbm.out e.symm))
       have HbS := Lib.hid hb8
       have HKa := Lib.hid (show Keeps Nob w w8 from HKa.out.trans hk8 (fun i hi e => by have := HgS.out; omega))
       have Hr8 := Lib.hid (H.out.keep HKa.out id)
       have c2 := (blk_cell Hb2.out 0).trans rfl
       clear hb8 hk8
       (try simp only [PU]))
    | (go_at_call 78; go_must (refine (HL.out _ g2 g3 g5 gm gS Hr8.out (Nat.le_of_lt (blk_lt Hb5.out)) ⟨Hg2.out.1, Hg2.out.2, Hg5.out, Hgm.out, HgS.out.1⟩ ⟨⟨Hb2.out, HbS.out, Hb3.out⟩, ⟨_, _, Hbm.out, StrSet.nil⟩, _, _, Hb5.out, OwnS.nil _ _, OwnJ.nil _ _ _⟩).mono ?_; rintro e w9 ⟨rfl, hk9⟩); have HK9 := Lib.hid hk9; clear hk9; unfold stopAt; (try simp only [PU]))
   )
   exact ⟨rfl, rfl, HKa.out.any.trans HK9.out (fun i hi e => e.elim id (fun e => by have := Hg5.out; omega))⟩
 · show Calls _ _ _ _ (ValOut w r T (.ok (.mk 6 false 0 ByteArray.empty ks vs, r1)))
   go_enter Tryd.func81, Tryd.ntmps81
   go_wp2_with (first
    | ((with_reducible refine at_dst (N := 2) rfl ?_); go_must (refine ev_box (cs := #[.pointer (some ⟨r, 0, none⟩)]) rfl rfl rfl ?_; intro g2 w1 hg2 hl2 hb2 hk2)
       have Hb2 := Lib.hid hb2
       have HKa := Lib.hid hk2
       have hgB := hg2
       clear hb2 hk2
       (try simp only [PU]))
    | ((with_reducible refine at_dst (N := 3) rfl ?_); go_must (refine ev_box (cs := #[.int .i64 dp]) rfl rfl rfl ?_; intro g3 w2 hg3 hl3 hb3 hk3)
       have Hb2 := Lib.hid (hk3.blk Hb2.out id)
       have Hb3 := Lib.hid hb3
       have hgA : w.heap.size ≤ g2 ∧ w.heap.size ≤ g3 := ⟨hgB, Nat.le_trans HKa.out.size hg3⟩
       have HKa := Lib.hid (HKa.out.trans hk3 (fun _ _ h => h))
       clear hb3 hk3
       (try simp only [PU]))
    | ((with_reducible refine at_dst (N := 4) rfl ?_); go_must (refine ev_alloc rfl rfl zero25 rfl ?_; intro g4 w3 hg4 hl4 hb4 hk4)
       have Hb2 := Lib.hid (hk4.blk Hb2.out id)
       have Hb3 := Lib.hid (hk4.blk Hb3.out id)
       have Hb4 := Lib.hid hb4
       have Hg4 := Lib.hid (show w.heap.size ≤ g4 from Nat.le_trans HKa.out.size hg4)
       have HKa := Lib.hid (HKa.out.trans hk4 (fun _ _ h => h))
       have Hg2 := Lib.hid (show w.heap.size ≤ g2 ∧ w.heap.size ≤ g3 from hgA)
       clear hb4 hk4
       (try simp only [PU]))
    | ((with_reducible refine at_dst (N := 5) rfl ?_); go_must (refine ev_alloc rfl rfl zero25 rfl ?_; intro g5 w4 hg5 hl5 hb5 hk5)
       have Hg45 := Lib.hid (show g4 < g5 from Nat.lt_of_lt_of_le (blk_lt Hb4.out) hg5)
       have Hg5 := Lib.hid (show w.heap.size ≤ g5 from Nat.le_trans HKa.out.size hg5)
       have Hb2 := Lib.hid (hk5.blk Hb2.out id)
       have Hb3 := Lib.hid (hk5.blk Hb3.out id)
       have Hb4 := Lib.hid (hk5.blk Hb4.out id)
       have Hb5 := Lib.hid hb5
       have HKa := Lib.hid (HKa.out.trans hk5 (fun _ _ h => h))
       clear hb5 hk5
       (try simp only [PU]))
    | ((with_reducible refine at_store (t := 25) (p := 5) rfl ?_); go_must (refine ev_store (cs' := #[.int .i64 6, .bool false, .int .i64 0, .string ByteArray.empty, .slice none 0 0, .slice none 0 0]) rfl rfl rfl rfl rfl rfl HI.out.1 HI.out.2 rfl Hb5.out (Nat.le_of_ble_eq_true rfl) rfl ?_; intro w5 hb6 hk6)
       have Hb2 := Lib.hid (hk6.blk Hb2.out (blk_type Hb2.out Hb5.out (by decide) : ¬ g2 = g5))
       have Hb3 := Lib.hid (hk6.blk Hb3.out (blk_type Hb3.out Hb5.out (by decide) : ¬ g3 = g5))
       have HKa := Lib.hid (show Keeps Nob w w5 from HKa.out.trans hk6 (fun i hi e => by have := Hg5.out; omega))
       have Hb4 := Lib.hid (hk6.blk Hb4.out (fun e : g4 = g5 => by have := Hg45.out; omega))
       have Hb5 := Lib.hid hb6
       clear hb6 hk6
       (try simp only [PU]))
    | ((with_reducible refine at_dst (N := 8) rfl ?_); go_must (refine ev_makeMap rfl rfl ?_; intro gm w6 hgm hlm hbm hkm)
       have Hgm := Lib.hid (show g5 ≤ gm from Nat.le_trans (Nat.le_of_lt (blk_lt Hb5.out)) hgm)
       have Hb2 := Lib.hid (hkm.blk Hb2.out id)
       have Hb3 := Lib.hid (hkm.blk Hb3.out id)
       have Hb4 := Lib.hid (hkm.blk Hb4.out id)
       have Hb5 := Lib.hid (hkm.blk Hb5.out id)
       have Hbm := Lib.hid hbm
       have HKa := Lib.hid (HKa.out.trans hkm (fun _ _ h => h))
       clear hbm hkm
       (try simp only [PU]))
    | ((with_reducible refine at_dst (N := 6) rfl ?_); go_must (refine ev_alloc rfl rfl zeroM98 rfl ?_; intro gS w7 hgS hlS hbS hkS)
       have HgS := Lib.hid (show w.heap.size ≤ gS ∧ g5 < gS from ⟨Nat.le_trans HKa.out.size hgS, Nat.lt_of_lt_of_le (blk_lt Hb5.out) hgS⟩)
       have Hb2 := Lib.hid (hkS.blk Hb2.out id)
       have Hb3 := Lib.hid (hkS.blk Hb3.out id)
       have Hb4 := Lib.hid (hkS.blk Hb4.out id)
       have Hb5 := Lib.hid (hkS.blk Hb5.out id)
       have Hbm := Lib.hid (hkS.blk Hbm.out id)
       have HbS := Lib.hid hbS
       have HKa := Lib.hid (HKa.out.trans hkS (fun _ _ h => h))
       clear hbS hkS
       (try simp only [PU]))
    | ((with_reducible refine at_store (t := 98) (p := 6) rfl ?_); go_must (refine ev_store (cs' := #[.map (some gm)]) rfl rfl rfl rfl rfl rfl HIM.out.1 HIM.out.2 rfl HbS.out (Nat.le_of_ble_eq_true rfl) rfl ?_; intro w8 hb8 hk8)
       have Hb2 := Lib.hid (hk8.blk Hb2.out (blk_type Hb2.out HbS.out (by decide) : ¬ g2 = gS))
       have Hb3 := Lib.hid (hk8.blk Hb3.out (blk_type Hb3.out HbS.out (by decide) : ¬ g3 = gS))
       have Hb4 := Lib.hid (hk8.blk Hb4.out (blk_type Hb4.out HbS.out (by decide) : ¬ g4 = gS))
       have Hb5 := Lib.hid (hk8.blk Hb5.out (blk_type Hb5.out HbS.out (by decide) : ¬ g5 = gS))
       have Hbm := Lib.hid (hk8.blk Hbm.out (fun e : gm = gS => map_ne HbS.out Hbm.out e.symm))
       have HbS := Lib.hid hb8
       have HKa := Lib.hid (show Keeps Nob w w8 from HKa.out.trans hk8 (fun i hi e => by have := HgS.out; omega))
       have Hr8 := Lib.hid (H.out.keep HKa.out id)
       have c2 := (blk_cell Hb2.out 0).trans rfl
       clear hb8 hk8
       (try simp only [PU]))
    | (go_at_call 78; go_must (refine (HL.out _ g2 g3 g5 gm gS Hr8.out (Nat.le_of_lt (blk_lt Hb5.out)) ⟨Hg2.out.1, Hg2.out.2, Hg5.out, Hgm.out, HgS.out.1⟩ ⟨⟨Hb2.out, HbS.out, Hb3.out⟩, ⟨_, _, Hbm.out, StrSet.nil⟩, _, _, Hb5.out, OwnS.nil _ _, OwnJ.nil _ _ _⟩).mono ?_; rintro e w9 ⟨⟨y9, rfl⟩, hr9, ⟨-, -, kv, vv, h5, hks, hvs⟩, hk9⟩; obtain ⟨kA, kc, rfl, -⟩ := hks.slice; obtain ⟨X, xs, hrow⟩ := id hvs; obtain ⟨vA, vc, rfl, -⟩ := row_slice hrow.row)
       have Hr9 := Lib.hid hr9
       have Hks := Lib.hid hks
       have Hvs := Lib.hid hvs
       have HK9 := Lib.hid (show Keeps (· = r) w w9 from HKa.out.any.trans hk9 (fun i hi e => e.elim id (fun e => by have := Hg5.out; omega)))
       have Hb9 := Lib.hid (hk9.blk (Hb4.out) (fun e => e.elim (fun e => by have := Hg4.out; have := H.out.lt; omega) (fun e => by have := Hg45.out; omega)))
       have s0 := (blk_cell h5 0).trans rfl
       have s1 := (blk_cell h5 1).trans rfl
       have s2 := (blk_cell h5 2).trans rfl
       have s3 := (blk_cell h5 3).trans rfl
       have s4 := (blk_cell h5 4).trans rfl
       have s5 := (blk_cell h5 5).trans rfl
       clear hr9 h5 hks hvs hk9 hrow
       generalize ks.length = nk at *
       generalize vs.length = nv at *
       (try simp only [PU]))
    | ((with_reducible refine at_store (t := 25) (p := 4) rfl ?_); go_must (refine ev_store (cs' := #[.int .i64 6, .bool false, .int .i64 0, .string ByteArray.empty, .slice kA nk kc, .slice vA nv vc]) rfl rfl rfl rfl rfl rfl HI.out.1 HI.out.2 rfl Hb9.out (Nat.le_of_ble_eq_true rfl) rfl ?_; intro w10 hb10 hk10)
       have HK10 := Lib.hid hk10
       clear s0 s1 s2 s3 s4 s5
       have s0 := (blk_cell hb10 0).trans rfl
       have s1 := (blk_cell hb10 1).trans rfl
       have s2 := (blk_cell hb10 2).trans rfl
       have s3 := (blk_cell hb10 3).trans rfl
       have s4 := (blk_cell hb10 4).trans rfl
       have s5 := (blk_cell hb10 5).trans rfl
       clear hb10 hk10
       (try simp only [PU]))
   )
   refine bodyPost_ret (v := .agg #[.int .i64 6, .bool false, .int .i64 0, .string ByteArray.empty, .slice kA nk kc, .slice vA nv vc]) (by rw [results_cell1 rfl]; go_simp) rfl ?_
   have hjs := (Hvs.out.js.keep HK10.out (X' := fun b => w.heap.size ≤ b) (fun b hb hx e => by have := Hg45.out; omega) (fun b hb hx => Nat.le_trans Hg5.out hx))
   have hss := (Hks.out.strs.keep HK10.out (X' := fun b => w.heap.size ≤ b) (fun b hb hx e => by have := Hg45.out; omega) (fun b hb hx => Nat.le_trans Hg5.out hx))
   exact ⟨⟨_, rfl, JX.close hss hjs⟩, Hr9.out.keep HK10.out (fun e : r = g4 => by have := Hg4.out; have := H.out.lt; omega), HK9.out.trans HK10.out (fun i hi e => by have := Hg4.out; omega)⟩
end Go.Proofs.WV

namespace Go.Proofs.WV
open Go.RowKit Go.Proofs.KL Go.Proofs.WM
set_option maxRecDepth 100000
set_option linter.unusedSimpArgs false
set_option linter.unusedVariables false

set_option maxHeartbeats 2000000 in
theorem valueTable {w : World} {r : Nat} {T : ByteArray} {q : Bs} (h : Rd w r T (123 :: q)) (f dp : Nat) (hf : 3 * (blanksB q).length + 3 ≤ f)
  (hin : ∀ f' s W', s.length ≤ q.length → 3 * s.length + 2 ≤ f' → Rd W' r T s → Calls Tryd.prog 80 #[.pointer (some ⟨r, 0, none⟩), .int .i64 dp] W' (ValOut W' r T (innerF f' dp s))) :
  Calls Tryd.prog 46 #[.pointer (some ⟨r, 0, none⟩), .int .i64 dp] w (ValOut w r T (valueF (f + 1) dp (123 :: q))) := by
 obtain ⟨i25, hi25, hs25⟩ := info25
 have HI := Lib.hid (And.intro hi25 hs25)
 have H := Lib.hid h
 have H73 := Lib.hid (fun W (hk : Keeps Nob w W) => next73 (h.keep hk id))
 have H76 := Lib.hid (fun W (hk : Keeps Nob w W) => digit76 (h.keep hk id))
 have hhd : headN (123 :: q) = 123 := rfl
 have hsd : startsDigit (123 :: q) = false := by show isDigit 123 = false; decide
 rw [hhd] at H73
 rw [hsd] at H76
 rw [value_table]
 have H81 := Lib.hid (fun W (hr : Rd W r T (123 :: q)) => keys81 hr f dp hf hin)
 obtain ⟨R0, hR0⟩ : ∃ x, tabR (openL 125 (stepP dp) f ([], []) q) = x := ⟨_, rfl⟩
 rw [hR0] at H81 ⊢
 clear h hin hf hhd hsd hR0 hi25 hs25
 rcases R0 with m | ⟨j, r1⟩
 · show Calls _ _ _ _ (ValOut w r T (.error m))
   go_enter Tryd.func46, Tryd.ntmps46
   go_wp2_with (first
    | ((with_reducible refine at_dst (N := 2) rfl ?_); go_must (refine ev_box (cs := #[.pointer (some ⟨r, 0, none⟩)]) rfl rfl rfl ?_; intro g2 w1 hg2 hl2 hb2 hk2)
       have Hb2 := Lib.hid hb2
       have HKa := Lib.hid hk2
       clear hb2 hk2
       (try simp only [PU]))
    | ((with_reducible refine at_dst (N := 3) rfl ?_); go_must (refine ev_box (cs := #[.int .i64 dp]) rfl rfl rfl ?_; intro g3 w2 hg3 hl3 hb3 hk3)
       have Hb2 := Lib.hid (hk3.blk Hb2.out id)
       have Hb3 := Lib.hid hb3
       have HKa := Lib.hid (HKa.out.trans hk3 (fun _ _ h => h))
       clear hb3 hk3
       (try simp only [PU]))
    | ((with_reducible refine at_dst (N := 4) rfl ?_); go_must (refine ev_alloc rfl rfl zero25 rfl ?_; intro g4 w3 hg4 hl4 hb4 hk4)
       have Hb2 := Lib.hid (hk4.blk Hb2.out id)
       have Hb3 := Lib.hid (hk4.blk Hb3.out id)
       have Hb4 := Lib.hid hb4
       have Hg4 := Lib.hid (show w.heap.size ≤ g4 from Nat.le_trans HKa.out.size hg4)
       have HKa := Lib.hid (HKa.out.trans hk4 (fun _ _ h => h))
       have c2 := (blk_cell Hb2.out 0).trans rfl
       clear hb4 hk4
       (try simp only [PU]))
    | (go_at_call 73; go_must (refine (H73.out _ HKa.out).mono ?_; rintro e w4 ⟨rfl, hk5⟩)
       have Hb2 := Lib.hid (hk5.blk Hb2.out id)
       have Hb3 := Lib.hid (hk5.blk Hb3.out id)
       have Hb4 := Lib.hid (hk5.blk Hb4.out id)
       have HKa := Lib.hid (HKa.out.trans hk5 (fun _ _ h => h))
       have Hr4 := Lib.hid (H.out.keep HKa.out id)
       clear c2 hk5
       have c2 := (blk_cell Hb2.out 0).trans rfl
       have c3 := (blk_cell Hb3.out 0).trans rfl
       (try simp only [PU]))
    | (go_at_call 76; go_must (refine (H76.out _ HKa.out).mono ?_; rintro e w5 ⟨rfl, hk6⟩)
       have Hb2 := Lib.hid (hk6.blk Hb2.out id)
       have Hb3 := Lib.hid (hk6.blk Hb3.out id)
       have Hb4 := Lib.hid (hk6.blk Hb4.out id)
       have HKa := Lib.hid (HKa.out.trans hk6 (fun _ _ h => h))
       have Hr4 := Lib.hid (H.out.keep HKa.out id)
       clear c2 c3 hk6
       have c2 := (blk_cell Hb2.out 0).trans rfl
       have c3 := (blk_cell Hb3.out 0).trans rfl
       (try simp only [PU]))
    | (go_at_call 81; go_must (refine (H81.out _ Hr4.out).mono ?_; rintro e w6 ⟨rfl, hk6⟩); have HK6 := Lib.hid hk6; clear hk6; unfold stopAt; (try simp only [PU]))
   )
   exact ⟨rfl, rfl, HKa.out.any.trans HK6.out (fun _ _ h => h)⟩
 · show Calls _ _ _ _ (ValOut w r T (.ok (j, r1)))
   go_enter Tryd.func46, Tryd.ntmps46
   go_wp2_with (first
    | ((with_reducible refine at_dst (N := 2) rfl ?_); go_must (refine ev_box (cs := #[.pointer (some ⟨r, 0, none⟩)]) rfl rfl rfl ?_; intro g2 w1 hg2 hl2 hb2 hk2)
       have Hb2 := Lib.hid hb2
       have HKa := Lib.hid hk2
       clear hb2 hk2
       (try simp only [PU]))
    | ((with_reducible refine at_dst (N := 3) rfl ?_); go_must (refine ev_box (cs := #[.int .i64 dp]) rfl rfl rfl ?_; intro g3 w2 hg3 hl3 hb3 hk3)
       have Hb2 := Lib.hid (hk3.blk Hb2.out id)
       have Hb3 := Lib.hid hb3
       have HKa := Lib.hid (HKa.out.trans hk3 (fun _ _ h => h))
       clear hb3 hk3
       (try simp only [PU]))
    | ((with_reducible refine at_dst (N := 4) rfl ?_); go_must (refine ev_alloc rfl rfl zero25 rfl ?_; intro g4 w3 hg4 hl4 hb4 hk4)
       have Hb2 := Lib.hid (hk4.blk Hb2.out id)
       have Hb3 := Lib.hid (hk4.blk Hb3.out id)
       have Hb4 := Lib.hid hb4
       have Hg4 := Lib.hid (show w.heap.size ≤ g4 from Nat.le_trans HKa.out.size hg4)
       have HKa := Lib.hid (HKa.out.trans hk4 (fun _ _ h => h))
       have c2 := (blk_cell Hb2.out 0).trans rfl
       clear hb4 hk4
       (try simp only [PU]))
    | (go_at_call 73; go_must (refine (H73.out _ HKa.out).mono ?_; rintro e w4 ⟨rfl, hk5⟩)
       have Hb2 := Lib.hid (hk5.blk Hb2.out id)
       have Hb3 := Lib.hid (hk5.blk Hb3.out id)
       have Hb4 := Lib.hid (hk5.blk Hb4.out id)
       have HKa := Lib.hid (HKa.out.trans hk5 (fun _ _ h => h))
       have Hr4 := Lib.hid (H.out.keep HKa.out id)
       clear c2 hk5
       have c2 := (blk_cell Hb2.out 0).trans rfl
       have c3 := (blk_cell Hb3.out 0).trans rfl
       (try simp only [PU]))
    | (go_at_call 76; go_must (refine (H76.out _ HKa.out).mono ?_; rintro e w5 ⟨rfl, hk6⟩)
       have Hb2 := Lib.hid (hk6.blk Hb2.out id)
       have Hb3 := Lib.hid (hk6.blk Hb3.out id)
       have Hb4 := Lib.hid (hk6.blk Hb4.out id)
       have HKa := Lib.hid (HKa.out.trans hk6 (fun _ _ h => h))
       have Hr4 := Lib.hid (H.out.keep HKa.out id)
       clear c2 c3 hk6
       have c2 := (blk_cell Hb2.out 0).trans rfl
       have c3 := (blk_cell Hb3.out 0).trans rfl
       (try simp only [PU]))
    | (go_at_call 81; go_must (refine (H81.out _ Hr4.out).mono ?_; rintro e w6 ⟨⟨v1, rfl, hv1⟩, hr1, hk1⟩; obtain ⟨jk, jb, jn, jt, jks, jvs, jkv, jvv, hjj, rfl, hjk, hjv⟩ := hv1.open; obtain ⟨kA, kc, rfl, -, -⟩ := hjk; obtain ⟨jA, jc, ju, rfl, -, -, -⟩ := hjv)
       have HV := Lib.hid hv1
       have Hr6 := Lib.hid hr1
       have HK6 := Lib.hid ((HKa.out.any (M := (· = r))).trans hk1 (fun _ _ h => h))
       have Hb6 := Lib.hid (hk1.blk Hb4.out (fun e : g4 = r => by have := Hg4.out; have := H.out.lt; omega))
       have Hsz := Lib.hid (show g4 < _ from blk_lt Hb4.out)
       clear hv1 hr1 hk1 hjj
       generalize jks.length = kl at *
       generalize jvs.length = vl at *
       (try simp only [PU]))
    | ((with_reducible refine at_store (t := 25) (p := 4) rfl ?_); go_must (refine ev_store (cs' := #[.int .i64 jk, .bool jb, .int .i64 jn, .string jt, .slice kA kl kc, .slice jA vl jc]) rfl rfl rfl rfl rfl rfl HI.out.1 HI.out.2 rfl Hb6.out (Nat.le_of_ble_eq_true rfl) rfl ?_; intro w7 hb7 hk7)
       have HK7 := Lib.hid hk7
       have s0 := (blk_cell hb7 0).trans rfl
       have s1 := (blk_cell hb7 1).trans rfl
       have s2 := (blk_cell hb7 2).trans rfl
       have s3 := (blk_cell hb7 3).trans rfl
       have s4 := (blk_cell hb7 4).trans rfl
       have s5 := (blk_cell hb7 5).trans rfl
       clear hb7 hk7
       (try simp only [PU]))
   )
   refine bodyPost_ret (v := .agg #[.int .i64 jk, .bool jb, .int .i64 jn, .string jt, .slice kA kl kc, .slice jA vl jc]) (by rw [results_cell1 rfl]; go_simp) rfl ?_
   refine ⟨⟨_, rfl, HV.out.keep HK7.out (fun b hb hx e => by have := Hsz.out; omega) (fun b hb hx => Nat.le_trans HKa.out.size hx)⟩, Hr6.out.keep HK7.out (fun e : r = g4 => by have := Hg4.out; have := H.out.lt; omega), HK6.out.trans HK7.out (fun i hi e => by have := Hg4.out; omega)⟩
end Go.Proofs.WV

namespace Go.Proofs.WV
open Go.RowKit Go.Proofs.KL Go.Proofs.WM
set_option linter.unusedVariables false

def ValOK (dp : Nat) : Prop := ∀ (f : Nat) (s : Bs) (w : World) (r : Nat) (T : ByteArray), 3 * s.length + 1 ≤ f → Rd w r T s → Calls Tryd.prog 46 #[.pointer (some ⟨r, 0, none⟩), .int .i64 dp] w (ValOut w r T (valueF f dp s))
theorem inner_of {dp : Nat} (hd : dp ≤ 40) (hV : 1 < dp → ValOK (dp - 1)) (f' : Nat) (s : Bs) (W' : World) {r : Nat} {T : ByteArray} (hf : 3 * s.length + 2 ≤ f') (hr : Rd W' r T s) :
  Calls Tryd.prog 80 #[.pointer (some ⟨r, 0, none⟩), .int .i64 dp] W' (ValOut W' r T (innerF f' dp s)) := by
 obtain ⟨f, rfl⟩ : ∃ f, f' = f + 1 := ⟨f' - 1, by omega⟩
 unfold innerF
 by_cases h1 : dp ≤ 1
 · rw [if_pos h1]
   exact inner80e hr dp h1
 · rw [if_neg h1]
   exact inner80v hr dp ⟨by omega, hd⟩ _ (fun W'' hr' => hV (by omega) f s W'' r T (by omega) hr')
theorem headN_ne {c : UInt8} {q : Bs} {k : Nat} (h : c ≠ UInt8.ofNat k) : headN (c :: q) ≠ (k : Int) := fun e => h (by
 have e' : (c.toNat : Int) = (k : Int) := e
 have e2 : c.toNat = k := by omega
 rw [← e2, UInt8.ofNat_toNat])
theorem value_step {dp : Nat} (hd : dp ≤ 40) (hV : 1 < dp → ValOK (dp - 1)) : ValOK dp := by
 intro f s w r T hf hr
 obtain ⟨f, rfl⟩ : ∃ f', f = f' + 1 := ⟨f - 1, by omega⟩
 rcases s with _ | ⟨c, q⟩
 · have hv : valueF (f + 1) dp [] = .error ([] : Bs).length := by unfold valueF; rfl
   rw [hv]
   exact valueBad hr (fun k hk e => by
    have e' : (0 : Int) = (k : Int) := e
    have : k = 0 := by omega
    subst this
    revert hk
    decide) rfl dp
 · have hb := blanksB_le q
   simp only [List.length_cons] at hf
   have hin := fun f' s W' (_ : s.length ≤ q.length) (hf' : 3 * s.length + 2 ≤ f') (hr' : Rd W' r T s) => inner_of hd hV f' s W' hf' hr'
   by_cases h1 : c = 110
   · subst h1; exact valueNull hr f dp dp
   by_cases h2 : c = 116
   · subst h2; exact valueTrue hr f dp dp
   by_cases h3 : c = 102
   · subst h3; exact valueFalse hr f dp dp
   by_cases h4 : c = 34
   · subst h4; exact valueStr hr f dp dp
   by_cases h5 : c = 45 ∨ isDigit c = true
   · exact valueInt hr h5 f dp dp
   by_cases h6 : c = 91
   · subst h6; exact valueList hr f dp (by omega) hin
   by_cases h7 : c = 123
   · subst h7; exact valueTable hr f dp (by omega) hin
   have hv : valueF (f + 1) dp (c :: q) = .error (c :: q).length := by
    unfold valueF
    rw [if_neg h1, if_neg h2, if_neg h3, if_neg h4, if_neg h5, if_neg h6, if_neg h7]
    rfl
   rw [hv]
   refine valueBad hr (fun k hk => headN_ne ?_) ?_ dp
   · simp only [List.mem_cons, List.not_mem_nil, or_false] at hk
     rcases hk with rfl | rfl | rfl | rfl | rfl | rfl | rfl
     · exact h1
     · exact h2
     · exact h3
     · exact h4
     · exact fun e => h5 (.inl e)
     · exact h6
     · exact h7
   · show isDigit c = false
     rcases hc : isDigit c with _ | _
     · rfl
     · exact absurd (.inr hc) h5
theorem value_all : ∀ dp : Nat, dp ≤ 40 → ValOK dp := by
 intro dp
 induction dp with
 | zero => exact fun hd => value_step hd (fun h => absurd h (by omega))
 | succ d ih => exact fun hd => value_step hd (fun _ => ih (by omega))
end Go.Proofs.WV

namespace Go.Proofs.WV
open Go.RowKit Go.Proofs.KL Go.Proofs.WM
set_option maxRecDepth 100000
set_option linter.unusedSimpArgs false
set_option linter.unusedVariables false

theorem zero28 : (Tryd.prog.info? 28).map (·.zero) = some (some (.int .i64 0)) := by kernel_rfl
theorem info28 : ∃ i, Tryd.prog.info? 28 = some i ∧ i.size = 1 := by
 have h : (Tryd.prog.info? 28).map (·.size) = some 1 := by kernel_rfl
 obtain ⟨i, hi, hs⟩ := Option.map_eq_some_iff.1 h
 exact ⟨i, hi, hs⟩
theorem zeroS3 : (Tryd.prog.info? 3).map (·.zero) = some (some (.int .i64 0)) := by kernel_rfl
theorem results_cells3 {fn : Func} {p q r : Tmp} {t u v : TypeId} (h : fn.results = #[.cell p t, .cell q u, .cell r v]) (tmps : Array Value) {P : Program} (w : World) {x y z : Value} {a b c : Addr} (ha : tmps[p]?.getD undef = .pointer (some a)) (hb : tmps[q]?.getD undef = .pointer (some b)) (hc : tmps[r]?.getD undef = .pointer (some c))
  (hp : (loadVar t a).run P w = .ok x w) (hq : (loadVar u b).run P w = .ok y w) (hr : (loadVar v c).run P w = .ok z w) :
  (results fn tmps).run P w = .ok (.tuple #[x, y, z]) w := by
 have e : ∀ (a : Addr) (w : World), (asAddr (.pointer (some a))).run P w = .ok a w := fun _ _ => rfl
 simp [results, h, ha, hb, hc, e, hp, hq, hr, Result.andThen]
theorem Read_idle (p q r : Addr) (w : World) :
  CallsD Tryd.prog 44 #[.pointer (some p), .pointer (some q), .pointer (some r)] .returning w fun e u' w' => e = .returned (.tuple #[]) ∧ u' = .returning ∧ w' = w := by
 have hnn : ∀ w, (binOp .neq 20 .nilIface .nilIface).run Tryd.prog w = .ok (.bool false) w := fun w => by kernel_rfl
 refine callsD_of_wpS Tryd.func44 rfl fun c₀ cs hu => ?_
 apply wpS_seq
 apply wpS_region
 simp [wpOpsS, go_sem, recoverD, hu, hnn, Tryd.ntmps44, Exit.thenS]
 apply wpS_seq
 apply wpS_region
 simp [wpOpsS, go_sem, hnn, Exit.thenS]
 refine wpS_cond (t := false) (by simp [Act.eval, Array.replicate]) ?_
 simp only [Bool.false_eq_true, if_false]
 refine wpS_of_wp (wp_skip ?_)
 cases c₀
 simp_all [bodyPostS, results, Tryd.results44]
theorem neq_ended (c : Int) (w : World) : (binOp .neq 20 (.iface 76 (.int .i64 c)) .nilIface).run Tryd.prog w = .ok (.bool true) w := by kernel_rfl
theorem assert_ended (c : Int) (w : World) : (Instr.typeAssert (.iface 76 (.int .i64 c)) 20 76 true).run Tryd.prog w = .ok (.tuple #[.int .i64 c, .bool true]) w := by
 have h := Tryd.underlying76
 first | kernel_rfl | (simp [Instr.typeAssert, run_underlying h])
set_option maxHeartbeats 2000000 in
theorem Read_catch (g6 g7 g8 : Nat) (c : Int) (w : World) (x0 x1 x2 x3 x4 x5 x7 x8 : Value)
  (h6 : w.heap[g6]? = some (.cells #[x0, x1, x2, x3, x4, x5] 25 (0, 0))) (h7 : w.heap[g7]? = some (.cells #[x7] 3 (0, 0))) (h8 : w.heap[g8]? = some (.cells #[x8] 28 (0, 0))) (n67 : g6 ≠ g7) (n68 : g6 ≠ g8) (n78 : g7 ≠ g8) :
  CallsD Tryd.prog 44 #[.pointer (some ⟨g6, 0, none⟩), .pointer (some ⟨g7, 0, none⟩), .pointer (some ⟨g8, 0, none⟩)] (.panicking [{ v := .iface 76 (.int .i64 c), recovered := false }]) w fun e u' w' =>
   e = .returned (.tuple #[]) ∧ u' = .panicking [{ v := .iface 76 (.int .i64 c), recovered := true }] ∧ Keeps (fun k => k = g6 ∨ k = g7 ∨ k = g8) w w' ∧
    w'.heap[g6]? = some (.cells #[.int .i64 0, .bool false, .int .i64 0, .string ByteArray.empty, .slice none 0 0, .slice none 0 0] 25 (0, 0)) ∧ w'.heap[g7]? = some (.cells #[.int .i64 c] 3 (0, 0)) ∧ w'.heap[g8]? = some (.cells #[.int .i64 4] 28 (0, 0)) := by
 obtain ⟨i3, hi3, hs3⟩ := infoS3
 obtain ⟨i28, hi28, hs28⟩ := info28
 obtain ⟨i25, hi25, hs25⟩ := info25
 have H6 := Lib.hid h6
 have H7 := Lib.hid h7
 have H8 := Lib.hid h8
 have hi := Lib.hid (And.intro (And.intro hi25 hs25) (And.intro (And.intro hi3 hs3) (And.intro hi28 hs28)))
 clear h6 h7 h8 hi3 hs3 hi28 hs28 hi25 hs25
 refine callsD_of_wpS Tryd.func44 rfl fun c₀ cs hu => ?_
 apply wpS_seq
 apply wpS_region
 simp [wpOpsS, go_sem, neq_ended, assert_ended, recoverD, hu, Tryd.ntmps44, Exit.thenS]
 apply wpS_seq
 apply wpS_region
 simp [wpOpsS, go_sem, neq_ended, assert_ended, Exit.thenS]
 refine wpS_cond (t := true) (by simp [Act.eval, Array.replicate]) ?_
 simp only [if_true]
 apply wpS_seq
 apply wpS_region
 simp [wpOpsS, go_sem, neq_ended, assert_ended, Exit.thenS]
 apply wpS_seq
 apply wpS_seq
 apply wpS_region
 simp [wpOpsS, go_sem, neq_ended, assert_ended, Exit.thenS]
 refine wpS_cond (t := false) (by simp [Act.eval, Array.replicate]) ?_
 simp only [Bool.false_eq_true, if_false]
 refine wpS_of_wp (wp_skip ?_)
 simp only [Exit.thenS]
 refine wpS_of_wp ?_
 simp only [Array.replicate_succ, Array.replicate_zero, List.push_toArray, List.append_toArray, List.nil_append, List.cons_append, List.setIfInBounds_toArray, List.set_cons_zero, List.set_cons_succ]
 go_wp2_with (first
  | ((with_reducible refine at_store (t := 25) rfl ?_); go_must (refine ev_store (cs' := #[.int .i64 0, .bool false, .int .i64 0, .string ByteArray.empty, .slice none 0 0, .slice none 0 0]) rfl rfl rfl rfl rfl rfl hi.out.1.1 hi.out.1.2 rfl H6.out (Nat.le_of_ble_eq_true rfl) rfl ?_; intro w1 hb1 hk1); (try simp only [PU]))
  | ((with_reducible refine at_store (t := 3) rfl ?_); go_must (refine ev_store (cs' := #[.int .i64 c]) rfl rfl rfl rfl rfl rfl hi.out.2.1.1 hi.out.2.1.2 rfl (hk1.blk H7.out n67.symm) (Nat.le_of_ble_eq_true rfl) rfl ?_; intro w2 hb2 hk2); (try simp only [PU]))
  | ((with_reducible refine at_store (t := 28) rfl ?_); go_must (refine ev_store (cs' := #[.int .i64 4]) rfl rfl rfl rfl rfl rfl hi.out.2.2.1 hi.out.2.2.2 rfl (hk2.blk (hk1.blk H8.out n68.symm) n78.symm) (Nat.le_of_ble_eq_true rfl) rfl ?_; intro w3 hb3 hk3); (try simp only [PU])))
 exact ⟨rfl, _, rfl, _, by simp [results, Tryd.results44], rfl, rfl, ((hk1.mono (M' := fun k => k = g6 ∨ k = g7 ∨ k = g8) (fun _ _ e => .inl e)).trans hk2 (fun _ _ e => .inr (.inl e))).trans hk3 (fun _ _ e => .inr (.inr e)), hk3.blk (hk2.blk hb1 n67) n68, hk3.blk hb2 n78, hb3⟩
end Go.Proofs.WV

namespace Go.Proofs.WV
open Go.RowKit Go.Proofs.KL Go.Proofs.WM
set_option maxRecDepth 100000
set_option linter.unusedSimpArgs false
set_option linter.unusedVariables false

def ReadEnd (w : World) (x : J × Int × Int) : Ending → World → Prop := fun e w' => (∃ v, e = .returned (.tuple #[v, .int .i64 x.2.1, .int .i64 x.2.2]) ∧ JX w' (fun b => w.heap.size ≤ b) v x.1) ∧ Keeps Nob w w'
theorem zJX (W : World) (X : Nat → Prop) : JX W X (.agg #[.int .i64 0, .bool false, .int .i64 0, .string ByteArray.empty, .slice none 0 0, .slice none 0 0]) zJ := JX.close (strs_nil W X) (js_nil W X)
set_option maxHeartbeats 2000000 in
theorem Read_long {w : World} {T : ByteArray} (hT : 1000000 < T.size) : Calls Tryd.prog 18 #[.string T] w (ReadEnd w (zJ, 0, 3)) := by
 obtain ⟨i3, hi3, hs3⟩ := infoS3
 obtain ⟨i28, hi28, hs28⟩ := info28
 obtain ⟨i25, hi25, hs25⟩ := info25
 have HI := Lib.hid (And.intro (And.intro hi25 hs25) (And.intro (And.intro hi3 hs3) (And.intro hi28 hs28)))
 clear hi3 hs3 hi28 hs28 hi25 hs25
 have hT' : (1000000 : Int) < T.size := by omega
 clear hT
 go_enter_defers Tryd.func18, Tryd.ntmps18
 go_wp2_with (first
  | ((with_reducible refine at_dst (N := 2) rfl ?_); go_must (refine ev_alloc rfl rfl zero25 rfl ?_; intro g6 w1 hg6 hl6 hb6 hk1); have Hb6 := Lib.hid hb6; have HK := Lib.hid hk1; have Hg6 := Lib.hid hg6; clear hb6 hk1 hg6 hl6; (try simp only [PU]))
  | ((with_reducible refine at_dst (N := 3) rfl ?_); go_must (refine ev_alloc rfl rfl zeroS3 rfl ?_; intro g7 w2 hg7 hl7 hb7 hk2); have Hg7 := Lib.hid (show w.heap.size ≤ g7 ∧ g6 < g7 from ⟨Nat.le_trans HK.out.size hg7, Nat.lt_of_lt_of_le (blk_lt Hb6.out) hg7⟩); have Hb6 := Lib.hid (hk2.blk Hb6.out id); have Hb7 := Lib.hid hb7; have HK := Lib.hid (HK.out.trans hk2 (fun _ _ h => h)); clear hb7 hk2 hg7 hl7; (try simp only [PU]))
  | ((with_reducible refine at_dst (N := 4) rfl ?_); go_must (refine ev_alloc rfl rfl zero28 rfl ?_; intro g8 w3 hg8 hl8 hb8 hk3); have Hg8 := Lib.hid (show w.heap.size ≤ g8 ∧ g7 < g8 from ⟨Nat.le_trans HK.out.size hg8, Nat.lt_of_lt_of_le (blk_lt Hb7.out) hg8⟩); have Hb6 := Lib.hid (hk3.blk Hb6.out id); have Hb7 := Lib.hid (hk3.blk Hb7.out id); have Hb8 := Lib.hid hb8; have HK := Lib.hid (HK.out.trans hk3 (fun _ _ h => h)); clear hb8 hk3 hg8 hl8; (try simp only [PU]))
  | ((with_reducible refine at_store (t := 25) rfl ?_); go_must (refine ev_store (cs' := #[.int .i64 0, .bool false, .int .i64 0, .string ByteArray.empty, .slice none 0 0, .slice none 0 0]) rfl rfl rfl rfl rfl rfl HI.out.1.1 HI.out.1.2 rfl Hb6.out (Nat.le_of_ble_eq_true rfl) rfl ?_; intro wa hba hka); have Hb7 := Lib.hid (hka.blk Hb7.out (fun e : g7 = g6 => by have := Hg7.out; omega)); have Hb8 := Lib.hid (hka.blk Hb8.out (fun e : g8 = g6 => by have := Hg7.out; have := Hg8.out; omega)); have Hb6 := Lib.hid hba; have HKa := Lib.hid (hka.mono (M' := fun k => k = g6 ∨ k = g7 ∨ k = g8) (fun _ _ e => .inl e)); clear hba hka; (try simp only [PU]))
  | ((with_reducible refine at_store (t := 3) rfl ?_); go_must (refine ev_store (cs' := #[.int .i64 0]) rfl rfl rfl rfl rfl rfl HI.out.2.1.1 HI.out.2.1.2 rfl Hb7.out (Nat.le_of_ble_eq_true rfl) rfl ?_; intro wb hbb hkb); have Hb6 := Lib.hid (hkb.blk Hb6.out (fun e : g6 = g7 => by have := Hg7.out; omega)); have Hb8 := Lib.hid (hkb.blk Hb8.out (fun e : g8 = g7 => by have := Hg8.out; omega)); have Hb7 := Lib.hid hbb; have HKa := Lib.hid (HKa.out.trans hkb (fun _ _ e => .inr (.inl e))); clear hbb hkb; (try simp only [PU]))
  | ((with_reducible refine at_store (t := 28) rfl ?_); go_must (refine ev_store (cs' := #[.int .i64 3]) rfl rfl rfl rfl rfl rfl HI.out.2.2.1 HI.out.2.2.2 rfl Hb8.out (Nat.le_of_ble_eq_true rfl) rfl ?_; intro wc hbc hkc); have Hb6 := Lib.hid (hkc.blk Hb6.out (fun e : g6 = g8 => by have := Hg7.out; have := Hg8.out; omega)); have Hb7 := Lib.hid (hkc.blk Hb7.out (fun e : g7 = g8 => by have := Hg8.out; omega)); have Hb8 := Lib.hid hbc; have HKa := Lib.hid (HKa.out.trans hkc (fun _ _ e => .inr (.inr e))); clear hbc hkc; (try simp only [PU]))
 )
 simp only [bodyPostD, Leaves]
 refine ⟨_, results_cells3 (x := .agg #[.int .i64 0, .bool false, .int .i64 0, .string ByteArray.empty, .slice none 0 0, .slice none 0 0]) (y := .int .i64 0) (z := .int .i64 3) rfl _ _ rfl rfl rfl (by have s0 := (blk_cell Hb6.out 0).trans rfl; have s1 := (blk_cell Hb6.out 1).trans rfl; have s2 := (blk_cell Hb6.out 2).trans rfl; have s3 := (blk_cell Hb6.out 3).trans rfl; have s4 := (blk_cell Hb6.out 4).trans rfl; have s5 := (blk_cell Hb6.out 5).trans rfl; go_simp) (by have s0 := (blk_cell Hb7.out 0).trans rfl; go_simp) (by have s0 := (blk_cell Hb8.out 0).trans rfl; go_simp), ?_⟩
 exact ⟨⟨_, rfl, zJX _ _⟩, HK.out.trans HKa.out (fun i hi e => by have := Hg6.out; have := Hg7.out; have := Hg8.out; omega)⟩
end Go.Proofs.WV

namespace Go.Proofs.WV
open Go.RowKit Go.Proofs.KL Go.Proofs.WM
set_option maxRecDepth 100000
set_option linter.unusedSimpArgs false
set_option linter.unusedVariables false

set_option maxHeartbeats 4000000 in
theorem Read_short {w : World} {T : ByteArray} (ht : Tab w w.heap.size) (hT : T.size ≤ 1000000) : Calls Tryd.prog 18 #[.string T] w (ReadEnd w (readW T)) := by
 obtain ⟨i3, hi3, hs3⟩ := infoS3
 obtain ⟨i28, hi28, hs28⟩ := info28
 obtain ⟨i25, hi25, hs25⟩ := info25
 have HI := Lib.hid (And.intro (And.intro hi25 hs25) (And.intro (And.intro hi3 hs3) (And.intro hi28 hs28)))
 clear hi3 hs3 hi28 hs28 hi25 hs25
 have hT' : ¬ (1000000 : Int) < T.size := by omega
 have hTn : ¬ 1000000 < T.size := by omega
 have hmf : ∀ (fn : Fn) (first cap : Array Value) (w : World), (Instr.makeFunc fn first cap).run Tryd.prog w = .ok (.func fn first cap) w := fun _ _ _ _ => rfl
 have hbb := blanksB_le (bl T)
 have hbT := bl_len T
 have HT := Lib.hid ht
 have HTs := Lib.hid hT
 have HVal := Lib.hid (fun (W : World) (r : Nat) (hr : Rd W r T (blanksB (bl T))) => value_all 40 (Nat.le_refl _) (4 * (bl T).length + 8) (blanksB (bl T)) W r T (by omega) hr)
 rcases hv : valueF (4 * (bl T).length + 8) 40 (blanksB (bl T)) with n | ⟨j, r1⟩
 · have hR : readW T = (zJ, ((T.size - n : Nat) : Int), 4) := by
    unfold readW readJ
    rw [if_neg hTn, hv, hbT]
   rw [hR]
   rw [hv] at HVal
   obtain ⟨a, ha⟩ : ∃ a, T.size - n = a := ⟨_, rfl⟩
   have Ha := Lib.hid ha
   rw [ha]
   clear ht hT hTn hbb hbT hv hR ha
   go_enter_defers Tryd.func18, Tryd.ntmps18
   go_wp2_with (first
    | ((with_reducible refine at_dst (N := 2) rfl ?_); go_must (refine ev_alloc rfl rfl zero25 rfl ?_; intro g6 w1 hg6 hl6 hb6 hk1); have Hb6 := Lib.hid hb6; have HK := Lib.hid hk1; have Hg6 := Lib.hid hg6; clear hb6 hk1 hg6 hl6; (try simp only [PU]))
    | ((with_reducible refine at_dst (N := 3) rfl ?_); go_must (refine ev_alloc rfl rfl zeroS3 rfl ?_; intro g7 w2 hg7 hl7 hb7 hk2); have Hg7 := Lib.hid (show w.heap.size ≤ g7 ∧ g6 < g7 from ⟨Nat.le_trans HK.out.size hg7, Nat.lt_of_lt_of_le (blk_lt Hb6.out) hg7⟩); have Hb6 := Lib.hid (hk2.blk Hb6.out id); have Hb7 := Lib.hid hb7; have HK := Lib.hid (HK.out.trans hk2 (fun _ _ h => h)); clear hb7 hk2 hg7 hl7; (try simp only [PU]))
    | ((with_reducible refine at_dst (N := 4) rfl ?_); go_must (refine ev_alloc rfl rfl zero28 rfl ?_; intro g8 w3 hg8 hl8 hb8 hk3); have Hg8 := Lib.hid (show w.heap.size ≤ g8 ∧ g7 < g8 from ⟨Nat.le_trans HK.out.size hg8, Nat.lt_of_lt_of_le (blk_lt Hb7.out) hg8⟩); have Hb6 := Lib.hid (hk3.blk Hb6.out id); have Hb7 := Lib.hid (hk3.blk Hb7.out id); have Hb8 := Lib.hid hb8; have HK := Lib.hid (HK.out.trans hk3 (fun _ _ h => h)); clear hb8 hk3 hg8 hl8; (try simp only [PU]))
    | ((with_reducible refine at_dst (N := 13) rfl ?_); go_must (refine ev_box (cs := #[.string T, .int .i64 0]) rfl rfl rfl ?_; intro g5 w4 hg5 hl5 hb5 hk5)
       have Hg5 := Lib.hid (show w.heap.size ≤ g5 ∧ g8 < g5 from ⟨Nat.le_trans HK.out.size hg5, Nat.lt_of_lt_of_le (blk_lt Hb8.out) hg5⟩)
       have Hr := Lib.hid (show Rd w4 g5 T (bl T) from ⟨by rw [bl_len, Nat.sub_self]; exact hb5, ⟨[], rfl⟩, HTs.out⟩)
       have Hb6 := Lib.hid (hk5.blk Hb6.out id)
       have Hb7 := Lib.hid (hk5.blk Hb7.out id)
       have Hb8 := Lib.hid (hk5.blk Hb8.out id)
       have HK := Lib.hid (HK.out.trans hk5 (fun _ _ h => h))
       clear hb5 hk5 hg5 hl5
       (try simp only [PU]))
    | (go_at_call 45; go_must (refine (blanks45 Hr.out).mono ?_; rintro e w5 ⟨⟨y5, rfl⟩, hr5, hk5⟩)
       have Hr := Lib.hid hr5
       (try have HV := Lib.hid (HV.out.keep (X' := fun b => g5 < b) hk5 (fun b _ hb e => by omega) (fun _ _ h => h)))
       have Hb6 := Lib.hid (hk5.blk Hb6.out (fun e : g6 = g5 => by have := Hg7.out; have := Hg8.out; have := Hg5.out; omega))
       have Hb7 := Lib.hid (hk5.blk Hb7.out (fun e : g7 = g5 => by have := Hg8.out; have := Hg5.out; omega))
       have Hb8 := Lib.hid (hk5.blk Hb8.out (fun e : g8 = g5 => by have := Hg5.out; omega))
       have HK := Lib.hid (show Keeps Nob w w5 from HK.out.trans hk5 (fun i hi e => by have := Hg5.out; omega))
       clear hr5 hk5
       (try simp only [PU]))
   )
   refine (HVal.out _ _ Hr.out).mono ?_
   rintro e w8 ⟨rfl, hk8⟩
   have Hb6 := Lib.hid (hk8.blk Hb6.out (fun e : g6 = g5 => by have := Hg7.out; have := Hg8.out; have := Hg5.out; omega))
   have Hb7 := Lib.hid (hk8.blk Hb7.out (fun e : g7 = g5 => by have := Hg8.out; have := Hg5.out; omega))
   have Hb8 := Lib.hid (hk8.blk Hb8.out (fun e : g8 = g5 => by have := Hg5.out; omega))
   have HK := Lib.hid (show Keeps Nob w w8 from HK.out.trans hk8 (fun i hi e => by have := Hg5.out; omega))
   clear hk8
   unfold stopAt
   rw [Ha.out]
   refine leaves_cons (f := 44) (args := #[.pointer (some ⟨g6, 0, none⟩), .pointer (some ⟨g7, 0, none⟩), .pointer (some ⟨g8, 0, none⟩)]) (by simp) (by simp [go_sem]) ?_
   refine (Read_catch g6 g7 g8 (a : Nat) _ _ _ _ _ _ _ _ _ Hb6.out Hb7.out Hb8.out (by have := Hg7.out; omega) (by have := Hg7.out; have := Hg8.out; omega) (by have := Hg8.out; omega)).mono ?_
   rintro e u' w9 ⟨rfl, rfl, hk9, hb6, hb7, hb8⟩
   have s0 := (blk_cell hb6 0).trans rfl
   have s1 := (blk_cell hb6 1).trans rfl
   have s2 := (blk_cell hb6 2).trans rfl
   have s3 := (blk_cell hb6 3).trans rfl
   have s4 := (blk_cell hb6 4).trans rfl
   have s5 := (blk_cell hb6 5).trans rfl
   have s7 := (blk_cell hb7 0).trans rfl
   have s8 := (blk_cell hb8 0).trans rfl
   simp only [settle, Leaves]
   refine ⟨_, results_cells3 (x := .agg #[.int .i64 0, .bool false, .int .i64 0, .string ByteArray.empty, .slice none 0 0, .slice none 0 0]) (y := .int .i64 (a : Nat)) (z := .int .i64 4) rfl _ _ rfl rfl rfl (by go_simp) (by go_simp) (by go_simp), ?_⟩
   exact ⟨⟨_, rfl, zJX _ _⟩, HK.out.trans hk9 (fun i hi e => by have := Hg6.out; have := Hg7.out; have := Hg8.out; omega)⟩
 · have hsz := read_size hv
   have Hsz := Lib.hid (show sizeJ j ≤ 10000000000 by omega)
   rw [hv] at HVal
   rcases hb : blanksB r1 with _ | ⟨c, q⟩
   · have hR : readW T = (if checkJ j = 0 then (j, 0, 0) else (zJ, 0, 3)) := by
      unfold readW readJ
      rw [if_neg hTn, hv]
      simp only [hb]
     rw [hR]
     have Hbl := Lib.hid hb
     obtain ⟨c, hc⟩ : ∃ c, checkJ j = c := ⟨_, rfl⟩
     have Hck := Lib.hid hc
     rw [hc]
     by_cases h0 : c = 0
     · subst h0
       rw [if_pos rfl]
       clear ht hT hTn hbb hbT hv hR hb hc hsz
       go_enter_defers Tryd.func18, Tryd.ntmps18
       go_upto_region 7 with (first
        | ((with_reducible refine at_dst (N := 2) rfl ?_); go_must (refine ev_alloc rfl rfl zero25 rfl ?_; intro g6 w1 hg6 hl6 hb6 hk1); have Hb6 := Lib.hid hb6; have HK := Lib.hid hk1; have Hg6 := Lib.hid hg6; clear hb6 hk1 hg6 hl6; (try simp only [PU]))
        | ((with_reducible refine at_dst (N := 3) rfl ?_); go_must (refine ev_alloc rfl rfl zeroS3 rfl ?_; intro g7 w2 hg7 hl7 hb7 hk2); have Hg7 := Lib.hid (show w.heap.size ≤ g7 ∧ g6 < g7 from ⟨Nat.le_trans HK.out.size hg7, Nat.lt_of_lt_of_le (blk_lt Hb6.out) hg7⟩); have Hb6 := Lib.hid (hk2.blk Hb6.out id); have Hb7 := Lib.hid hb7; have HK := Lib.hid (HK.out.trans hk2 (fun _ _ h => h)); clear hb7 hk2 hg7 hl7; (try simp only [PU]))
        | ((with_reducible refine at_dst (N := 4) rfl ?_); go_must (refine ev_alloc rfl rfl zero28 rfl ?_; intro g8 w3 hg8 hl8 hb8 hk3); have Hg8 := Lib.hid (show w.heap.size ≤ g8 ∧ g7 < g8 from ⟨Nat.le_trans HK.out.size hg8, Nat.lt_of_lt_of_le (blk_lt Hb7.out) hg8⟩); have Hb6 := Lib.hid (hk3.blk Hb6.out id); have Hb7 := Lib.hid (hk3.blk Hb7.out id); have Hb8 := Lib.hid hb8; have HK := Lib.hid (HK.out.trans hk3 (fun _ _ h => h)); clear hb8 hk3 hg8 hl8; (try simp only [PU]))
        | ((with_reducible refine at_dst (N := 13) rfl ?_); go_must (refine ev_box (cs := #[.string T, .int .i64 0]) rfl rfl rfl ?_; intro g5 w4 hg5 hl5 hb5 hk5)
           have Hg5 := Lib.hid (show w.heap.size ≤ g5 ∧ g8 < g5 from ⟨Nat.le_trans HK.out.size hg5, Nat.lt_of_lt_of_le (blk_lt Hb8.out) hg5⟩)
           have Hr := Lib.hid (show Rd w4 g5 T (bl T) from ⟨by rw [bl_len, Nat.sub_self]; exact hb5, ⟨[], rfl⟩, HTs.out⟩)
           have Hb6 := Lib.hid (hk5.blk Hb6.out id)
           have Hb7 := Lib.hid (hk5.blk Hb7.out id)
           have Hb8 := Lib.hid (hk5.blk Hb8.out id)
           have HK := Lib.hid (HK.out.trans hk5 (fun _ _ h => h))
           clear hb5 hk5 hg5 hl5
           (try simp only [PU]))
        | (go_at_call 45; go_must (refine (blanks45 Hr.out).mono ?_; rintro e w5 ⟨⟨y5, rfl⟩, hr5, hk5⟩)
           have Hr := Lib.hid hr5
           (try have HV := Lib.hid (HV.out.keep (X' := fun b => g5 < b) hk5 (fun b _ hb e => by omega) (fun _ _ h => h)))
           have Hb6 := Lib.hid (hk5.blk Hb6.out (fun e : g6 = g5 => by have := Hg7.out; have := Hg8.out; have := Hg5.out; omega))
           have Hb7 := Lib.hid (hk5.blk Hb7.out (fun e : g7 = g5 => by have := Hg8.out; have := Hg5.out; omega))
           have Hb8 := Lib.hid (hk5.blk Hb8.out (fun e : g8 = g5 => by have := Hg5.out; omega))
           have HK := Lib.hid (show Keeps Nob w w5 from HK.out.trans hk5 (fun i hi e => by have := Hg5.out; omega))
           clear hr5 hk5
           (try simp only [PU]))
        | (go_at_call 46; go_must (refine (HVal.out _ _ Hr.out).mono ?_; rintro e w6 ⟨⟨v1, rfl, hv1⟩, hr1, hk1⟩; obtain ⟨jk, jb, jn, jt, jks, jvs, jkv, jvv, hjj, rfl, hjk, hjv⟩ := hv1.open; obtain ⟨kA, kc, rfl, -, -⟩ := hjk; obtain ⟨jA, jc, ju, rfl, -, -, -⟩ := hjv)
           have hl5 := Hr.out.lt
           have HV := Lib.hid (hv1.keep (X' := fun b => g5 < b) (Keeps.refl Nob _) (fun _ _ _ => id) (fun b hb hx => Nat.lt_of_lt_of_le hl5 hx))
           have Hr := Lib.hid hr1
           have Hb6 := Lib.hid (hk1.blk Hb6.out (fun e : g6 = g5 => by have := Hg7.out; have := Hg8.out; have := Hg5.out; omega))
           have Hb7 := Lib.hid (hk1.blk Hb7.out (fun e : g7 = g5 => by have := Hg8.out; have := Hg5.out; omega))
           have Hb8 := Lib.hid (hk1.blk Hb8.out (fun e : g8 = g5 => by have := Hg5.out; omega))
           have HK := Lib.hid (show Keeps Nob w w6 from HK.out.trans hk1 (fun i hi e => by have := Hg5.out; omega))
           clear hv1 hr1 hk1 hjj hl5
           generalize jks.length = kl at *
           generalize jvs.length = vl at *
           (try simp only [PU]))
        | ((with_reducible refine at_store (t := 25) rfl ?_); go_must (refine ev_store (cs' := #[.int .i64 jk, .bool jb, .int .i64 jn, .string jt, .slice kA kl kc, .slice jA vl jc]) rfl rfl rfl rfl rfl rfl HI.out.1.1 HI.out.1.2 rfl Hb6.out (Nat.le_of_ble_eq_true rfl) rfl ?_; intro w7 hb7 hk7)
           have HV := Lib.hid (HV.out.keep (X' := fun b => g5 < b) hk7 (fun b _ hb e => by have := Hg7.out; have := Hg8.out; have := Hg5.out; omega) (fun _ _ h => h))
           have Hr := Lib.hid (Hr.out.keep hk7 (fun e : g5 = g6 => by have := Hg7.out; have := Hg8.out; have := Hg5.out; omega))
           have Hb7 := Lib.hid (hk7.blk Hb7.out (fun e : g7 = g6 => by have := Hg7.out; omega))
           have Hb8 := Lib.hid (hk7.blk Hb8.out (fun e : g8 = g6 => by have := Hg7.out; have := Hg8.out; omega))
           have HK := Lib.hid (show Keeps Nob w w7 from HK.out.trans hk7 (fun i hi e => by have := Hg6.out; omega))
           have Hb6 := Lib.hid hb7
           clear hb7 hk7
           (try simp only [PU]))
       )
       go_upto_region 8 with (first
        | (go_at_call 45; go_must (refine (blanks45 Hr.out).mono ?_; rintro e w5 ⟨⟨y5, rfl⟩, hr5, hk5⟩)
           have Hr := Lib.hid hr5
           (try have HV := Lib.hid (HV.out.keep (X' := fun b => g5 < b) hk5 (fun b _ hb e => by omega) (fun _ _ h => h)))
           have Hb6 := Lib.hid (hk5.blk Hb6.out (fun e : g6 = g5 => by have := Hg7.out; have := Hg8.out; have := Hg5.out; omega))
           have Hb7 := Lib.hid (hk5.blk Hb7.out (fun e : g7 = g5 => by have := Hg8.out; have := Hg5.out; omega))
           have Hb8 := Lib.hid (hk5.blk Hb8.out (fun e : g8 = g5 => by have := Hg5.out; omega))
           have HK := Lib.hid (show Keeps Nob w w5 from HK.out.trans hk5 (fun i hi e => by have := Hg5.out; omega))
           clear hr5 hk5
           (try simp only [PU]))
       )
       rw [Hbl.out] at Hr
       have q1 := (blk_cell Hr.out.blk 1).trans rfl
       have s0 := (blk_cell Hb6.out 0).trans rfl
       have s1 := (blk_cell Hb6.out 1).trans rfl
       have s2 := (blk_cell Hb6.out 2).trans rfl
       have s3 := (blk_cell Hb6.out 3).trans rfl
       have s4 := (blk_cell Hb6.out 4).trans rfl
       have s5 := (blk_cell Hb6.out 5).trans rfl
       simp only [List.length_nil, Nat.sub_zero] at q1
       go_wp2_with (first
        | (go_at_call 16; go_must (refine (check16 HV.out (Tab.up (HT.out.keep HK.out.any) HK.out.size) Hsz.out).mono ?_; rintro e w12 ⟨rfl, hk12⟩; rw [Hck.out])
           have HV := Lib.hid (HV.out.keep (X' := fun b => g5 < b) hk12 (fun _ _ _ => id) (fun _ _ h => h))
           have Hb6 := Lib.hid (hk12.blk Hb6.out id)
           have Hb7 := Lib.hid (hk12.blk Hb7.out id)
           have Hb8 := Lib.hid (hk12.blk Hb8.out id)
           have HK := Lib.hid (HK.out.trans hk12 (fun _ _ h => h))
           clear hk12 s0 s1 s2 s3 s4 s5
           have s0 := (blk_cell Hb6.out 0).trans rfl
           have s1 := (blk_cell Hb6.out 1).trans rfl
           have s2 := (blk_cell Hb6.out 2).trans rfl
           have s3 := (blk_cell Hb6.out 3).trans rfl
           have s4 := (blk_cell Hb6.out 4).trans rfl
           have s5 := (blk_cell Hb6.out 5).trans rfl
           (try simp only [PU]))
        | ((with_reducible refine at_store (t := 25) rfl ?_); go_must (refine ev_store (cs' := #[.int .i64 jk, .bool jb, .int .i64 jn, .string jt, .slice kA kl kc, .slice jA vl jc]) rfl rfl rfl rfl rfl rfl HI.out.1.1 HI.out.1.2 rfl Hb6.out (Nat.le_of_ble_eq_true rfl) rfl ?_; intro wa hba hka); have Hb7 := Lib.hid (hka.blk Hb7.out (fun e : g7 = g6 => by have := Hg7.out; omega)); have Hb8 := Lib.hid (hka.blk Hb8.out (fun e : g8 = g6 => by have := Hg7.out; have := Hg8.out; omega)); have Hb6 := Lib.hid hba; have HKa := Lib.hid (hka.mono (M' := fun k => k = g6 ∨ k = g7 ∨ k = g8) (fun _ _ e => .inl e)); clear hba hka; (try simp only [PU]))
        | ((with_reducible refine at_store (t := 3) rfl ?_); go_must (refine ev_store (cs' := #[.int .i64 0]) rfl rfl rfl rfl rfl rfl HI.out.2.1.1 HI.out.2.1.2 rfl Hb7.out (Nat.le_of_ble_eq_true rfl) rfl ?_; intro wb hbb hkb); have Hb6 := Lib.hid (hkb.blk Hb6.out (fun e : g6 = g7 => by have := Hg7.out; omega)); have Hb8 := Lib.hid (hkb.blk Hb8.out (fun e : g8 = g7 => by have := Hg8.out; omega)); have Hb7 := Lib.hid hbb; have HKa := Lib.hid (HKa.out.trans hkb (fun _ _ e => .inr (.inl e))); clear hbb hkb; (try simp only [PU]))
        | ((with_reducible refine at_store (t := 28) rfl ?_); go_must (refine ev_store (cs' := #[.int .i64 0]) rfl rfl rfl rfl rfl rfl HI.out.2.2.1 HI.out.2.2.2 rfl Hb8.out (Nat.le_of_ble_eq_true rfl) rfl ?_; intro wc hbc hkc); have Hb6 := Lib.hid (hkc.blk Hb6.out (fun e : g6 = g8 => by have := Hg7.out; have := Hg8.out; omega)); have Hb7 := Lib.hid (hkc.blk Hb7.out (fun e : g7 = g8 => by have := Hg8.out; omega)); have Hb8 := Lib.hid hbc; have HKa := Lib.hid (HKa.out.trans hkc (fun _ _ e => .inr (.inr e))); clear hbc hkc; (try simp only [PU]))
       )
       (try simp only [Exit.inBlock, Exit.then])
       refine leaves_cons (f := 44) (args := #[.pointer (some ⟨g6, 0, none⟩), .pointer (some ⟨g7, 0, none⟩), .pointer (some ⟨g8, 0, none⟩)]) (by simp) (by simp [go_sem]) ?_
       refine (Read_idle ⟨g6, 0, none⟩ ⟨g7, 0, none⟩ ⟨g8, 0, none⟩ _).mono ?_
       rintro e u' w'' ⟨rfl, rfl, rfl⟩
       simp only [settle, Leaves]
       clear s0 s1 s2 s3 s4 s5
       have s0 := (blk_cell Hb6.out 0).trans rfl
       have s1 := (blk_cell Hb6.out 1).trans rfl
       have s2 := (blk_cell Hb6.out 2).trans rfl
       have s3 := (blk_cell Hb6.out 3).trans rfl
       have s4 := (blk_cell Hb6.out 4).trans rfl
       have s5 := (blk_cell Hb6.out 5).trans rfl
       have s7 := (blk_cell Hb7.out 0).trans rfl
       have s8 := (blk_cell Hb8.out 0).trans rfl
       refine ⟨_, results_cells3 (x := .agg #[.int .i64 jk, .bool jb, .int .i64 jn, .string jt, .slice kA kl kc, .slice jA vl jc]) (y := .int .i64 0) (z := .int .i64 0) rfl _ _ rfl rfl rfl (by go_simp) (by go_simp) (by go_simp), ?_⟩
       exact ⟨⟨_, rfl, HV.out.keep HKa.out (fun b hb hx e => by have := Hg7.out; have := Hg8.out; have := Hg5.out; omega) (fun b hb hx => by have := Hg5.out; omega)⟩, HK.out.trans HKa.out (fun i hi e => by have := Hg6.out; have := Hg7.out; have := Hg8.out; omega)⟩
     · rw [if_neg h0]
       have h0b : (c == 0) = false := beq_eq_false_iff_ne.2 h0
       clear ht hT hTn hbb hbT hv hR hb hc hsz
       go_enter_defers Tryd.func18, Tryd.ntmps18
       go_upto_region 7 with (first
        | ((with_reducible refine at_dst (N := 2) rfl ?_); go_must (refine ev_alloc rfl rfl zero25 rfl ?_; intro g6 w1 hg6 hl6 hb6 hk1); have Hb6 := Lib.hid hb6; have HK := Lib.hid hk1; have Hg6 := Lib.hid hg6; clear hb6 hk1 hg6 hl6; (try simp only [PU]))
        | ((with_reducible refine at_dst (N := 3) rfl ?_); go_must (refine ev_alloc rfl rfl zeroS3 rfl ?_; intro g7 w2 hg7 hl7 hb7 hk2); have Hg7 := Lib.hid (show w.heap.size ≤ g7 ∧ g6 < g7 from ⟨Nat.le_trans HK.out.size hg7, Nat.lt_of_lt_of_le (blk_lt Hb6.out) hg7⟩); have Hb6 := Lib.hid (hk2.blk Hb6.out id); have Hb7 := Lib.hid hb7; have HK := Lib.hid (HK.out.trans hk2 (fun _ _ h => h)); clear hb7 hk2 hg7 hl7; (try simp only [PU]))
        | ((with_reducible refine at_dst (N := 4) rfl ?_); go_must (refine ev_alloc rfl rfl zero28 rfl ?_; intro g8 w3 hg8 hl8 hb8 hk3); have Hg8 := Lib.hid (show w.heap.size ≤ g8 ∧ g7 < g8 from ⟨Nat.le_trans HK.out.size hg8, Nat.lt_of_lt_of_le (blk_lt Hb7.out) hg8⟩); have Hb6 := Lib.hid (hk3.blk Hb6.out id); have Hb7 := Lib.hid (hk3.blk Hb7.out id); have Hb8 := Lib.hid hb8; have HK := Lib.hid (HK.out.trans hk3 (fun _ _ h => h)); clear hb8 hk3 hg8 hl8; (try simp only [PU]))
        | ((with_reducible refine at_dst (N := 13) rfl ?_); go_must (refine ev_box (cs := #[.string T, .int .i64 0]) rfl rfl rfl ?_; intro g5 w4 hg5 hl5 hb5 hk5)
           have Hg5 := Lib.hid (show w.heap.size ≤ g5 ∧ g8 < g5 from ⟨Nat.le_trans HK.out.size hg5, Nat.lt_of_lt_of_le (blk_lt Hb8.out) hg5⟩)
           have Hr := Lib.hid (show Rd w4 g5 T (bl T) from ⟨by rw [bl_len, Nat.sub_self]; exact hb5, ⟨[], rfl⟩, HTs.out⟩)
           have Hb6 := Lib.hid (hk5.blk Hb6.out id)
           have Hb7 := Lib.hid (hk5.blk Hb7.out id)
           have Hb8 := Lib.hid (hk5.blk Hb8.out id)
           have HK := Lib.hid (HK.out.trans hk5 (fun _ _ h => h))
           clear hb5 hk5 hg5 hl5
           (try simp only [PU]))
        | (go_at_call 45; go_must (refine (blanks45 Hr.out).mono ?_; rintro e w5 ⟨⟨y5, rfl⟩, hr5, hk5⟩)
           have Hr := Lib.hid hr5
           (try have HV := Lib.hid (HV.out.keep (X' := fun b => g5 < b) hk5 (fun b _ hb e => by omega) (fun _ _ h => h)))
           have Hb6 := Lib.hid (hk5.blk Hb6.out (fun e : g6 = g5 => by have := Hg7.out; have := Hg8.out; have := Hg5.out; omega))
           have Hb7 := Lib.hid (hk5.blk Hb7.out (fun e : g7 = g5 => by have := Hg8.out; have := Hg5.out; omega))
           have Hb8 := Lib.hid (hk5.blk Hb8.out (fun e : g8 = g5 => by have := Hg5.out; omega))
           have HK := Lib.hid (show Keeps Nob w w5 from HK.out.trans hk5 (fun i hi e => by have := Hg5.out; omega))
           clear hr5 hk5
           (try simp only [PU]))
        | (go_at_call 46; go_must (refine (HVal.out _ _ Hr.out).mono ?_; rintro e w6 ⟨⟨v1, rfl, hv1⟩, hr1, hk1⟩; obtain ⟨jk, jb, jn, jt, jks, jvs, jkv, jvv, hjj, rfl, hjk, hjv⟩ := hv1.open; obtain ⟨kA, kc, rfl, -, -⟩ := hjk; obtain ⟨jA, jc, ju, rfl, -, -, -⟩ := hjv)
           have hl5 := Hr.out.lt
           have HV := Lib.hid (hv1.keep (X' := fun b => g5 < b) (Keeps.refl Nob _) (fun _ _ _ => id) (fun b hb hx => Nat.lt_of_lt_of_le hl5 hx))
           have Hr := Lib.hid hr1
           have Hb6 := Lib.hid (hk1.blk Hb6.out (fun e : g6 = g5 => by have := Hg7.out; have := Hg8.out; have := Hg5.out; omega))
           have Hb7 := Lib.hid (hk1.blk Hb7.out (fun e : g7 = g5 => by have := Hg8.out; have := Hg5.out; omega))
           have Hb8 := Lib.hid (hk1.blk Hb8.out (fun e : g8 = g5 => by have := Hg5.out; omega))
           have HK := Lib.hid (show Keeps Nob w w6 from HK.out.trans hk1 (fun i hi e => by have := Hg5.out; omega))
           clear hv1 hr1 hk1 hjj hl5
           generalize jks.length = kl at *
           generalize jvs.length = vl at *
           (try simp only [PU]))
        | ((with_reducible refine at_store (t := 25) rfl ?_); go_must (refine ev_store (cs' := #[.int .i64 jk, .bool jb, .int .i64 jn, .string jt, .slice kA kl kc, .slice jA vl jc]) rfl rfl rfl rfl rfl rfl HI.out.1.1 HI.out.1.2 rfl Hb6.out (Nat.le_of_ble_eq_true rfl) rfl ?_; intro w7 hb7 hk7)
           have HV := Lib.hid (HV.out.keep (X' := fun b => g5 < b) hk7 (fun b _ hb e => by have := Hg7.out; have := Hg8.out; have := Hg5.out; omega) (fun _ _ h => h))
           have Hr := Lib.hid (Hr.out.keep hk7 (fun e : g5 = g6 => by have := Hg7.out; have := Hg8.out; have := Hg5.out; omega))
           have Hb7 := Lib.hid (hk7.blk Hb7.out (fun e : g7 = g6 => by have := Hg7.out; omega))
           have Hb8 := Lib.hid (hk7.blk Hb8.out (fun e : g8 = g6 => by have := Hg7.out; have := Hg8.out; omega))
           have HK := Lib.hid (show Keeps Nob w w7 from HK.out.trans hk7 (fun i hi e => by have := Hg6.out; omega))
           have Hb6 := Lib.hid hb7
           clear hb7 hk7
           (try simp only [PU]))
       )
       go_upto_region 8 with (first
        | (go_at_call 45; go_must (refine (blanks45 Hr.out).mono ?_; rintro e w5 ⟨⟨y5, rfl⟩, hr5, hk5⟩)
           have Hr := Lib.hid hr5
           (try have HV := Lib.hid (HV.out.keep (X' := fun b => g5 < b) hk5 (fun b _ hb e => by omega) (fun _ _ h => h)))
           have Hb6 := Lib.hid (hk5.blk Hb6.out (fun e : g6 = g5 => by have := Hg7.out; have := Hg8.out; have := Hg5.out; omega))
           have Hb7 := Lib.hid (hk5.blk Hb7.out (fun e : g7 = g5 => by have := Hg8.out; have := Hg5.out; omega))
           have Hb8 := Lib.hid (hk5.blk Hb8.out (fun e : g8 = g5 => by have := Hg5.out; omega))
           have HK := Lib.hid (show Keeps Nob w w5 from HK.out.trans hk5 (fun i hi e => by have := Hg5.out; omega))
           clear hr5 hk5
           (try simp only [PU]))
       )
       rw [Hbl.out] at Hr
       have q1 := (blk_cell Hr.out.blk 1).trans rfl
       have s0 := (blk_cell Hb6.out 0).trans rfl
       have s1 := (blk_cell Hb6.out 1).trans rfl
       have s2 := (blk_cell Hb6.out 2).trans rfl
       have s3 := (blk_cell Hb6.out 3).trans rfl
       have s4 := (blk_cell Hb6.out 4).trans rfl
       have s5 := (blk_cell Hb6.out 5).trans rfl
       simp only [List.length_nil, Nat.sub_zero] at q1
       go_wp2_with (first
        | (go_at_call 16; go_must (refine (check16 HV.out (Tab.up (HT.out.keep HK.out.any) HK.out.size) Hsz.out).mono ?_; rintro e w12 ⟨rfl, hk12⟩; rw [Hck.out])
           have HV := Lib.hid (HV.out.keep (X' := fun b => g5 < b) hk12 (fun _ _ _ => id) (fun _ _ h => h))
           have Hb6 := Lib.hid (hk12.blk Hb6.out id)
           have Hb7 := Lib.hid (hk12.blk Hb7.out id)
           have Hb8 := Lib.hid (hk12.blk Hb8.out id)
           have HK := Lib.hid (HK.out.trans hk12 (fun _ _ h => h))
           clear hk12 s0 s1 s2 s3 s4 s5
           have s0 := (blk_cell Hb6.out 0).trans rfl
           have s1 := (blk_cell Hb6.out 1).trans rfl
           have s2 := (blk_cell Hb6.out 2).trans rfl
           have s3 := (blk_cell Hb6.out 3).trans rfl
           have s4 := (blk_cell Hb6.out 4).trans rfl
           have s5 := (blk_cell Hb6.out 5).trans rfl
           (try simp only [PU]))
        | ((with_reducible refine at_store (t := 25) rfl ?_); go_must (refine ev_store (cs' := #[.int .i64 0, .bool false, .int .i64 0, .string ByteArray.empty, .slice none 0 0, .slice none 0 0]) rfl rfl rfl rfl rfl rfl HI.out.1.1 HI.out.1.2 rfl Hb6.out (Nat.le_of_ble_eq_true rfl) rfl ?_; intro wa hba hka); have Hb7 := Lib.hid (hka.blk Hb7.out (fun e : g7 = g6 => by have := Hg7.out; omega)); have Hb8 := Lib.hid (hka.blk Hb8.out (fun e : g8 = g6 => by have := Hg7.out; have := Hg8.out; omega)); have Hb6 := Lib.hid hba; have HKa := Lib.hid (hka.mono (M' := fun k => k = g6 ∨ k = g7 ∨ k = g8) (fun _ _ e => .inl e)); clear hba hka; (try simp only [PU]))
        | ((with_reducible refine at_store (t := 3) rfl ?_); go_must (refine ev_store (cs' := #[.int .i64 0]) rfl rfl rfl rfl rfl rfl HI.out.2.1.1 HI.out.2.1.2 rfl Hb7.out (Nat.le_of_ble_eq_true rfl) rfl ?_; intro wb hbb hkb); have Hb6 := Lib.hid (hkb.blk Hb6.out (fun e : g6 = g7 => by have := Hg7.out; omega)); have Hb8 := Lib.hid (hkb.blk Hb8.out (fun e : g8 = g7 => by have := Hg8.out; omega)); have Hb7 := Lib.hid hbb; have HKa := Lib.hid (HKa.out.trans hkb (fun _ _ e => .inr (.inl e))); clear hbb hkb; (try simp only [PU]))
        | ((with_reducible refine at_store (t := 28) rfl ?_); go_must (refine ev_store (cs' := #[.int .i64 3]) rfl rfl rfl rfl rfl rfl HI.out.2.2.1 HI.out.2.2.2 rfl Hb8.out (Nat.le_of_ble_eq_true rfl) rfl ?_; intro wc hbc hkc); have Hb6 := Lib.hid (hkc.blk Hb6.out (fun e : g6 = g8 => by have := Hg7.out; have := Hg8.out; omega)); have Hb7 := Lib.hid (hkc.blk Hb7.out (fun e : g7 = g8 => by have := Hg8.out; omega)); have Hb8 := Lib.hid hbc; have HKa := Lib.hid (HKa.out.trans hkc (fun _ _ e => .inr (.inr e))); clear hbc hkc; (try simp only [PU]))
       )
       (try simp only [Exit.inBlock, Exit.then])
       refine leaves_cons (f := 44) (args := #[.pointer (some ⟨g6, 0, none⟩), .pointer (some ⟨g7, 0, none⟩), .pointer (some ⟨g8, 0, none⟩)]) (by simp) (by simp [go_sem]) ?_
       refine (Read_idle ⟨g6, 0, none⟩ ⟨g7, 0, none⟩ ⟨g8, 0, none⟩ _).mono ?_
       rintro e u' w'' ⟨rfl, rfl, rfl⟩
       simp only [settle, Leaves]
       clear s0 s1 s2 s3 s4 s5
       have s0 := (blk_cell Hb6.out 0).trans rfl
       have s1 := (blk_cell Hb6.out 1).trans rfl
       have s2 := (blk_cell Hb6.out 2).trans rfl
       have s3 := (blk_cell Hb6.out 3).trans rfl
       have s4 := (blk_cell Hb6.out 4).trans rfl
       have s5 := (blk_cell Hb6.out 5).trans rfl
       have s7 := (blk_cell Hb7.out 0).trans rfl
       have s8 := (blk_cell Hb8.out 0).trans rfl
       refine ⟨_, results_cells3 (x := .agg #[.int .i64 0, .bool false, .int .i64 0, .string ByteArray.empty, .slice none 0 0, .slice none 0 0]) (y := .int .i64 0) (z := .int .i64 3) rfl _ _ rfl rfl rfl (by go_simp) (by go_simp) (by go_simp), ?_⟩
       exact ⟨⟨_, rfl, zJX _ _⟩, HK.out.trans HKa.out (fun i hi e => by have := Hg6.out; have := Hg7.out; have := Hg8.out; omega)⟩
   · have hr1 : (c :: q).length ≤ T.size := by
      have h1 := ((read_ok _).1 40 _ _ _ (by decide) hv).1
      have h2 := blanksB_le r1
      rw [hb] at h2
      omega
     have hR : readW T = (zJ, ((T.size - (q.length + 1) : Nat) : Int), 4) := by
      unfold readW readJ
      rw [if_neg hTn, hv]
      simp only [hb, hbT]
     rw [hR]
     have Hbl := Lib.hid hb
     obtain ⟨a, ha⟩ : ∃ a, T.size - (q.length + 1) = a := ⟨_, rfl⟩
     have haT : (a : Int) < T.size := by simp only [List.length_cons] at hr1; omega
     have Hn := Lib.hid (show q.length + 1 ≤ T.size from hr1)
     have Ha := Lib.hid ha
     rw [ha]
     clear ht hT hTn hbb hbT hv hR ha hb hsz hr1
     go_enter_defers Tryd.func18, Tryd.ntmps18
     go_upto_region 7 with (first
      | ((with_reducible refine at_dst (N := 2) rfl ?_); go_must (refine ev_alloc rfl rfl zero25 rfl ?_; intro g6 w1 hg6 hl6 hb6 hk1); have Hb6 := Lib.hid hb6; have HK := Lib.hid hk1; have Hg6 := Lib.hid hg6; clear hb6 hk1 hg6 hl6; (try simp only [PU]))
      | ((with_reducible refine at_dst (N := 3) rfl ?_); go_must (refine ev_alloc rfl rfl zeroS3 rfl ?_; intro g7 w2 hg7 hl7 hb7 hk2); have Hg7 := Lib.hid (show w.heap.size ≤ g7 ∧ g6 < g7 from ⟨Nat.le_trans HK.out.size hg7, Nat.lt_of_lt_of_le (blk_lt Hb6.out) hg7⟩); have Hb6 := Lib.hid (hk2.blk Hb6.out id); have Hb7 := Lib.hid hb7; have HK := Lib.hid (HK.out.trans hk2 (fun _ _ h => h)); clear hb7 hk2 hg7 hl7; (try simp only [PU]))
      | ((with_reducible refine at_dst (N := 4) rfl ?_); go_must (refine ev_alloc rfl rfl zero28 rfl ?_; intro g8 w3 hg8 hl8 hb8 hk3); have Hg8 := Lib.hid (show w.heap.size ≤ g8 ∧ g7 < g8 from ⟨Nat.le_trans HK.out.size hg8, Nat.lt_of_lt_of_le (blk_lt Hb7.out) hg8⟩); have Hb6 := Lib.hid (hk3.blk Hb6.out id); have Hb7 := Lib.hid (hk3.blk Hb7.out id); have Hb8 := Lib.hid hb8; have HK := Lib.hid (HK.out.trans hk3 (fun _ _ h => h)); clear hb8 hk3 hg8 hl8; (try simp only [PU]))
      | ((with_reducible refine at_dst (N := 13) rfl ?_); go_must (refine ev_box (cs := #[.string T, .int .i64 0]) rfl rfl rfl ?_; intro g5 w4 hg5 hl5 hb5 hk5)
         have Hg5 := Lib.hid (show w.heap.size ≤ g5 ∧ g8 < g5 from ⟨Nat.le_trans HK.out.size hg5, Nat.lt_of_lt_of_le (blk_lt Hb8.out) hg5⟩)
         have Hr := Lib.hid (show Rd w4 g5 T (bl T) from ⟨by rw [bl_len, Nat.sub_self]; exact hb5, ⟨[], rfl⟩, HTs.out⟩)
         have Hb6 := Lib.hid (hk5.blk Hb6.out id)
         have Hb7 := Lib.hid (hk5.blk Hb7.out id)
         have Hb8 := Lib.hid (hk5.blk Hb8.out id)
         have HK := Lib.hid (HK.out.trans hk5 (fun _ _ h => h))
         clear hb5 hk5 hg5 hl5
         (try simp only [PU]))
      | (go_at_call 45; go_must (refine (blanks45 Hr.out).mono ?_; rintro e w5 ⟨⟨y5, rfl⟩, hr5, hk5⟩)
         have Hr := Lib.hid hr5
         (try have HV := Lib.hid (HV.out.keep (X' := fun b => g5 < b) hk5 (fun b _ hb e => by omega) (fun _ _ h => h)))
         have Hb6 := Lib.hid (hk5.blk Hb6.out (fun e : g6 = g5 => by have := Hg7.out; have := Hg8.out; have := Hg5.out; omega))
         have Hb7 := Lib.hid (hk5.blk Hb7.out (fun e : g7 = g5 => by have := Hg8.out; have := Hg5.out; omega))
         have Hb8 := Lib.hid (hk5.blk Hb8.out (fun e : g8 = g5 => by have := Hg5.out; omega))
         have HK := Lib.hid (show Keeps Nob w w5 from HK.out.trans hk5 (fun i hi e => by have := Hg5.out; omega))
         clear hr5 hk5
         (try simp only [PU]))
      | (go_at_call 46; go_must (refine (HVal.out _ _ Hr.out).mono ?_; rintro e w6 ⟨⟨v1, rfl, hv1⟩, hr1, hk1⟩; obtain ⟨jk, jb, jn, jt, jks, jvs, jkv, jvv, hjj, rfl, hjk, hjv⟩ := hv1.open; obtain ⟨kA, kc, rfl, -, -⟩ := hjk; obtain ⟨jA, jc, ju, rfl, -, -, -⟩ := hjv)
         have hl5 := Hr.out.lt
         have HV := Lib.hid (hv1.keep (X' := fun b => g5 < b) (Keeps.refl Nob _) (fun _ _ _ => id) (fun b hb hx => Nat.lt_of_lt_of_le hl5 hx))
         have Hr := Lib.hid hr1
         have Hb6 := Lib.hid (hk1.blk Hb6.out (fun e : g6 = g5 => by have := Hg7.out; have := Hg8.out; have := Hg5.out; omega))
         have Hb7 := Lib.hid (hk1.blk Hb7.out (fun e : g7 = g5 => by have := Hg8.out; have := Hg5.out; omega))
         have Hb8 := Lib.hid (hk1.blk Hb8.out (fun e : g8 = g5 => by have := Hg5.out; omega))
         have HK := Lib.hid (show Keeps Nob w w6 from HK.out.trans hk1 (fun i hi e => by have := Hg5.out; omega))
         clear hv1 hr1 hk1 hjj hl5
         generalize jks.length = kl at *
         generalize jvs.length = vl at *
         (try simp only [PU]))
      | ((with_reducible refine at_store (t := 25) rfl ?_); go_must (refine ev_store (cs' := #[.int .i64 jk, .bool jb, .int .i64 jn, .string jt, .slice kA kl kc, .slice jA vl jc]) rfl rfl rfl rfl rfl rfl HI.out.1.1 HI.out.1.2 rfl Hb6.out (Nat.le_of_ble_eq_true rfl) rfl ?_; intro w7 hb7 hk7)
         have HV := Lib.hid (HV.out.keep (X' := fun b => g5 < b) hk7 (fun b _ hb e => by have := Hg7.out; have := Hg8.out; have := Hg5.out; omega) (fun _ _ h => h))
         have Hr := Lib.hid (Hr.out.keep hk7 (fun e : g5 = g6 => by have := Hg7.out; have := Hg8.out; have := Hg5.out; omega))
         have Hb7 := Lib.hid (hk7.blk Hb7.out (fun e : g7 = g6 => by have := Hg7.out; omega))
         have Hb8 := Lib.hid (hk7.blk Hb8.out (fun e : g8 = g6 => by have := Hg7.out; have := Hg8.out; omega))
         have HK := Lib.hid (show Keeps Nob w w7 from HK.out.trans hk7 (fun i hi e => by have := Hg6.out; omega))
         have Hb6 := Lib.hid hb7
         clear hb7 hk7
         (try simp only [PU]))
     )
     go_upto_region 8 with (first
      | (go_at_call 45; go_must (refine (blanks45 Hr.out).mono ?_; rintro e w5 ⟨⟨y5, rfl⟩, hr5, hk5⟩)
         have Hr := Lib.hid hr5
         (try have HV := Lib.hid (HV.out.keep (X' := fun b => g5 < b) hk5 (fun b _ hb e => by omega) (fun _ _ h => h)))
         have Hb6 := Lib.hid (hk5.blk Hb6.out (fun e : g6 = g5 => by have := Hg7.out; have := Hg8.out; have := Hg5.out; omega))
         have Hb7 := Lib.hid (hk5.blk Hb7.out (fun e : g7 = g5 => by have := Hg8.out; have := Hg5.out; omega))
         have Hb8 := Lib.hid (hk5.blk Hb8.out (fun e : g8 = g5 => by have := Hg5.out; omega))
         have HK := Lib.hid (show Keeps Nob w w5 from HK.out.trans hk5 (fun i hi e => by have := Hg5.out; omega))
         clear hr5 hk5
         (try simp only [PU]))
     )
     rw [Hbl.out] at Hr
     have q1 := (blk_cell Hr.out.blk 1).trans rfl
     have s0 := (blk_cell Hb6.out 0).trans rfl
     have s1 := (blk_cell Hb6.out 1).trans rfl
     have s2 := (blk_cell Hb6.out 2).trans rfl
     have s3 := (blk_cell Hb6.out 3).trans rfl
     have s4 := (blk_cell Hb6.out 4).trans rfl
     have s5 := (blk_cell Hb6.out 5).trans rfl
     rw [show (c :: q).length = q.length + 1 from rfl, Ha.out] at q1
     go_wp2_with fail
     have hf := fail47 Hr.out (q.length + 1) Hn.out
     rw [Ha.out] at hf
     refine hf.mono ?_
     rintro e w8 ⟨rfl, rfl⟩
     unfold stopAt
     rw [Ha.out]
     clear s0 s1 s2 s3 s4 s5 hf
     refine leaves_cons (f := 44) (args := #[.pointer (some ⟨g6, 0, none⟩), .pointer (some ⟨g7, 0, none⟩), .pointer (some ⟨g8, 0, none⟩)]) (by simp) (by simp [go_sem]) ?_
     refine (Read_catch g6 g7 g8 (a : Nat) _ _ _ _ _ _ _ _ _ Hb6.out Hb7.out Hb8.out (by have := Hg7.out; omega) (by have := Hg7.out; have := Hg8.out; omega) (by have := Hg8.out; omega)).mono ?_
     rintro e u' w9 ⟨rfl, rfl, hk9, hb6, hb7, hb8⟩
     have s0 := (blk_cell hb6 0).trans rfl
     have s1 := (blk_cell hb6 1).trans rfl
     have s2 := (blk_cell hb6 2).trans rfl
     have s3 := (blk_cell hb6 3).trans rfl
     have s4 := (blk_cell hb6 4).trans rfl
     have s5 := (blk_cell hb6 5).trans rfl
     have s7 := (blk_cell hb7 0).trans rfl
     have s8 := (blk_cell hb8 0).trans rfl
     simp only [settle, Leaves]
     refine ⟨_, results_cells3 (x := .agg #[.int .i64 0, .bool false, .int .i64 0, .string ByteArray.empty, .slice none 0 0, .slice none 0 0]) (y := .int .i64 (a : Nat)) (z := .int .i64 4) rfl _ _ rfl rfl rfl (by go_simp) (by go_simp) (by go_simp), ?_⟩
     exact ⟨⟨_, rfl, zJX _ _⟩, HK.out.trans hk9 (fun i hi e => by have := Hg6.out; have := Hg7.out; have := Hg8.out; omega)⟩
theorem Read_any {w : World} {T : ByteArray} (ht : Tab w w.heap.size) : Calls Tryd.prog 18 #[.string T] w (ReadEnd w (readW T)) := by
 by_cases hT : T.size ≤ 1000000
 · exact Read_short ht hT
 · have hR : readW T = (zJ, 0, 3) := by unfold readW; rw [if_pos (by omega)]
   rw [hR]
   exact Read_long (by omega)
end Go.Proofs.WV
