/-
  The law WirePut, by the program, in memory. Condition: the standard library's table of powers lies; the two values and the key lie, together not larger than three million.
-/
import Derived.Test.YtcmmnbipaemgiaaDoorPt1
import Derived.ChangeSlices
import Derived.ChangeArms
import Derived.Carry
namespace Go.Proofs.WV
open Go.RowKit Go.Proofs.KL Go.Proofs.WM
set_option maxRecDepth 100000
set_option linter.unusedSimpArgs false
set_option linter.unusedVariables false

theorem JX.strs {w : World} {X : Nat → Prop} {x0 x1 x2 x3 kv vv : Value} {j : J} (h : JX w X (.agg #[x0, x1, x2, x3, kv, vv]) j) : StrsX w X kv j.keys := by
  obtain ⟨k, b, n, t, ks, vs, kv', vv', rfl, he, hks, -⟩ := h.open
  injection he with he
  have := congrArg (fun a : Array Value => a[4]?) he
  simp at this
  subst this
  exact hks
set_option maxHeartbeats 8000000 in
theorem WirePut_any {w : World} {v xv : Value} {j x : J} {key : ByteArray} (ht : Tab w w.heap.size) (h : JX w (fun _ => True) v j) (hx : JX w (fun _ => True) xv x) (hb : sizeJ j + key.size + sizeJ x ≤ 3000000) : Calls Tryd.prog 11 #[v, .string key, xv] w fun e w' => e = .returned (.bool true) ∧ Keeps Nob w w' := by
  obtain ⟨jk, jb, jn, jt, ks, vs, kv, vv, rfl, rfl, hjk, hjv⟩ := h.open
  obtain ⟨kA, kc, rfl, -, hks⟩ := id hjk
  obtain ⟨vA, vc, u, rfl, -, hA, hv⟩ := id hjv
  obtain ⟨xk, xb, xn, xt, xks, xvs, xkv, xvv, hxe, rfl, hxk, hxv⟩ := hx.open
  obtain ⟨xA, xkc, rfl, -, -⟩ := id hxk
  obtain ⟨xB, xvc, xu, rfl, -, -, -⟩ := id hxv
  obtain ⟨kl, hkn⟩ : ∃ x, ks.length = x := ⟨_, rfl⟩
  obtain ⟨nv, hnv⟩ : ∃ x, vs.length = x := ⟨_, rfl⟩
  obtain ⟨xkl, hxkn⟩ : ∃ x, xks.length = x := ⟨_, rfl⟩
  obtain ⟨xvl, hxvn⟩ : ∃ x, xvs.length = x := ⟨_, rfl⟩
  have HKs := Lib.hid (show ∀ i, i < kl → ∃ b o, kA = some ⟨b, o, none⟩ ∧ w.cell? ⟨b, o + i, none⟩ = some (.string (ks.getD i ByteArray.empty)) from fun i hi => by
    obtain ⟨b, o, e, _, hc⟩ := hks i (by rw [hkn]; exact hi)
    exact ⟨b, o, e, hc⟩)
  have HA := Lib.hid (show ∀ i, i < nv → ∃ b o, vA = some ⟨b, o, none⟩ ∧ Six w b (o + i * 6) (u i 0) (u i 1) (u i 2) (u i 3) (u i 4) (u i 5) from fun i hi => by
    obtain ⟨b, o, e, _, h6⟩ := hA i (by rw [hnv]; exact hi)
    exact ⟨b, o, e, h6⟩)
  have HVu := Lib.hid (show ∀ i, i < nv → JX w (fun b => b < w.heap.size) (.agg #[u i 0, u i 1, u i 2, u i 3, u i 4, u i 5]) (vs.getD i default) from fun i hi => (hv i (by rw [hnv]; exact hi)).low)
  have hkl : kl ≤ 3000000 ∧ nv ≤ 3000000 := by
    have := size_len vs
    have hs2 : sizeJ (.mk jk jb jn jt ks vs) ≤ 3000000 := by omega
    unfold sizeJ at hs2
    omega
  have Hkl := Lib.hid hkl
  have Hln := Lib.hid (And.intro hkn hnv)
  have Hsz := Lib.hid (show sizeJ (J.mk jk jb jn jt ks vs) + sizeJ x + key.size ≤ 900000000 ∧ sizeJ (J.mk jk jb jn jt ks vs) ≤ 1000000000000 ∧ sizeJ x ≤ 1000000000000 by omega)
  have Hvs := Lib.hid (show ∀ i, i < nv → sizeJ (vs.getD i default) ≤ 1000000000000 from fun i hi => by
    have := size_get (vs := vs) (i := i) (by omega)
    have hs2 : sizeJ (.mk jk jb jn jt ks vs) ≤ 3000000 := by omega
    unfold sizeJ at hs2
    omega)
  have Hso := Lib.hid (show sizeJ (putOut key x (J.mk jk jb jn jt ks vs)) ≤ 1000000000 by have := putOut_size key x (J.mk jk jb jn jt ks vs); omega)
  rw [hkn] at h ⊢
  rw [hnv] at h ⊢
  rw [hxkn] at hx ⊢
  rw [hxvn] at hx ⊢
  have HVj := Lib.hid h.low
  have HVx := Lib.hid hx.low
  have HT := Lib.hid ht
  obtain ⟨i25, hi25, hs25⟩ := info25
  have HI := Lib.hid (And.intro hi25 hs25)
  have H12 := Lib.hid (fun (W' : World) (g9 : Nat) (hg : W'.heap[g9]? = some (.cells #[.int .i64 jk, .bool jb, .int .i64 jn, .string jt, .slice kA kl kc, .slice vA nv vc, .int .i64 xk, .bool xb, .int .i64 xn, .string xt, .slice xA xkl xkc, .slice xB xvl xvc] 25 (0, 0))) (hj : JX W' (fun b => b < w.heap.size) (.agg #[.int .i64 jk, .bool jb, .int .i64 jn, .string jt, .slice kA kl kc, .slice vA nv vc]) (J.mk jk jb jn jt ks vs)) (hx' : JX W' (fun b => b < w.heap.size) (.agg #[.int .i64 xk, .bool xb, .int .i64 xn, .string xt, .slice xA xkl xkc, .slice xB xvl xvc]) x) =>
    small12 (js2 (X := fun _ => True) hg trivial (hj.keep (Keeps.refl Nob W') (fun _ _ _ => id) (fun _ _ _ => trivial)) (hx'.keep (Keeps.refl Nob W') (fun _ _ _ => id) (fun _ _ _ => trivial))) (by simp only [List.mem_cons, List.not_mem_nil, or_false]; rintro j' (rfl | rfl) <;> omega) (by decide))
  clear h hx ht hjk hjv hks hA hv hxk hxv hkl hkn hnv hxkn hxvn hi25 hs25 hxe hb
  by_cases hsm : smallJ [J.mk jk jb jn jt ks vs, x] = true
  · have Hsm := Lib.hid hsm
    clear hsm
    by_cases hkey : key.size ≤ 3000
    · have hki : (key.size : Int) ≤ 3000 := by omega
      obtain ⟨P1, zp, hP⟩ : ∃ a b, putJ (J.mk jk jb jn jt ks vs) key x = (a, b) := ⟨_, _, rfl⟩
      have HP := Lib.hid hP
      clear hP hkey
      go_enter Tryd.func11, Tryd.ntmps11
      go_upto_region 1 with (first
        | ((with_reducible refine at_dst (N := 3) rfl ?_); go_must (refine ev_box (cs := #[.int .i64 jk, .bool jb, .int .i64 jn, .string jt, .slice kA kl kc, .slice vA nv vc]) rfl rfl rfl ?_; intro g3 w1 hg1 hl1 hb1 hk1)
           have Hb3 := Lib.hid hb1
           have Hg3 := Lib.hid (And.intro hg1 hl1)
           have HVj := Lib.hid (HVj.out.after hk1)
           have HVx := Lib.hid (HVx.out.after hk1)
           have HK := Lib.hid hk1
           clear hg1 hl1 hb1 hk1
           (try simp only [PU]))
        | ((with_reducible refine at_dst (N := 5) rfl ?_); go_must (refine ev_box (cs := #[.int .i64 xk, .bool xb, .int .i64 xn, .string xt, .slice xA xkl xkc, .slice xB xvl xvc]) rfl rfl rfl ?_; intro g5 w2 hg2 hl2 hb2 hk2)
           have Hgs := Lib.hid (show w.heap.size ≤ g3 ∧ g3 < g5 ∧ g5 < w2.heap.size from ⟨Hg3.out.1, Nat.lt_of_lt_of_le Hg3.out.2 hg2, hl2⟩)
           have HVj := Lib.hid (HVj.out.after hk2)
           have HVx := Lib.hid (HVx.out.after hk2)
           (try have Hb3 := Lib.hid (Keeps.blk hk2 Hb3.out id))
           (try have Hb5 := Lib.hid (Keeps.blk hk2 Hb5.out id))
           (try have Hb7 := Lib.hid (Keeps.blk hk2 Hb7.out id))
           (try have Hb9 := Lib.hid (Keeps.blk hk2 Hb9.out id))
           (try have HVo := Lib.hid (JX.after HVo.out hk2))
           (try have HVy := Lib.hid (JX.after HVy.out hk2))
           have HK := Lib.hid (HK.out.trans hk2 (fun _ _ h => h))
           have Hb5 := Lib.hid hb2
           clear hg2 hl2 hb2 hk2 Hg3
           (try simp only [PU]))
      )
      have s0 := (blk_cell Hb3.out 0).trans rfl
      have s1 := (blk_cell Hb3.out 1).trans rfl
      have s2 := (blk_cell Hb3.out 2).trans rfl
      have s3 := (blk_cell Hb3.out 3).trans rfl
      have s4 := (blk_cell Hb3.out 4).trans rfl
      have s5 := (blk_cell Hb3.out 5).trans rfl
      have r0 := (blk_cell Hb5.out 0).trans rfl
      have r1 := (blk_cell Hb5.out 1).trans rfl
      have r2 := (blk_cell Hb5.out 2).trans rfl
      have r3 := (blk_cell Hb5.out 3).trans rfl
      have r4 := (blk_cell Hb5.out 4).trans rfl
      have r5 := (blk_cell Hb5.out 5).trans rfl
      go_upto_if 24 with (first
        | ((with_reducible refine at_dst (N := 17) rfl ?_); go_must (refine ev_slice (cs := #[.int .i64 jk, .bool jb, .int .i64 jn, .string jt, .slice kA kl kc, .slice vA nv vc, .int .i64 xk, .bool xb, .int .i64 xn, .string xt, .slice xA xkl xkc, .slice xB xvl xvc]) (t := 25) (n := 2) (c := 2) rfl (by first | (go_simp; done) | (go_simp; rfl)) ?_; intro g17 w3 hg3 hl3 hb3 hk3)
           have Hbs := Lib.hid hb3
           have HVj := Lib.hid (HVj.out.after hk3)
           have HVx := Lib.hid (HVx.out.after hk3)
           (try have Hb3 := Lib.hid (Keeps.blk hk3 Hb3.out id))
           (try have Hb5 := Lib.hid (Keeps.blk hk3 Hb5.out id))
           (try have Hb7 := Lib.hid (Keeps.blk hk3 Hb7.out id))
           (try have Hb9 := Lib.hid (Keeps.blk hk3 Hb9.out id))
           (try have HVo := Lib.hid (JX.after HVo.out hk3))
           (try have HVy := Lib.hid (JX.after HVy.out hk3))
           have HK := Lib.hid (HK.out.trans hk3 (fun _ _ h => h))
           clear hg3 hl3 hb3 hk3 s0 s1 s2 s3 s4 s5 r0 r1 r2 r3 r4 r5
           (try simp only [PU]))
        | (go_at_call 12; go_must (refine (H12.out _ _ Hbs.out HVj.out HVx.out).mono ?_; rintro e w4 ⟨rfl, hk4⟩; rw [Hsm.out])
           have HVj := Lib.hid (HVj.out.after hk4)
           have HVx := Lib.hid (HVx.out.after hk4)
           (try have Hb3 := Lib.hid (Keeps.blk hk4 Hb3.out id))
           (try have Hb5 := Lib.hid (Keeps.blk hk4 Hb5.out id))
           (try have Hb7 := Lib.hid (Keeps.blk hk4 Hb7.out id))
           (try have Hb9 := Lib.hid (Keeps.blk hk4 Hb9.out id))
           (try have HVo := Lib.hid (JX.after HVo.out hk4))
           (try have HVy := Lib.hid (JX.after HVy.out hk4))
           have HK := Lib.hid (HK.out.trans hk4 (fun _ _ h => h))
           clear hk4 Hbs
           (try simp only [PU]))
      )
      go_upto_region 3 with fail
      have s0 := (blk_cell Hb3.out 0).trans rfl
      have s1 := (blk_cell Hb3.out 1).trans rfl
      have s2 := (blk_cell Hb3.out 2).trans rfl
      have s3 := (blk_cell Hb3.out 3).trans rfl
      have s4 := (blk_cell Hb3.out 4).trans rfl
      have s5 := (blk_cell Hb3.out 5).trans rfl
      have r0 := (blk_cell Hb5.out 0).trans rfl
      have r1 := (blk_cell Hb5.out 1).trans rfl
      have r2 := (blk_cell Hb5.out 2).trans rfl
      have r3 := (blk_cell Hb5.out 3).trans rfl
      have r4 := (blk_cell Hb5.out 4).trans rfl
      have r5 := (blk_cell Hb5.out 5).trans rfl
      go_upto_if 34 with (first
        | (go_at_call 32; go_must (refine (put32 HVj.out HVx.out (Tab.after HT.out HK.out) Hsz.out.1).mono ?_; rw [HP.out]; rintro e w5 ⟨⟨v5, he5, hv5⟩, hk5⟩; obtain ⟨ok, ob, on, ot, oks, ovs, okv, ovv, hoe, rfl, hok, hov⟩ := hv5.open; obtain ⟨oA, oc, rfl, -, hos⟩ := id hok; obtain ⟨oB, od, ou, rfl, -, -, -⟩ := hov; obtain rfl : e = .returned (.tuple #[.agg #[.int .i64 ok, .bool ob, .int .i64 on, .string ot, .slice oA oks.length oc, .slice oB ovs.length od], .int .i64 zp]) := he5)
           have Hsz5 := Lib.hid (show w.heap.size ≤ w5.heap.size from Nat.le_trans HK.out.size hk5.size)
           have HVj := Lib.hid (HVj.out.after hk5)
           have HVx := Lib.hid (HVx.out.after hk5)
           (try have Hb3 := Lib.hid (Keeps.blk hk5 Hb3.out id))
           (try have Hb5 := Lib.hid (Keeps.blk hk5 Hb5.out id))
           (try have Hb7 := Lib.hid (Keeps.blk hk5 Hb7.out id))
           (try have Hb9 := Lib.hid (Keeps.blk hk5 Hb9.out id))
           (try have HVo := Lib.hid (JX.after HVo.out hk5))
           (try have HVy := Lib.hid (JX.after HVy.out hk5))
           have HK := Lib.hid (HK.out.trans hk5 (fun _ _ h => h))
           have HVo := Lib.hid (show JX w5 (fun b => b < w5.heap.size) _ P1 from hv5.low)
           have HOk := Lib.hid (show oks = P1.keys from by rw [show P1 = _ from hoe]; rfl)
           clear hk5 hv5 hok hoe hos s0 s1 s2 s3 s4 s5 r0 r1 r2 r3 r4 r5
           obtain ⟨okl, hokl⟩ : ∃ y, oks.length = y := ⟨_, rfl⟩
           have Hokl := Lib.hid hokl
           rw [hokl]
           rw [hokl] at HVo
           clear hokl
           generalize ovs.length = ovl at *
           (try simp only [PU]))
        | ((with_reducible refine at_dst (N := 7) rfl ?_); go_must (refine ev_alloc rfl rfl zero25 rfl ?_; intro g7 w6 hg6 hl6 hb6 hk6)
           have Hg7 := Lib.hid (show w.heap.size ≤ g7 ∧ g5 < g7 from ⟨Nat.le_trans HK.out.size hg6, Nat.lt_of_lt_of_le (blk_lt Hb5.out) hg6⟩)
           have HVo := Lib.hid (HVo.out.keep (X' := fun b => b < g7) hk6 (fun _ _ _ => id) (fun b hb hx => Nat.lt_of_lt_of_le hx hg6))
           have HVj := Lib.hid (HVj.out.after hk6)
           have HVx := Lib.hid (HVx.out.after hk6)
           (try have Hb3 := Lib.hid (Keeps.blk hk6 Hb3.out id))
           (try have Hb5 := Lib.hid (Keeps.blk hk6 Hb5.out id))
           (try have Hb7 := Lib.hid (Keeps.blk hk6 Hb7.out id))
           (try have Hb9 := Lib.hid (Keeps.blk hk6 Hb9.out id))
           (try have HVo := Lib.hid (JX.after HVo.out hk6))
           (try have HVy := Lib.hid (JX.after HVy.out hk6))
           have HK := Lib.hid (HK.out.trans hk6 (fun _ _ h => h))
           have Hb7 := Lib.hid hb6
           clear hg6 hl6 hb6 hk6
           (try simp only [PU]))
        | ((with_reducible refine at_store (t := 25) (p := 7) rfl ?_); go_must (refine ev_store (cs' := #[.int .i64 ok, .bool ob, .int .i64 on, .string ot, .slice oA okl oc, .slice oB ovl od]) rfl rfl rfl rfl rfl rfl HI.out.1 HI.out.2 rfl Hb7.out (Nat.le_of_ble_eq_true rfl) rfl ?_; intro w7 hb7 hk7)
           have HVo := Lib.hid (HVo.out.keep (X' := fun b => b < g7) hk7 (fun b _ hb e => by omega) (fun _ _ h => h))
           have HVj := Lib.hid (HVj.out.keep (X' := fun b => b < w.heap.size) hk7 (fun b _ hb e => by have := Hg7.out; omega) (fun _ _ h => h))
           have HVx := Lib.hid (HVx.out.keep (X' := fun b => b < w.heap.size) hk7 (fun b _ hb e => by have := Hg7.out; omega) (fun _ _ h => h))
           have Hb3 := Lib.hid (hk7.blk Hb3.out (fun e : g3 = g7 => by have := Hg7.out; have := Hgs.out; omega))
           have Hb5 := Lib.hid (hk7.blk Hb5.out (fun e : g5 = g7 => by have := Hg7.out; omega))
           have HK := Lib.hid (show Keeps Nob w w7 from HK.out.trans hk7 (fun i hi e => by have := Hg7.out; omega))
           have Hb7 := Lib.hid hb7
           clear hb7 hk7
           (try simp only [PU]))
      )
      by_cases hz0 : zp = 0
      · subst hz0
        have hpo := put_ok (show (putJ (J.mk jk jb jn jt ks vs) key x).2 = 0 by rw [HP.out])
        obtain ⟨hp1, hlen, hpk⟩ := hpo
        rw [HP.out] at hp1
        have hp1 : P1 = _ := hp1
        rw [← hp1] at hpk
        have HsP := Lib.hid (show sizeJ P1 ≤ 1000000000 by rw [hp1]; exact Hso.out)
        have Hfl := Lib.hid (show kl = nv by rw [← Hln.out.1, ← Hln.out.2]; exact hlen)
        have Hown := Lib.hid hpk.own
        have hokl : okl = P1.keys.length := by rw [← Hokl.out, HOk.out]
        have hl1 : (kl : Int) ≤ (okl : Int) ∧ (okl : Int) ≤ (kl : Int) + 1 := by
          have h := hpk.len
          rw [← hokl, Hln.out.1] at h
          omega
        obtain ⟨hl2, hl3⟩ := hl1
        have Hrest := Lib.hid (show ∀ i, i < kl → P1.keys.getD i ByteArray.empty = ks.getD i ByteArray.empty ∧ ∃ z, getJ P1 (ks.getD i ByteArray.empty) = (z, 0) ∧ (ks.getD i ByteArray.empty ≠ key → z = vs.getD i default) from fun i hi => hpk.rest i (by rw [Hln.out.1]; exact hi))
        have Hsame := Lib.hid (show sameJ x x = true from (sameJ_iff _ _).2 rfl)
        have hkli : (kl : Int) ≤ 3000000 := by have := Hkl.out; omega
        clear hp1 hlen hpk hokl
        go_upto_region 6 with fail
        have o0 := (blk_cell Hb7.out 0).trans rfl
        have o1 := (blk_cell Hb7.out 1).trans rfl
        have o2 := (blk_cell Hb7.out 2).trans rfl
        have o3 := (blk_cell Hb7.out 3).trans rfl
        have o4 := (blk_cell Hb7.out 4).trans rfl
        have o5 := (blk_cell Hb7.out 5).trans rfl
        go_upto_region 7 with (first
          | (go_at_call 30; go_must (refine (get30 HVo.out (Tab.after HT.out HK.out) HsP.out).mono ?_; rw [Hown.out]; rintro e w8 ⟨⟨v8, he8, hv8⟩, hk8⟩; obtain ⟨yk, yb, yn, yt, yks, yvs, ykv, yvv, hye, rfl, hyk, hyv⟩ := hv8.open; obtain ⟨yA, yc, rfl, -, -⟩ := hyk; obtain ⟨yB, yd, yu, rfl, -, -, -⟩ := hyv; obtain rfl : e = .returned (.tuple #[.agg #[.int .i64 yk, .bool yb, .int .i64 yn, .string yt, .slice yA yks.length yc, .slice yB yvs.length yd], .int .i64 0]) := he8)
             have Hsz8 := Lib.hid (show w.heap.size ≤ w8.heap.size from Nat.le_trans HK.out.size hk8.size)
             have HVj := Lib.hid (HVj.out.after hk8)
             have HVx := Lib.hid (HVx.out.after hk8)
             (try have Hb3 := Lib.hid (Keeps.blk hk8 Hb3.out id))
             (try have Hb5 := Lib.hid (Keeps.blk hk8 Hb5.out id))
             (try have Hb7 := Lib.hid (Keeps.blk hk8 Hb7.out id))
             (try have Hb9 := Lib.hid (Keeps.blk hk8 Hb9.out id))
             (try have HVo := Lib.hid (JX.after HVo.out hk8))
             (try have HVy := Lib.hid (JX.after HVy.out hk8))
             have HK := Lib.hid (HK.out.trans hk8 (fun _ _ h => h))
             have HVy := Lib.hid (show JX w8 (fun b => b < w8.heap.size) _ x from hv8.low)
             clear hk8 hv8 hye o0 o1 o2 o3 o4 o5
             generalize yks.length = ykl at *
             generalize yvs.length = yvl at *
             (try simp only [PU]))
          | ((with_reducible refine at_dst (N := 9) rfl ?_); go_must (refine ev_alloc rfl rfl zero25 rfl ?_; intro g9 w9 hg6 hl6 hb6 hk6)
             have Hg9 := Lib.hid (show w.heap.size ≤ g9 ∧ g5 < g9 ∧ g7 < g9 from ⟨Nat.le_trans HK.out.size hg6, Nat.lt_of_lt_of_le (blk_lt Hb5.out) hg6, Nat.lt_of_lt_of_le (blk_lt Hb7.out) hg6⟩)
             have HVy := Lib.hid (HVy.out.keep (X' := fun b => b < g9) hk6 (fun _ _ _ => id) (fun b hb hx => Nat.lt_of_lt_of_le hx hg6))
             have HVj := Lib.hid (HVj.out.after hk6)
             have HVx := Lib.hid (HVx.out.after hk6)
             (try have Hb3 := Lib.hid (Keeps.blk hk6 Hb3.out id))
             (try have Hb5 := Lib.hid (Keeps.blk hk6 Hb5.out id))
             (try have Hb7 := Lib.hid (Keeps.blk hk6 Hb7.out id))
             (try have Hb9 := Lib.hid (Keeps.blk hk6 Hb9.out id))
             (try have HVo := Lib.hid (JX.after HVo.out hk6))
             (try have HVy := Lib.hid (JX.after HVy.out hk6))
             have HK := Lib.hid (HK.out.trans hk6 (fun _ _ h => h))
             have Hb9 := Lib.hid hb6
             clear hg6 hl6 hb6 hk6
             (try simp only [PU]))
          | ((with_reducible refine at_store (t := 25) (p := 9) rfl ?_); go_must (refine ev_store (cs' := #[.int .i64 yk, .bool yb, .int .i64 yn, .string yt, .slice yA ykl yc, .slice yB yvl yd]) rfl rfl rfl rfl rfl rfl HI.out.1 HI.out.2 rfl Hb9.out (Nat.le_of_ble_eq_true rfl) rfl ?_; intro w10 hb7 hk7)
             have HVy := Lib.hid (HVy.out.keep (X' := fun b => b < g9) hk7 (fun b _ hb e => by omega) (fun _ _ h => h))
             have HVo := Lib.hid (HVo.out.keep (X' := fun b => b < g7) hk7 (fun b _ hb e => by have := Hg9.out; omega) (fun _ _ h => h))
             have HVj := Lib.hid (HVj.out.keep (X' := fun b => b < w.heap.size) hk7 (fun b _ hb e => by have := Hg9.out; omega) (fun _ _ h => h))
             have HVx := Lib.hid (HVx.out.keep (X' := fun b => b < w.heap.size) hk7 (fun b _ hb e => by have := Hg9.out; omega) (fun _ _ h => h))
             have Hb3 := Lib.hid (hk7.blk Hb3.out (fun e : g3 = g9 => by have := Hg9.out; have := Hgs.out; omega))
             have Hb5 := Lib.hid (hk7.blk Hb5.out (fun e : g5 = g9 => by have := Hg9.out; omega))
             have Hb7 := Lib.hid (hk7.blk Hb7.out (fun e : g7 = g9 => by have := Hg9.out; omega))
             have HK := Lib.hid (show Keeps Nob w w10 from HK.out.trans hk7 (fun i hi e => by have := Hg9.out; omega))
             have Hb9 := Lib.hid hb7
             clear hb7 hk7
             (try simp only [PU]))
        )
        have o0 := (blk_cell Hb7.out 0).trans rfl
        have o1 := (blk_cell Hb7.out 1).trans rfl
        have o2 := (blk_cell Hb7.out 2).trans rfl
        have o3 := (blk_cell Hb7.out 3).trans rfl
        have o4 := (blk_cell Hb7.out 4).trans rfl
        have o5 := (blk_cell Hb7.out 5).trans rfl
        have s0 := (blk_cell Hb3.out 0).trans rfl
        have s1 := (blk_cell Hb3.out 1).trans rfl
        have s2 := (blk_cell Hb3.out 2).trans rfl
        have s3 := (blk_cell Hb3.out 3).trans rfl
        have s4 := (blk_cell Hb3.out 4).trans rfl
        have s5 := (blk_cell Hb3.out 5).trans rfl
        have r0 := (blk_cell Hb5.out 0).trans rfl
        have r1 := (blk_cell Hb5.out 1).trans rfl
        have r2 := (blk_cell Hb5.out 2).trans rfl
        have r3 := (blk_cell Hb5.out 3).trans rfl
        have r4 := (blk_cell Hb5.out 4).trans rfl
        have r5 := (blk_cell Hb5.out 5).trans rfl
        have y0 := (blk_cell Hb9.out 0).trans rfl
        have y1 := (blk_cell Hb9.out 1).trans rfl
        have y2 := (blk_cell Hb9.out 2).trans rfl
        have y3 := (blk_cell Hb9.out 3).trans rfl
        have y4 := (blk_cell Hb9.out 4).trans rfl
        have y5 := (blk_cell Hb9.out 5).trans rfl
        go_upto_region 9 with (first
          | (go_at_call 23; go_must (refine (same23 HVx.out _ _ HVy.out _ (Keeps.refl Nob _) Hsz.out.2.2 Hsz.out.2.2).mono ?_; rintro e w12 ⟨rfl, hk12⟩; rw [Hsame.out])
             have HVj := Lib.hid (HVj.out.after hk12)
             have HVx := Lib.hid (HVx.out.after hk12)
             (try have Hb3 := Lib.hid (Keeps.blk hk12 Hb3.out id))
             (try have Hb5 := Lib.hid (Keeps.blk hk12 Hb5.out id))
             (try have Hb7 := Lib.hid (Keeps.blk hk12 Hb7.out id))
             (try have Hb9 := Lib.hid (Keeps.blk hk12 Hb9.out id))
             (try have HVo := Lib.hid (JX.after HVo.out hk12))
             (try have HVy := Lib.hid (JX.after HVy.out hk12))
             have HK := Lib.hid (HK.out.trans hk12 (fun _ _ h => h))
             clear hk12 s0 s1 s2 s3 s4 s5 r0 r1 r2 r3 r4 r5 y0 y1 y2 y3 y4 y5 o0 o1 o2 o3 o4 o5
             have o4 := (blk_cell Hb7.out 4).trans rfl
             have s4 := (blk_cell Hb3.out 4).trans rfl
             (try simp only [PU]))
        )
        have hst := HVo.out.strs
        obtain ⟨A', c', e', -, hx'⟩ := hst
        injection e' with e1 e2 e3
        subst e1; subst e3
        have HOc := Lib.hid (show ∀ i, i < okl → ∃ b o, oA = some ⟨b, o, none⟩ ∧ w12.cell? ⟨b, o + i, none⟩ = some (.string (P1.keys.getD i ByteArray.empty)) from fun i hi => by
          obtain ⟨b, o, e, _, hc⟩ := hx' i (by rw [← e2]; exact hi)
          exact ⟨b, o, e, hc⟩)
        clear hx' e2 Hb5 Hb9 HVy HOk Hokl
        go_wp2_with fail
        clear s4 o4
        go_loopg [72] kl (fun K iv wr => ∃ i : Nat, iv = .int .i64 i ∧ i + K = kl ∧ Hid (Keeps Nob w12 wr))
        case atStart => exact ⟨0, rfl, by omega, Lib.hid (Keeps.refl Nob w12)⟩
        case round =>
          obtain ⟨i, rfl, hiK, Kr⟩ := hrel
          by_cases hlt : i < kl
          · obtain ⟨bk, ko, hkA, hck⟩ := HKs.out i hlt
            subst hkA
            obtain ⟨hke, z, hgz, hzv⟩ := Hrest.out i hlt
            obtain ⟨kk, hkk⟩ : ∃ y, ks.getD i ByteArray.empty = y := ⟨_, rfl⟩
            rw [hkk] at hck hke hgz hzv
            have hck := (HK.out.trans Kr.out (fun _ _ h => h)).cell hck id
            have hnvi : i < nv := by have := Hfl.out; omega
            obtain ⟨bo, oo, hoA, hco⟩ := HOc.out i (by omega)
            subst hoA
            rw [hke] at hco
            obtain ⟨bv, ov, hvA, h6⟩ := HA.out i hnvi
            subst hvA
            have hjx := HVu.out i hnvi
            have hsix := hjx.six
            have Hvz := Lib.hid (Hvs.out i hnvi)
            generalize u i 0 = x0 at *
            generalize u i 1 = x1 at *
            generalize u i 2 = x2 at *
            generalize u i 3 = x3 at *
            generalize u i 4 = x4 at *
            generalize u i 5 = x5 at *
            obtain ⟨q0, q1, q2, q3, qA, qn, qc, qB, qm, qd, ⟨rfl, rfl, rfl⟩, rfl, rfl, rfl⟩ := hsix
            have H6 := Lib.hid h6
            have Hjx := Lib.hid hjx
            have Hgz := Lib.hid hgz
            have Hzv := Lib.hid hzv
            have Hco := Lib.hid hco
            have hii : (i : Int) < (kl : Int) := by omega
            have hii2 : (i : Int) < (nv : Int) := by omega
            have hii3 : (i : Int) < (okl : Int) := by omega
            clear hke hgz hzv h6 hjx hco hkk
            go_upto_region 12 with fail
            clear hck
            have Hbo := Lib.hid (Kr.out.blk Hb7.out id)
            have o0 := (blk_cell Hbo.out 0).trans rfl
            have o1 := (blk_cell Hbo.out 1).trans rfl
            have o2 := (blk_cell Hbo.out 2).trans rfl
            have o3 := (blk_cell Hbo.out 3).trans rfl
            have o4 := (blk_cell Hbo.out 4).trans rfl
            have o5 := (blk_cell Hbo.out 5).trans rfl
            go_upto_region 13 with (first
              | (go_at_call 30; go_must (refine (get30 (HVo.out.after Kr.out) (Tab.after HT.out (HK.out.trans Kr.out (fun _ _ h => h))) HsP.out).mono ?_; rw [Hgz.out]; rintro e w13 ⟨⟨v13, he13, hv13⟩, hk13⟩; obtain ⟨zk, zb, zn, zt, zks, zvs, zkv, zvv, hze, rfl, hzk, hzw⟩ := hv13.open; obtain ⟨zA, zc, rfl, -, -⟩ := hzk; obtain ⟨zB, zd, zu, rfl, -, -, -⟩ := hzw; obtain rfl : e = .returned (.tuple #[.agg #[.int .i64 zk, .bool zb, .int .i64 zn, .string zt, .slice zA zks.length zc, .slice zB zvs.length zd], .int .i64 0]) := he13)
                 have Kr := Lib.hid (Kr.out.trans hk13 (fun _ _ h => h))
                 have HVz := Lib.hid (show JX w13 (fun b => b < w13.heap.size) _ z from hv13.low)
                 clear hk13 hv13 hze o0 o1 o2 o3 o4 o5 Hbo
                 generalize zks.length = zkl at *
                 generalize zvs.length = zvl at *
                 (try simp only [PU]))
              | ((with_reducible refine at_dst (N := 13) rfl ?_); go_must (refine ev_alloc rfl rfl zero25 rfl ?_; intro gz w14 hg6 hl6 hb6 hk6)
                 have Hgz2 := Lib.hid (show w12.heap.size ≤ gz from Nat.le_trans Kr.out.size hg6)
                 have HVz := Lib.hid (HVz.out.keep (X' := fun b => b < gz) hk6 (fun _ _ _ => id) (fun b hb hx => Nat.lt_of_lt_of_le hx hg6))
                 have Kr := Lib.hid (Kr.out.trans hk6 (fun _ _ h => h))
                 have Hbz := Lib.hid hb6
                 clear hg6 hl6 hb6 hk6
                 (try simp only [PU]))
              | ((with_reducible refine at_store (t := 25) (p := 13) rfl ?_); go_must (refine ev_store (cs' := #[.int .i64 zk, .bool zb, .int .i64 zn, .string zt, .slice zA zkl zc, .slice zB zvl zd]) rfl rfl rfl rfl rfl rfl HI.out.1 HI.out.2 rfl Hbz.out (Nat.le_of_ble_eq_true rfl) rfl ?_; intro w15 hb7 hk7)
                 have HVz := Lib.hid (HVz.out.keep (X' := fun b => b < gz) hk7 (fun b _ hb e => by omega) (fun _ _ h => h))
                 have Kr := Lib.hid (show Keeps Nob w12 w15 from Kr.out.trans hk7 (fun i hi e => by have := Hgz2.out; omega))
                 have Hbz := Lib.hid hb7
                 clear hb7 hk7
                 (try simp only [PU]))
            )
            have Kx := Lib.hid (Keeps.refl Nob w15).drew
            (try clear a4 ak z0 z1 z2 z3 z4 z5 b5 v0 v1 v2 v3 v4 v5)
            have a4 := (blk_cell ((Kr.out.trans Kx.out (fun _ _ h => h)).blk Hb7.out id) 4).trans rfl
            have ak := (Kr.out.trans Kx.out (fun _ _ h => h)).cell Hco.out id
            have b5 := (blk_cell ((Kr.out.trans Kx.out (fun _ _ h => h)).blk Hb3.out id) 5).trans rfl
            obtain ⟨⟨v0, v1, v2⟩, v3, v4, v5⟩ := H6.out.keep ((HK.out.trans Kr.out (fun _ _ h => h)).trans Kx.out (fun _ _ h => h)) id
            have Hbz2 := Lib.hid (Kx.out.blk Hbz.out id)
            have z0 := (blk_cell Hbz2.out 0).trans rfl
            have z1 := (blk_cell Hbz2.out 1).trans rfl
            have z2 := (blk_cell Hbz2.out 2).trans rfl
            have z3 := (blk_cell Hbz2.out 3).trans rfl
            have z4 := (blk_cell Hbz2.out 4).trans rfl
            have z5 := (blk_cell Hbz2.out 5).trans rfl
            by_cases hkey2 : kk = key
            · have hkb : (kk.toList == key.toList) = true := by rw [hkey2]; exact beq_self_eq_true _
              clear Hgz Hzv
              refine wp_region_perm [(0, true), (1, true), (2, true), (3, true), (4, true), (5, true), (6, true), (7, true), (8, true), (9, true), (10, true), (11, true), (12, true), (13, true), (14, true), (15, true), (16, true), (17, true), (18, true), (19, true), (20, true), (21, true), (22, false), (23, true), (24, true), (25, true)] (fun w' => w'.cell? ⟨g7, 4, none⟩ = some (.slice (some ⟨bo, oo, none⟩) okl oc) ∧ w'.cell? ⟨bo, oo + i, none⟩ = some (.string kk) ∧ w'.cell? ⟨gz, 0, none⟩ = some (.int .i64 zk) ∧ w'.cell? ⟨gz, 1, none⟩ = some (.bool zb) ∧ w'.cell? ⟨gz, 2, none⟩ = some (.int .i64 zn) ∧ w'.cell? ⟨gz, 3, none⟩ = some (.string zt) ∧ w'.cell? ⟨gz, 4, none⟩ = some (.slice zA zkl zc) ∧ w'.cell? ⟨gz, 5, none⟩ = some (.slice zB zvl zd) ∧ w'.cell? ⟨g3, 5, none⟩ = some (.slice (some ⟨bv, ov, none⟩) nv vc) ∧ w'.cell? ⟨bv, ov + i * 6, none⟩ = some (.int .i64 q0) ∧ w'.cell? ⟨bv, ov + i * 6 + 1, none⟩ = some (.bool q1) ∧ w'.cell? ⟨bv, ov + i * 6 + 2, none⟩ = some (.int .i64 q2) ∧ w'.cell? ⟨bv, ov + i * 6 + 3, none⟩ = some (.string q3) ∧ w'.cell? ⟨bv, ov + i * 6 + 4, none⟩ = some (.slice qA qn qc) ∧ w'.cell? ⟨bv, ov + i * 6 + 5, none⟩ = some (.slice qB qm qd)) rfl (by kernel_rfl) (by kernel_rfl) (by decide) (fun c a d v w h => by cases d <;> exact h) ⟨a4, ak, z0, z1, z2, z3, z4, z5, b5, v0, v1, v2, v3, v4, v5⟩ ?_
              refine perm_q (v := ?v1_0) (some 83) rfl rfl rfl ?q1_0 ?h1_0; (case q1_0 => (intro w' hS; obtain ⟨aa, ab, ac, ad, ae, af, ag, ah, ai, aj, ak, al, am, an, ao⟩ := hS; first | (go_simp; done) | (go_simp; rfl))); (try simp only [PU])
              refine perm_q (v := ?v1_1) (some 84) rfl rfl rfl ?q1_1 ?h1_1; (case q1_1 => (intro w' hS; obtain ⟨aa, ab, ac, ad, ae, af, ag, ah, ai, aj, ak, al, am, an, ao⟩ := hS; first | (go_simp; done) | (go_simp; rfl))); (try simp only [PU])
              refine perm_q (v := ?v1_2) (some 85) rfl rfl rfl ?q1_2 ?h1_2; (case q1_2 => (intro w' hS; obtain ⟨aa, ab, ac, ad, ae, af, ag, ah, ai, aj, ak, al, am, an, ao⟩ := hS; first | (go_simp; done) | (go_simp; rfl))); (try simp only [PU])
              refine perm_q (v := ?v1_3) (some 86) rfl rfl rfl ?q1_3 ?h1_3; (case q1_3 => (intro w' hS; obtain ⟨aa, ab, ac, ad, ae, af, ag, ah, ai, aj, ak, al, am, an, ao⟩ := hS; first | (go_simp; done) | (go_simp; rfl))); (try simp only [PU])
              refine perm_q (v := ?v1_4) (some 87) rfl rfl rfl ?q1_4 ?h1_4; (case q1_4 => (intro w' hS; obtain ⟨aa, ab, ac, ad, ae, af, ag, ah, ai, aj, ak, al, am, an, ao⟩ := hS; first | (go_simp; done) | (go_simp; rfl))); (try simp only [PU])
              refine perm_q (v := ?v1_5) (some 88) rfl rfl rfl ?q1_5 ?h1_5; (case q1_5 => (intro w' hS; obtain ⟨aa, ab, ac, ad, ae, af, ag, ah, ai, aj, ak, al, am, an, ao⟩ := hS; first | (go_simp; done) | (go_simp; rfl))); (try simp only [PU])
              refine perm_q (v := ?v1_6) (some 89) rfl rfl rfl ?q1_6 ?h1_6; (case q1_6 => (intro w' hS; obtain ⟨aa, ab, ac, ad, ae, af, ag, ah, ai, aj, ak, al, am, an, ao⟩ := hS; first | (go_simp; done) | (go_simp; rfl))); (try simp only [PU])
              refine perm_q (v := ?v1_7) (some 90) rfl rfl rfl ?q1_7 ?h1_7; (case q1_7 => (intro w' hS; obtain ⟨aa, ab, ac, ad, ae, af, ag, ah, ai, aj, ak, al, am, an, ao⟩ := hS; first | (go_simp; done) | (go_simp; rfl))); (try simp only [PU])
              refine perm_q (v := ?v1_8) (some 91) rfl rfl rfl ?q1_8 ?h1_8; (case q1_8 => (intro w' hS; obtain ⟨aa, ab, ac, ad, ae, af, ag, ah, ai, aj, ak, al, am, an, ao⟩ := hS; first | (go_simp; done) | (go_simp; rfl))); (try simp only [PU])
              refine perm_q (v := ?v1_9) (some 92) rfl rfl rfl ?q1_9 ?h1_9; (case q1_9 => (intro w' hS; obtain ⟨aa, ab, ac, ad, ae, af, ag, ah, ai, aj, ak, al, am, an, ao⟩ := hS; first | (go_simp; done) | (go_simp; rfl))); (try simp only [PU])
              refine perm_q (v := ?v1_10) (some 93) rfl rfl rfl ?q1_10 ?h1_10; (case q1_10 => (intro w' hS; obtain ⟨aa, ab, ac, ad, ae, af, ag, ah, ai, aj, ak, al, am, an, ao⟩ := hS; first | (go_simp; done) | (go_simp; rfl))); (try simp only [PU])
              refine perm_q (v := ?v1_11) (some 94) rfl rfl rfl ?q1_11 ?h1_11; (case q1_11 => (intro w' hS; obtain ⟨aa, ab, ac, ad, ae, af, ag, ah, ai, aj, ak, al, am, an, ao⟩ := hS; first | (go_simp; done) | (go_simp; rfl))); (try simp only [PU])
              refine perm_q (v := ?v1_12) (some 95) rfl rfl rfl ?q1_12 ?h1_12; (case q1_12 => (intro w' hS; obtain ⟨aa, ab, ac, ad, ae, af, ag, ah, ai, aj, ak, al, am, an, ao⟩ := hS; first | (go_simp; done) | (go_simp; rfl))); (try simp only [PU])
              refine perm_q (v := ?v1_13) (some 96) rfl rfl rfl ?q1_13 ?h1_13; (case q1_13 => (intro w' hS; obtain ⟨aa, ab, ac, ad, ae, af, ag, ah, ai, aj, ak, al, am, an, ao⟩ := hS; first | (go_simp; done) | (go_simp; rfl))); (try simp only [PU])
              refine perm_q (v := ?v1_14) (some 97) rfl rfl rfl ?q1_14 ?h1_14; (case q1_14 => (intro w' hS; obtain ⟨aa, ab, ac, ad, ae, af, ag, ah, ai, aj, ak, al, am, an, ao⟩ := hS; first | (go_simp; done) | (go_simp; rfl))); (try simp only [PU])
              refine perm_q (v := ?v1_15) (some 98) rfl rfl rfl ?q1_15 ?h1_15; (case q1_15 => (intro w' hS; obtain ⟨aa, ab, ac, ad, ae, af, ag, ah, ai, aj, ak, al, am, an, ao⟩ := hS; first | (go_simp; done) | (go_simp; rfl))); (try simp only [PU])
              refine perm_skip (some 99) rfl rfl rfl ?_; (try simp only [PU])
              refine perm_skip (some 100) rfl rfl rfl ?_; (try simp only [PU])
              refine perm_skip (some 101) rfl rfl rfl ?_; (try simp only [PU])
              refine perm_skip (some 102) rfl rfl rfl ?_; (try simp only [PU])
              refine perm_skip (some 103) rfl rfl rfl ?_; (try simp only [PU])
              refine perm_skip (some 104) rfl rfl rfl ?_; (try simp only [PU])
              refine perm_e rfl ?_
              go_wp2_with fail
              (try simp only [PU])
              refine ⟨⟨a4, ak, z0, z1, z2, z3, z4, z5, b5, v0, v1, v2, v3, v4, v5⟩, ?_⟩
              refine perm_skip (some 106) rfl rfl rfl ?_; (try simp only [PU])
              refine perm_q (v := ?v1_24) (some 107) rfl rfl rfl ?q1_24 ?h1_24; (case q1_24 => (intro w' hS; obtain ⟨aa, ab, ac, ad, ae, af, ag, ah, ai, aj, ak, al, am, an, ao⟩ := hS; first | (go_simp; done) | (go_simp; rfl))); (try simp only [PU])
              refine perm_q (v := ?v1_25) (some 108) rfl rfl rfl ?q1_25 ?h1_25; (case q1_25 => (intro w' hS; obtain ⟨aa, ab, ac, ad, ae, af, ag, ah, ai, aj, ak, al, am, an, ao⟩ := hS; first | (go_simp; done) | (go_simp; rfl))); (try simp only [PU])
              refine perm_nil ?_
              clear a4 ak z0 z1 z2 z3 z4 z5 b5 v0 v1 v2 v3 v4 v5
              go_wp2
              go_roundg (kl - i - 1)
              case measure => omega
              case rel => exact ⟨i + 1, by rfl, by omega, Lib.hid (Kr.out.trans Kx.out (fun _ _ h => h))⟩
            · have hkb : (kk.toList == key.toList) = false := by simpa using str_ne hkey2
              have Hsz2 := Lib.hid (show sameJ z (vs.getD i default) = true from (sameJ_iff _ _).2 (Hzv.out hkey2))
              have Hszz := Lib.hid (show sizeJ z ≤ 1000000000000 by rw [Hzv.out hkey2]; exact Hvz.out)
              clear Hgz Hzv
              refine wp_region_perm [(0, true), (1, true), (2, true), (3, true), (4, true), (5, true), (6, true), (7, true), (8, true), (9, true), (10, true), (11, true), (12, true), (13, true), (14, true), (15, true), (16, true), (17, true), (18, true), (19, true), (20, true), (21, true), (22, false), (23, true), (24, true), (25, true)] (fun w' => w'.cell? ⟨g7, 4, none⟩ = some (.slice (some ⟨bo, oo, none⟩) okl oc) ∧ w'.cell? ⟨bo, oo + i, none⟩ = some (.string kk) ∧ w'.cell? ⟨gz, 0, none⟩ = some (.int .i64 zk) ∧ w'.cell? ⟨gz, 1, none⟩ = some (.bool zb) ∧ w'.cell? ⟨gz, 2, none⟩ = some (.int .i64 zn) ∧ w'.cell? ⟨gz, 3, none⟩ = some (.string zt) ∧ w'.cell? ⟨gz, 4, none⟩ = some (.slice zA zkl zc) ∧ w'.cell? ⟨gz, 5, none⟩ = some (.slice zB zvl zd) ∧ w'.cell? ⟨g3, 5, none⟩ = some (.slice (some ⟨bv, ov, none⟩) nv vc) ∧ w'.cell? ⟨bv, ov + i * 6, none⟩ = some (.int .i64 q0) ∧ w'.cell? ⟨bv, ov + i * 6 + 1, none⟩ = some (.bool q1) ∧ w'.cell? ⟨bv, ov + i * 6 + 2, none⟩ = some (.int .i64 q2) ∧ w'.cell? ⟨bv, ov + i * 6 + 3, none⟩ = some (.string q3) ∧ w'.cell? ⟨bv, ov + i * 6 + 4, none⟩ = some (.slice qA qn qc) ∧ w'.cell? ⟨bv, ov + i * 6 + 5, none⟩ = some (.slice qB qm qd)) rfl (by kernel_rfl) (by kernel_rfl) (by decide) (fun c a d v w h => by cases d <;> exact h) ⟨a4, ak, z0, z1, z2, z3, z4, z5, b5, v0, v1, v2, v3, v4, v5⟩ ?_
              refine perm_q (v := ?v2_0) (some 83) rfl rfl rfl ?q2_0 ?h2_0; (case q2_0 => (intro w' hS; obtain ⟨aa, ab, ac, ad, ae, af, ag, ah, ai, aj, ak, al, am, an, ao⟩ := hS; first | (go_simp; done) | (go_simp; rfl))); (try simp only [PU])
              refine perm_q (v := ?v2_1) (some 84) rfl rfl rfl ?q2_1 ?h2_1; (case q2_1 => (intro w' hS; obtain ⟨aa, ab, ac, ad, ae, af, ag, ah, ai, aj, ak, al, am, an, ao⟩ := hS; first | (go_simp; done) | (go_simp; rfl))); (try simp only [PU])
              refine perm_q (v := ?v2_2) (some 85) rfl rfl rfl ?q2_2 ?h2_2; (case q2_2 => (intro w' hS; obtain ⟨aa, ab, ac, ad, ae, af, ag, ah, ai, aj, ak, al, am, an, ao⟩ := hS; first | (go_simp; done) | (go_simp; rfl))); (try simp only [PU])
              refine perm_q (v := ?v2_3) (some 86) rfl rfl rfl ?q2_3 ?h2_3; (case q2_3 => (intro w' hS; obtain ⟨aa, ab, ac, ad, ae, af, ag, ah, ai, aj, ak, al, am, an, ao⟩ := hS; first | (go_simp; done) | (go_simp; rfl))); (try simp only [PU])
              refine perm_q (v := ?v2_4) (some 87) rfl rfl rfl ?q2_4 ?h2_4; (case q2_4 => (intro w' hS; obtain ⟨aa, ab, ac, ad, ae, af, ag, ah, ai, aj, ak, al, am, an, ao⟩ := hS; first | (go_simp; done) | (go_simp; rfl))); (try simp only [PU])
              refine perm_q (v := ?v2_5) (some 88) rfl rfl rfl ?q2_5 ?h2_5; (case q2_5 => (intro w' hS; obtain ⟨aa, ab, ac, ad, ae, af, ag, ah, ai, aj, ak, al, am, an, ao⟩ := hS; first | (go_simp; done) | (go_simp; rfl))); (try simp only [PU])
              refine perm_q (v := ?v2_6) (some 89) rfl rfl rfl ?q2_6 ?h2_6; (case q2_6 => (intro w' hS; obtain ⟨aa, ab, ac, ad, ae, af, ag, ah, ai, aj, ak, al, am, an, ao⟩ := hS; first | (go_simp; done) | (go_simp; rfl))); (try simp only [PU])
              refine perm_q (v := ?v2_7) (some 90) rfl rfl rfl ?q2_7 ?h2_7; (case q2_7 => (intro w' hS; obtain ⟨aa, ab, ac, ad, ae, af, ag, ah, ai, aj, ak, al, am, an, ao⟩ := hS; first | (go_simp; done) | (go_simp; rfl))); (try simp only [PU])
              refine perm_q (v := ?v2_8) (some 91) rfl rfl rfl ?q2_8 ?h2_8; (case q2_8 => (intro w' hS; obtain ⟨aa, ab, ac, ad, ae, af, ag, ah, ai, aj, ak, al, am, an, ao⟩ := hS; first | (go_simp; done) | (go_simp; rfl))); (try simp only [PU])
              refine perm_q (v := ?v2_9) (some 92) rfl rfl rfl ?q2_9 ?h2_9; (case q2_9 => (intro w' hS; obtain ⟨aa, ab, ac, ad, ae, af, ag, ah, ai, aj, ak, al, am, an, ao⟩ := hS; first | (go_simp; done) | (go_simp; rfl))); (try simp only [PU])
              refine perm_q (v := ?v2_10) (some 93) rfl rfl rfl ?q2_10 ?h2_10; (case q2_10 => (intro w' hS; obtain ⟨aa, ab, ac, ad, ae, af, ag, ah, ai, aj, ak, al, am, an, ao⟩ := hS; first | (go_simp; done) | (go_simp; rfl))); (try simp only [PU])
              refine perm_q (v := ?v2_11) (some 94) rfl rfl rfl ?q2_11 ?h2_11; (case q2_11 => (intro w' hS; obtain ⟨aa, ab, ac, ad, ae, af, ag, ah, ai, aj, ak, al, am, an, ao⟩ := hS; first | (go_simp; done) | (go_simp; rfl))); (try simp only [PU])
              refine perm_q (v := ?v2_12) (some 95) rfl rfl rfl ?q2_12 ?h2_12; (case q2_12 => (intro w' hS; obtain ⟨aa, ab, ac, ad, ae, af, ag, ah, ai, aj, ak, al, am, an, ao⟩ := hS; first | (go_simp; done) | (go_simp; rfl))); (try simp only [PU])
              refine perm_q (v := ?v2_13) (some 96) rfl rfl rfl ?q2_13 ?h2_13; (case q2_13 => (intro w' hS; obtain ⟨aa, ab, ac, ad, ae, af, ag, ah, ai, aj, ak, al, am, an, ao⟩ := hS; first | (go_simp; done) | (go_simp; rfl))); (try simp only [PU])
              refine perm_q (v := ?v2_14) (some 97) rfl rfl rfl ?q2_14 ?h2_14; (case q2_14 => (intro w' hS; obtain ⟨aa, ab, ac, ad, ae, af, ag, ah, ai, aj, ak, al, am, an, ao⟩ := hS; first | (go_simp; done) | (go_simp; rfl))); (try simp only [PU])
              refine perm_q (v := ?v2_15) (some 98) rfl rfl rfl ?q2_15 ?h2_15; (case q2_15 => (intro w' hS; obtain ⟨aa, ab, ac, ad, ae, af, ag, ah, ai, aj, ak, al, am, an, ao⟩ := hS; first | (go_simp; done) | (go_simp; rfl))); (try simp only [PU])
              refine perm_q (v := ?v2_16) (some 99) rfl rfl rfl ?q2_16 ?h2_16; (case q2_16 => (intro w' hS; obtain ⟨aa, ab, ac, ad, ae, af, ag, ah, ai, aj, ak, al, am, an, ao⟩ := hS; first | (go_simp; done) | (go_simp; rfl))); (try simp only [PU])
              refine perm_q (v := ?v2_17) (some 100) rfl rfl rfl ?q2_17 ?h2_17; (case q2_17 => (intro w' hS; obtain ⟨aa, ab, ac, ad, ae, af, ag, ah, ai, aj, ak, al, am, an, ao⟩ := hS; first | (go_simp; done) | (go_simp; rfl))); (try simp only [PU])
              refine perm_q (v := ?v2_18) (some 101) rfl rfl rfl ?q2_18 ?h2_18; (case q2_18 => (intro w' hS; obtain ⟨aa, ab, ac, ad, ae, af, ag, ah, ai, aj, ak, al, am, an, ao⟩ := hS; first | (go_simp; done) | (go_simp; rfl))); (try simp only [PU])
              refine perm_q (v := ?v2_19) (some 102) rfl rfl rfl ?q2_19 ?h2_19; (case q2_19 => (intro w' hS; obtain ⟨aa, ab, ac, ad, ae, af, ag, ah, ai, aj, ak, al, am, an, ao⟩ := hS; first | (go_simp; done) | (go_simp; rfl))); (try simp only [PU])
              refine perm_q (v := ?v2_20) (some 103) rfl rfl rfl ?q2_20 ?h2_20; (case q2_20 => (intro w' hS; obtain ⟨aa, ab, ac, ad, ae, af, ag, ah, ai, aj, ak, al, am, an, ao⟩ := hS; first | (go_simp; done) | (go_simp; rfl))); (try simp only [PU])
              refine perm_q (v := ?v2_21) (some 104) rfl rfl rfl ?q2_21 ?h2_21; (case q2_21 => (intro w' hS; obtain ⟨aa, ab, ac, ad, ae, af, ag, ah, ai, aj, ak, al, am, an, ao⟩ := hS; first | (go_simp; done) | (go_simp; rfl))); (try simp only [PU])
              refine perm_e rfl ?_
              go_wp2_with (go_at_call 23; go_must (refine (same23 (HVz.out.after Kx.out) _ _ (Hjx.out.after ((HK.out.trans Kr.out (fun _ _ h => h)).trans Kx.out (fun _ _ h => h))) _ (Keeps.refl Nob _) Hszz.out Hvz.out).mono ?_; rintro e w16 ⟨rfl, hk16⟩; rw [Hsz2.out]))
              have Kx := Lib.hid (Kx.out.trans hk16 (fun _ _ h => h))
              clear hk16
              (try simp only [PU])
              (try clear a4 ak z0 z1 z2 z3 z4 z5 b5 v0 v1 v2 v3 v4 v5)
              have a4 := (blk_cell ((Kr.out.trans Kx.out (fun _ _ h => h)).blk Hb7.out id) 4).trans rfl
              have ak := (Kr.out.trans Kx.out (fun _ _ h => h)).cell Hco.out id
              have b5 := (blk_cell ((Kr.out.trans Kx.out (fun _ _ h => h)).blk Hb3.out id) 5).trans rfl
              obtain ⟨⟨v0, v1, v2⟩, v3, v4, v5⟩ := H6.out.keep ((HK.out.trans Kr.out (fun _ _ h => h)).trans Kx.out (fun _ _ h => h)) id
              have Hbz2 := Lib.hid (Kx.out.blk Hbz.out id)
              have z0 := (blk_cell Hbz2.out 0).trans rfl
              have z1 := (blk_cell Hbz2.out 1).trans rfl
              have z2 := (blk_cell Hbz2.out 2).trans rfl
              have z3 := (blk_cell Hbz2.out 3).trans rfl
              have z4 := (blk_cell Hbz2.out 4).trans rfl
              have z5 := (blk_cell Hbz2.out 5).trans rfl
              refine ⟨⟨a4, ak, z0, z1, z2, z3, z4, z5, b5, v0, v1, v2, v3, v4, v5⟩, ?_⟩
              refine perm_q (v := ?v2_23) (some 106) rfl rfl rfl ?q2_23 ?h2_23; (case q2_23 => (intro w' hS; obtain ⟨aa, ab, ac, ad, ae, af, ag, ah, ai, aj, ak, al, am, an, ao⟩ := hS; first | (go_simp; done) | (go_simp; rfl))); (try simp only [PU])
              refine perm_q (v := ?v2_24) (some 107) rfl rfl rfl ?q2_24 ?h2_24; (case q2_24 => (intro w' hS; obtain ⟨aa, ab, ac, ad, ae, af, ag, ah, ai, aj, ak, al, am, an, ao⟩ := hS; first | (go_simp; done) | (go_simp; rfl))); (try simp only [PU])
              refine perm_q (v := ?v2_25) (some 108) rfl rfl rfl ?q2_25 ?h2_25; (case q2_25 => (intro w' hS; obtain ⟨aa, ab, ac, ad, ae, af, ag, ah, ai, aj, ak, al, am, an, ao⟩ := hS; first | (go_simp; done) | (go_simp; rfl))); (try simp only [PU])
              refine perm_nil ?_
              clear a4 ak z0 z1 z2 z3 z4 z5 b5 v0 v1 v2 v3 v4 v5
              go_wp2
              go_roundg (kl - i - 1)
              case measure => omega
              case rel => exact ⟨i + 1, by rfl, by omega, Lib.hid (Kr.out.trans Kx.out (fun _ _ h => h))⟩
          · have hi' : i = kl := by omega
            subst hi'
            have HK := Lib.hid (HK.out.trans Kr.out (fun _ _ h => h))
            go_wp2_with (first
              | (go_at_call 13; go_must (refine (alive13 (Tab.after HT.out HK.out)).mono ?_; rintro e w99 ⟨rfl, hk99⟩); have HKz := Lib.hid (HK.out.trans hk99 (fun _ _ h => h)); clear hk99; (try simp only [PU]))
            )
            go_ret
            exact ⟨rfl, HKz.out⟩
      · have hzb : (zp == 0) = false := beq_eq_false_iff_ne.2 hz0
        go_wp2_with (first
          | (go_at_call 13; go_must (refine (alive13 (Tab.after HT.out HK.out)).mono ?_; rintro e w99 ⟨rfl, hk99⟩); have HKz := Lib.hid (HK.out.trans hk99 (fun _ _ h => h)); clear hk99; (try simp only [PU]))
        )
        go_ret
        exact ⟨rfl, HKz.out⟩
    · have hki : ¬ (key.size : Int) ≤ 3000 := by omega
      clear hkey
      go_enter Tryd.func11, Tryd.ntmps11
      go_upto_region 1 with (first
        | ((with_reducible refine at_dst (N := 3) rfl ?_); go_must (refine ev_box (cs := #[.int .i64 jk, .bool jb, .int .i64 jn, .string jt, .slice kA kl kc, .slice vA nv vc]) rfl rfl rfl ?_; intro g3 w1 hg1 hl1 hb1 hk1)
           have Hb3 := Lib.hid hb1
           have Hg3 := Lib.hid (And.intro hg1 hl1)
           have HVj := Lib.hid (HVj.out.after hk1)
           have HVx := Lib.hid (HVx.out.after hk1)
           have HK := Lib.hid hk1
           clear hg1 hl1 hb1 hk1
           (try simp only [PU]))
        | ((with_reducible refine at_dst (N := 5) rfl ?_); go_must (refine ev_box (cs := #[.int .i64 xk, .bool xb, .int .i64 xn, .string xt, .slice xA xkl xkc, .slice xB xvl xvc]) rfl rfl rfl ?_; intro g5 w2 hg2 hl2 hb2 hk2)
           have Hgs := Lib.hid (show w.heap.size ≤ g3 ∧ g3 < g5 ∧ g5 < w2.heap.size from ⟨Hg3.out.1, Nat.lt_of_lt_of_le Hg3.out.2 hg2, hl2⟩)
           have HVj := Lib.hid (HVj.out.after hk2)
           have HVx := Lib.hid (HVx.out.after hk2)
           (try have Hb3 := Lib.hid (Keeps.blk hk2 Hb3.out id))
           (try have Hb5 := Lib.hid (Keeps.blk hk2 Hb5.out id))
           (try have Hb7 := Lib.hid (Keeps.blk hk2 Hb7.out id))
           (try have Hb9 := Lib.hid (Keeps.blk hk2 Hb9.out id))
           (try have HVo := Lib.hid (JX.after HVo.out hk2))
           (try have HVy := Lib.hid (JX.after HVy.out hk2))
           have HK := Lib.hid (HK.out.trans hk2 (fun _ _ h => h))
           have Hb5 := Lib.hid hb2
           clear hg2 hl2 hb2 hk2 Hg3
           (try simp only [PU]))
      )
      have s0 := (blk_cell Hb3.out 0).trans rfl
      have s1 := (blk_cell Hb3.out 1).trans rfl
      have s2 := (blk_cell Hb3.out 2).trans rfl
      have s3 := (blk_cell Hb3.out 3).trans rfl
      have s4 := (blk_cell Hb3.out 4).trans rfl
      have s5 := (blk_cell Hb3.out 5).trans rfl
      have r0 := (blk_cell Hb5.out 0).trans rfl
      have r1 := (blk_cell Hb5.out 1).trans rfl
      have r2 := (blk_cell Hb5.out 2).trans rfl
      have r3 := (blk_cell Hb5.out 3).trans rfl
      have r4 := (blk_cell Hb5.out 4).trans rfl
      have r5 := (blk_cell Hb5.out 5).trans rfl
      go_upto_if 24 with (first
        | ((with_reducible refine at_dst (N := 17) rfl ?_); go_must (refine ev_slice (cs := #[.int .i64 jk, .bool jb, .int .i64 jn, .string jt, .slice kA kl kc, .slice vA nv vc, .int .i64 xk, .bool xb, .int .i64 xn, .string xt, .slice xA xkl xkc, .slice xB xvl xvc]) (t := 25) (n := 2) (c := 2) rfl (by first | (go_simp; done) | (go_simp; rfl)) ?_; intro g17 w3 hg3 hl3 hb3 hk3)
           have Hbs := Lib.hid hb3
           have HVj := Lib.hid (HVj.out.after hk3)
           have HVx := Lib.hid (HVx.out.after hk3)
           (try have Hb3 := Lib.hid (Keeps.blk hk3 Hb3.out id))
           (try have Hb5 := Lib.hid (Keeps.blk hk3 Hb5.out id))
           (try have Hb7 := Lib.hid (Keeps.blk hk3 Hb7.out id))
           (try have Hb9 := Lib.hid (Keeps.blk hk3 Hb9.out id))
           (try have HVo := Lib.hid (JX.after HVo.out hk3))
           (try have HVy := Lib.hid (JX.after HVy.out hk3))
           have HK := Lib.hid (HK.out.trans hk3 (fun _ _ h => h))
           clear hg3 hl3 hb3 hk3 s0 s1 s2 s3 s4 s5 r0 r1 r2 r3 r4 r5
           (try simp only [PU]))
        | (go_at_call 12; go_must (refine (H12.out _ _ Hbs.out HVj.out HVx.out).mono ?_; rintro e w4 ⟨rfl, hk4⟩; rw [Hsm.out])
           have HVj := Lib.hid (HVj.out.after hk4)
           have HVx := Lib.hid (HVx.out.after hk4)
           (try have Hb3 := Lib.hid (Keeps.blk hk4 Hb3.out id))
           (try have Hb5 := Lib.hid (Keeps.blk hk4 Hb5.out id))
           (try have Hb7 := Lib.hid (Keeps.blk hk4 Hb7.out id))
           (try have Hb9 := Lib.hid (Keeps.blk hk4 Hb9.out id))
           (try have HVo := Lib.hid (JX.after HVo.out hk4))
           (try have HVy := Lib.hid (JX.after HVy.out hk4))
           have HK := Lib.hid (HK.out.trans hk4 (fun _ _ h => h))
           clear hk4 Hbs
           (try simp only [PU]))
      )
      go_wp2_with (first
        | (go_at_call 13; go_must (refine (alive13 (Tab.after HT.out HK.out)).mono ?_; rintro e w99 ⟨rfl, hk99⟩); have HKz := Lib.hid (HK.out.trans hk99 (fun _ _ h => h)); clear hk99; (try simp only [PU]))
      )
      go_ret
      exact ⟨rfl, HKz.out⟩
  · have Hsm := Lib.hid (Bool.eq_false_iff.2 hsm)
    clear hsm
    go_enter Tryd.func11, Tryd.ntmps11
    go_upto_region 1 with (first
      | ((with_reducible refine at_dst (N := 3) rfl ?_); go_must (refine ev_box (cs := #[.int .i64 jk, .bool jb, .int .i64 jn, .string jt, .slice kA kl kc, .slice vA nv vc]) rfl rfl rfl ?_; intro g3 w1 hg1 hl1 hb1 hk1)
         have Hb3 := Lib.hid hb1
         have Hg3 := Lib.hid (And.intro hg1 hl1)
         have HVj := Lib.hid (HVj.out.after hk1)
         have HVx := Lib.hid (HVx.out.after hk1)
         have HK := Lib.hid hk1
         clear hg1 hl1 hb1 hk1
         (try simp only [PU]))
      | ((with_reducible refine at_dst (N := 5) rfl ?_); go_must (refine ev_box (cs := #[.int .i64 xk, .bool xb, .int .i64 xn, .string xt, .slice xA xkl xkc, .slice xB xvl xvc]) rfl rfl rfl ?_; intro g5 w2 hg2 hl2 hb2 hk2)
         have Hgs := Lib.hid (show w.heap.size ≤ g3 ∧ g3 < g5 ∧ g5 < w2.heap.size from ⟨Hg3.out.1, Nat.lt_of_lt_of_le Hg3.out.2 hg2, hl2⟩)
         have HVj := Lib.hid (HVj.out.after hk2)
         have HVx := Lib.hid (HVx.out.after hk2)
         (try have Hb3 := Lib.hid (Keeps.blk hk2 Hb3.out id))
         (try have Hb5 := Lib.hid (Keeps.blk hk2 Hb5.out id))
         (try have Hb7 := Lib.hid (Keeps.blk hk2 Hb7.out id))
         (try have Hb9 := Lib.hid (Keeps.blk hk2 Hb9.out id))
         (try have HVo := Lib.hid (JX.after HVo.out hk2))
         (try have HVy := Lib.hid (JX.after HVy.out hk2))
         have HK := Lib.hid (HK.out.trans hk2 (fun _ _ h => h))
         have Hb5 := Lib.hid hb2
         clear hg2 hl2 hb2 hk2 Hg3
         (try simp only [PU]))
    )
    have s0 := (blk_cell Hb3.out 0).trans rfl
    have s1 := (blk_cell Hb3.out 1).trans rfl
    have s2 := (blk_cell Hb3.out 2).trans rfl
    have s3 := (blk_cell Hb3.out 3).trans rfl
    have s4 := (blk_cell Hb3.out 4).trans rfl
    have s5 := (blk_cell Hb3.out 5).trans rfl
    have r0 := (blk_cell Hb5.out 0).trans rfl
    have r1 := (blk_cell Hb5.out 1).trans rfl
    have r2 := (blk_cell Hb5.out 2).trans rfl
    have r3 := (blk_cell Hb5.out 3).trans rfl
    have r4 := (blk_cell Hb5.out 4).trans rfl
    have r5 := (blk_cell Hb5.out 5).trans rfl
    go_upto_if 24 with (first
      | ((with_reducible refine at_dst (N := 17) rfl ?_); go_must (refine ev_slice (cs := #[.int .i64 jk, .bool jb, .int .i64 jn, .string jt, .slice kA kl kc, .slice vA nv vc, .int .i64 xk, .bool xb, .int .i64 xn, .string xt, .slice xA xkl xkc, .slice xB xvl xvc]) (t := 25) (n := 2) (c := 2) rfl (by first | (go_simp; done) | (go_simp; rfl)) ?_; intro g17 w3 hg3 hl3 hb3 hk3)
         have Hbs := Lib.hid hb3
         have HVj := Lib.hid (HVj.out.after hk3)
         have HVx := Lib.hid (HVx.out.after hk3)
         (try have Hb3 := Lib.hid (Keeps.blk hk3 Hb3.out id))
         (try have Hb5 := Lib.hid (Keeps.blk hk3 Hb5.out id))
         (try have Hb7 := Lib.hid (Keeps.blk hk3 Hb7.out id))
         (try have Hb9 := Lib.hid (Keeps.blk hk3 Hb9.out id))
         (try have HVo := Lib.hid (JX.after HVo.out hk3))
         (try have HVy := Lib.hid (JX.after HVy.out hk3))
         have HK := Lib.hid (HK.out.trans hk3 (fun _ _ h => h))
         clear hg3 hl3 hb3 hk3 s0 s1 s2 s3 s4 s5 r0 r1 r2 r3 r4 r5
         (try simp only [PU]))
      | (go_at_call 12; go_must (refine (H12.out _ _ Hbs.out HVj.out HVx.out).mono ?_; rintro e w4 ⟨rfl, hk4⟩; rw [Hsm.out])
         have HVj := Lib.hid (HVj.out.after hk4)
         have HVx := Lib.hid (HVx.out.after hk4)
         (try have Hb3 := Lib.hid (Keeps.blk hk4 Hb3.out id))
         (try have Hb5 := Lib.hid (Keeps.blk hk4 Hb5.out id))
         (try have Hb7 := Lib.hid (Keeps.blk hk4 Hb7.out id))
         (try have Hb9 := Lib.hid (Keeps.blk hk4 Hb9.out id))
         (try have HVo := Lib.hid (JX.after HVo.out hk4))
         (try have HVy := Lib.hid (JX.after HVy.out hk4))
         have HK := Lib.hid (HK.out.trans hk4 (fun _ _ h => h))
         clear hk4 Hbs
         (try simp only [PU]))
    )
    go_wp2_with (first
      | (go_at_call 13; go_must (refine (alive13 (Tab.after HT.out HK.out)).mono ?_; rintro e w99 ⟨rfl, hk99⟩); have HKz := Lib.hid (HK.out.trans hk99 (fun _ _ h => h)); clear hk99; (try simp only [PU]))
    )
    go_ret
    exact ⟨rfl, HKz.out⟩
end Go.Proofs.WV

/-
  How the statements' values lie in memory, out of their readings; how large they are. No condition.
-/
namespace Go.Proofs.WV
open Go.RowKit Go.Proofs.KL Go.Proofs.WM Go.ChangeShapes Go.Proofs.YtcmmnbipaemgiaaDoor
set_option maxRecDepth 100000
set_option linter.unusedVariables false

theorem spot_none {w : World} {a : Addr} {v : Value} (h : w.cell? a = some v) : ∃ b o, a = ⟨b, o, none⟩ := by
  obtain ⟨b, o, s⟩ := a
  cases s with
  | none => exact ⟨b, o, rfl⟩
  | some x => unfold World.cell? at h; simp only [Option.isSome_some, if_true] at h; split at h <;> cases h
theorem add_at (b o i : Nat) : (⟨b, o, none⟩ : Addr).add i = ⟨b, o + i, none⟩ := by
  unfold Addr.add
  split
  · rename_i h; subst h; rfl
  · rfl
theorem one_of {l : List Value} {i : Nat} {v : Value} (h : l[i]? = some v) : (l.drop i).take 1 = [v] := by
  obtain ⟨hi, hv⟩ := List.getElem?_eq_some_iff.1 h
  rw [List.drop_eq_getElem_cons hi, hv]; rfl
theorem list_of {α : Type} [Inhabited α] {n : Nat} {p : Nat → α → Prop} (h : ∀ i, i < n → ∃ a, p i a) : ∃ l : List α, l.length = n ∧ ∀ i, i < n → p i (l.getD i default) := by
  induction n with
  | zero => exact ⟨[], rfl, fun i hi => absurd hi (by omega)⟩
  | succ n ih =>
    obtain ⟨l, hl, hp⟩ := ih (fun i hi => h i (by omega))
    obtain ⟨a, ha⟩ := h n (by omega)
    refine ⟨l ++ [a], by simp [hl], fun i hi => ?_⟩
    rw [List.getD_eq_getElem?_getD, List.getElem?_append]
    by_cases e : i < n
    · rw [if_pos (by omega), ← List.getD_eq_getElem?_getD]; exact hp i e
    · obtain rfl : i = n := by omega
      rw [if_neg (by omega), hl]; simpa using ha
theorem cells9 : Tryd.prog.cellsOf 9 = 1 := by kernel_rfl
theorem cells3 : Tryd.prog.cellsOf 3 = 1 := by kernel_rfl
theorem cells4 : Tryd.prog.cellsOf 4 = 1 := by kernel_rfl
theorem cells2 : Tryd.prog.cellsOf 2 = 1 := by kernel_rfl
theorem cells22 : Tryd.prog.cellsOf 22 = 1 := by kernel_rfl
theorem cells23 : Tryd.prog.cellsOf 23 = 1 := by kernel_rfl
theorem cells25 : Tryd.prog.cellsOf 25 = 6 := by kernel_rfl
theorem bulk_one {H : Type} (d : DataW H) : 1 ≤ Rows.uptoBulk d := by
  cases d with
  | lit l => cases l <;> simp [Rows.uptoBulk]
  | nil => simp [Rows.uptoBulk]
  | ptr d => simp [Rows.uptoBulk]
  | slice elems spare => simp [Rows.uptoBulk]
  | agg parts => simp [Rows.uptoBulk]
  | iface t d => simp [Rows.uptoBulk]
  | map entries => simp [Rows.uptoBulk]
  | held h => simp [Rows.uptoBulk]
theorem bulk_string {H : Type} (s : ByteArray) : Rows.uptoBulk (DataW.lit (H := H) (.string s.data.toList)) = s.size + 1 := by simp [Rows.uptoBulk]
section
variable {H : Type} {enc : TypeId × Value → H} {W : World} {base : Nat} {sp : Nat → Bool} {held : Bool}
/-- A sum over a list of the elements' measures, each bounded by its datum's bulk. -/
theorem bulk_sum {H : Type} {α : Type} (f : α → Nat) : ∀ (l : List α) (es : List (DataW H × List MemPlace)), l.length = es.length → (∀ i, i < l.length → ∀ a x, l[i]? = some a → es[i]? = some x → f a ≤ Rows.uptoBulk x.1) → (l.map f).sum ≤ Rows.uptoBulkAll (es.map (·.1))
  | [], [], _, _ => by simp [Rows.uptoBulkAll]
  | a :: l, x :: es, hl, h => by
    have h0 := h 0 (by simp) a x rfl rfl
    have h1 := bulk_sum f l es (by simpa using hl) (fun i hi a' x' ha hx => h (i + 1) (by simpa using hi) a' x' (by simpa using ha) (by simpa using hx))
    simp only [List.map_cons, List.sum_cons, Rows.uptoBulkAll]
    omega
  | [], _ :: _, hl, _ => by simp at hl
  | _ :: _, [], hl, _ => by simp at hl
theorem strs_of {fuel : Nat} {v : Value} {x : DataW H × List MemPlace} (h : DataW.trod enc Tryd.prog W base sp held fuel 22 [v] = some x) : ∃ ks, StrsX W (fun _ => True) v ks ∧ ks.length + (ks.map ByteArray.size).sum + 1 ≤ Rows.uptoBulk x.1 := by
  rcases DataW.trod_slice Tryd.underlying22 h with ⟨hc, hx⟩ | ⟨a, len, cap, elems, rest, n, _, hc, hx, _, hl, _, hel, hget, _, _⟩
  · injection hc with hc _
    subst hc
    exact ⟨[], strs_nil _ _, by simpa using bulk_one x.1⟩
  · injection hc with hc _
    subst hc
    have key : ∀ i, i < len → ∃ s : ByteArray, (∃ y, elems[i]? = some y ∧ y.1 = .lit (.string s.data.toList)) ∧ ∃ b o, a = ⟨b, o, none⟩ ∧ W.cell? ⟨b, o + i, none⟩ = some (.string s) := by
      intro i hi
      have hg := hget i hi
      rw [List.getElem?_eq_getElem (by omega), cells9, Nat.mul_one] at hg
      obtain ⟨cs, hcs, hst⟩ := Option.bind_eq_some_iff.1 hg
      obtain ⟨_, hlen, hcell⟩ := World.cells?_some hcs
      obtain ⟨s, rfl, hy, _⟩ := DataW.trod_string Tryd.underlying9 hst
      have e0 := hcell 0 (by omega)
      have hadd : (a.add i).add 0 = a.add i := by simp [Addr.add]
      rw [hadd] at e0
      have hsp : ∃ b o, a = ⟨b, o, none⟩ := by
        have hg0 := hget 0 (by omega)
        rw [List.getElem?_eq_getElem (by omega), cells9, Nat.mul_one] at hg0
        obtain ⟨cs0, hcs0, _⟩ := Option.bind_eq_some_iff.1 hg0
        obtain ⟨_, hlen0, hcell0⟩ := World.cells?_some hcs0
        have := hcell0 0 (by omega)
        rw [List.getElem?_eq_getElem (by omega), show (a.add 0).add 0 = a by simp [Addr.add]] at this
        exact spot_none this
      obtain ⟨b, o, rfl⟩ := hsp
      rw [add_at] at e0
      exact ⟨s, ⟨_, List.getElem?_eq_getElem (by omega), by rw [hy]⟩, b, o, rfl, e0⟩
    obtain ⟨ks, hkl, hp⟩ := list_of (α := ByteArray) key
    refine ⟨ks, ⟨some a, cap, by rw [hkl], by omega, fun i hi => ?_⟩, ?_⟩
    · obtain ⟨_, b, o, rfl, hc⟩ := hp i (by omega)
      exact ⟨b, o, rfl, trivial, hc⟩
    · have hs := bulk_sum (fun s : ByteArray => s.size + 1) ks elems (by omega) (fun i hi s y hs hy => by
        obtain ⟨⟨y', hy', hd⟩, _⟩ := hp i (by omega)
        rw [hy] at hy'
        injection hy' with hy'
        subst hy'
        have e : ks.getD i default = s := by rw [List.getD_eq_getElem?_getD, hs]; rfl
        rw [hd, e, bulk_string]
        exact Nat.le_refl _)
      have e2 : (ks.map fun s : ByteArray => s.size + 1).sum = (ks.map ByteArray.size).sum + ks.length := by
        clear hp hkl hs
        induction ks with
        | nil => rfl
        | cons k ks ih => simp only [List.map_cons, List.sum_cons, List.length_cons, ih]; omega
      rw [hx]
      simp only [Rows.uptoBulk]
      omega
theorem sizeL_sum : ∀ vs : List J, sizeL vs = (vs.map sizeJ).sum
  | [] => rfl
  | v :: vs => by unfold sizeL; rw [sizeL_sum vs]; rfl
/-- A value, out of its reading. -/
theorem json_of : ∀ (fuel : Nat) {cs : List Value} {x : DataW H × List MemPlace}, DataW.trod enc Tryd.prog W base sp held fuel 25 cs = some x → ∃ (v0 v1 v2 v3 v4 v5 : Value) (j : J), cs = [v0, v1, v2, v3, v4, v5] ∧ JX W (fun _ => True) (.agg #[v0, v1, v2, v3, v4, v5]) j ∧ sizeJ j ≤ Rows.uptoBulk x.1 := by
  intro fuel
  induction fuel using Nat.strongRecOn with
  | _ fuel ih =>
    intro cs x h
    obtain ⟨xs, n, hfu, hx, hcl, hxl, hf⟩ := DataW.trod_struct Tryd.underlying25 h
    rw [cells25] at hcl
    have f0 : DataW.trod enc Tryd.prog W base sp held n 3 ((cs.drop 0).take (Tryd.prog.cellsOf 3)) = xs[0]? := hf 0 _ rfl
    have f1 : DataW.trod enc Tryd.prog W base sp held n 4 ((cs.drop 1).take (Tryd.prog.cellsOf 4)) = xs[1]? := hf 1 _ rfl
    have f2 : DataW.trod enc Tryd.prog W base sp held n 2 ((cs.drop 2).take (Tryd.prog.cellsOf 2)) = xs[2]? := hf 2 _ rfl
    have f3 : DataW.trod enc Tryd.prog W base sp held n 9 ((cs.drop 3).take (Tryd.prog.cellsOf 9)) = xs[3]? := hf 3 _ rfl
    have f4 : DataW.trod enc Tryd.prog W base sp held n 22 ((cs.drop 4).take (Tryd.prog.cellsOf 22)) = xs[4]? := hf 4 _ rfl
    have f5 : DataW.trod enc Tryd.prog W base sp held n 23 ((cs.drop 5).take (Tryd.prog.cellsOf 23)) = xs[5]? := hf 5 _ rfl
    have hxs : xs.length = 6 := hxl
    obtain ⟨v0, v1, v2, v3, v4, v5, rfl⟩ : ∃ v0 v1 v2 v3 v4 v5, cs = [v0, v1, v2, v3, v4, v5] := by
      match cs, hcl with
      | [v0, v1, v2, v3, v4, v5], _ => exact ⟨v0, v1, v2, v3, v4, v5, rfl⟩
    obtain ⟨x0, x1, x2, x3, x4, x5, rfl⟩ : ∃ x0 x1 x2 x3 x4 x5, xs = [x0, x1, x2, x3, x4, x5] := by
      match xs, hxs with
      | [x0, x1, x2, x3, x4, x5], _ => exact ⟨x0, x1, x2, x3, x4, x5, rfl⟩
    rw [cells3] at f0
    rw [cells4] at f1
    rw [cells2] at f2
    rw [cells9] at f3
    rw [cells22] at f4
    rw [cells23] at f5
    obtain ⟨k, hk, hx0, _⟩ := DataW.trod_int Tryd.underlying3 (show DataW.trod enc Tryd.prog W base sp held n 3 [v0] = some x0 from f0)
    obtain ⟨b, hb, hx1⟩ := DataW.trod_bool Tryd.underlying4 (show DataW.trod enc Tryd.prog W base sp held n 4 [v1] = some x1 from f1)
    obtain ⟨m, hm, hx2, _⟩ := DataW.trod_int Tryd.underlying2 (show DataW.trod enc Tryd.prog W base sp held n 2 [v2] = some x2 from f2)
    obtain ⟨t, ht, hx3, _⟩ := DataW.trod_string Tryd.underlying9 (show DataW.trod enc Tryd.prog W base sp held n 9 [v3] = some x3 from f3)
    obtain ⟨ks, hks, hkb⟩ := strs_of (show DataW.trod enc Tryd.prog W base sp held n 22 [v4] = some x4 from f4)
    injection hk with hk _
    injection hb with hb _
    injection hm with hm _
    injection ht with ht _
    subst hk hb hm ht
    have hvs : ∃ vs, JsX W (fun _ => True) v5 vs ∧ sizeL vs + 1 ≤ Rows.uptoBulk x5.1 := by
      rcases DataW.trod_slice Tryd.underlying23 (show DataW.trod enc Tryd.prog W base sp held n 23 [v5] = some x5 from f5) with ⟨hc, hx⟩ | ⟨a, len, cap, elems, rest, n', hn', hc, hx5, _, hl, _, hel, hget, _, _⟩
      · injection hc with hc _
        subst hc
        exact ⟨[], ⟨none, 0, fun _ _ => .nilIface, rfl, Nat.le_refl _, fun i hi => absurd hi (Nat.not_lt_zero _), fun i hi => absurd hi (Nat.not_lt_zero _)⟩, by simpa [sizeL] using bulk_one x5.1⟩
      · injection hc with hc _
        subst hc
        have hsp : 0 < len → ∃ b o, a = ⟨b, o, none⟩ := by
          intro h0
          have hg0 := hget 0 h0
          rw [List.getElem?_eq_getElem (by omega), cells25] at hg0
          obtain ⟨cs0, hcs0, _⟩ := Option.bind_eq_some_iff.1 hg0
          obtain ⟨_, hlen0, hcell0⟩ := World.cells?_some hcs0
          have := hcell0 0 (by omega)
          rw [List.getElem?_eq_getElem (by omega), show (0 * 6 : Nat) = 0 from rfl, show (a.add 0).add 0 = a by simp [Addr.add]] at this
          exact spot_none this
        have key : ∀ i, i < len → ∃ j : J, ∃ u : Nat → Value, (∃ y, elems[i]? = some y ∧ sizeJ j ≤ Rows.uptoBulk y.1) ∧ JX W (fun _ => True) (.agg #[u 0, u 1, u 2, u 3, u 4, u 5]) j ∧ ∃ b o, a = ⟨b, o, none⟩ ∧ Six W b (o + i * 6) (u 0) (u 1) (u 2) (u 3) (u 4) (u 5) := by
          intro i hi
          have hg := hget i hi
          rw [List.getElem?_eq_getElem (by omega), cells25] at hg
          obtain ⟨cs, hcs, hst⟩ := Option.bind_eq_some_iff.1 hg
          obtain ⟨_, hlen, hcell⟩ := World.cells?_some hcs
          obtain ⟨w0, w1, w2, w3, w4, w5, j, rfl, hj, hjb⟩ := ih n' (by omega) hst
          obtain ⟨b, o, rfl⟩ := hsp (by omega)
          have e0 := hcell 0 (by decide)
          have e1 := hcell 1 (by decide)
          have e2 := hcell 2 (by decide)
          have e3 := hcell 3 (by decide)
          have e4 := hcell 4 (by decide)
          have e5 := hcell 5 (by decide)
          simp only [add_at] at e0 e1 e2 e3 e4 e5
          exact ⟨j, fun i => [w0, w1, w2, w3, w4, w5].getD i .nilIface, ⟨_, List.getElem?_eq_getElem (by omega), hjb⟩, hj, b, o, rfl, ⟨⟨e0, e1, e2⟩, e3, e4, e5⟩⟩
        obtain ⟨vs, hvl, hp⟩ := list_of (α := J) key
        have hchoose : ∀ i : Nat, ∃ u : Nat → Value, i < len → (JX W (fun _ => True) (.agg #[u 0, u 1, u 2, u 3, u 4, u 5]) (vs.getD i default) ∧ ∃ b o, a = ⟨b, o, none⟩ ∧ Six W b (o + i * 6) (u 0) (u 1) (u 2) (u 3) (u 4) (u 5)) := fun i => by
          by_cases hi : i < len
          · obtain ⟨u, _, h1, h2⟩ := hp i hi
            exact ⟨u, fun _ => ⟨h1, h2⟩⟩
          · exact ⟨fun _ => .nilIface, fun h => absurd h hi⟩
        refine ⟨vs, ⟨some a, cap, fun i => (hchoose i).choose, by rw [hvl], by omega, fun i hi => ?_, fun i hi => ((hchoose i).choose_spec (by omega)).1⟩, ?_⟩
        · obtain ⟨b, o, rfl, h6⟩ := ((hchoose i).choose_spec (by omega)).2
          exact ⟨b, o, rfl, trivial, h6⟩
        · have hs := bulk_sum sizeJ vs elems (by omega) (fun i hi j y hj hy => by
            obtain ⟨u, ⟨y', hy', hb⟩, _⟩ := hp i (by omega)
            rw [hy] at hy'
            injection hy' with hy'
            subst hy'
            have e : vs.getD i default = j := by rw [List.getD_eq_getElem?_getD, hj]; rfl
            rw [← e]
            exact hb)
          rw [sizeL_sum, hx5]
          simp only [Rows.uptoBulk]
          omega
    obtain ⟨vs, hvs, hvb⟩ := hvs
    refine ⟨_, _, _, _, _, _, .mk k b m t ks vs, rfl, JX.close hks hvs, ?_⟩
    have h3 : Rows.uptoBulk x3.1 = t.size + 1 := by rw [hx3]; exact bulk_string t
    have h0 := bulk_one x0.1
    have h1 := bulk_one x1.1
    have h2 := bulk_one x2.1
    rw [hx]
    unfold sizeJ
    simp only [Rows.uptoBulk, List.map_cons, List.map_nil, Rows.uptoBulkAll]
    omega
end
end Go.Proofs.WV
