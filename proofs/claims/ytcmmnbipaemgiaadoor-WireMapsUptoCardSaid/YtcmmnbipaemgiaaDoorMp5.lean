/-
 A value's text, by the specification (Text), in memory. Condition: the value lies, is formed, and is not larger than an int counts.
-/
import Derived.Test.YtcmmnbipaemgiaaDoorMp4
namespace Go.Proofs.WV
open Go.RowKit Go.Proofs.KL Go.Proofs.WM
set_option maxRecDepth 100000
set_option linter.unusedSimpArgs false
set_option linter.unusedVariables false

theorem own_ne {W : World} {base g : Nat} {v : Value} {bs : Bs} {cs : Array Value} {t : TypeId} (h : OwnB W base v bs) (hg : W.heap[g]? = some (.cells cs t (0, 0))) (ht : t ≠ 5) : ¬ some g = v.ownBlock := fun e => by
 rcases h with ⟨rfl, _⟩ | ⟨g', cap, cur, fz, rfl, hb, hg', _⟩
 · cases e
 · simp only [Value.ownBlock, Option.some.injEq] at e
   subst e
   rw [hg] at hg'
   injection hg' with hg'
   injection hg' with _ h2 _
   exact ht h2
theorem tab_after {W w : World} (h : Tab W W.heap.size) (hk : Keeps Nob W w) : Tab w w.heap.size := by
 obtain ⟨g, h1, h2, h3⟩ := h.keep hk.any
 exact ⟨g, h1, Nat.lt_of_lt_of_le h2 hk.size, h3⟩
theorem formed_open {k : Int} {b : Bool} {n : Int} {t : ByteArray} {ks : List ByteArray} {vs : List J} (h : formedJ (.mk k b n t ks vs) = true) : (1 ≤ k ∧ k ≤ 6) ∧ (k = 6 → ks.length = vs.length) ∧ (-9007199254740991 ≤ n ∧ n ≤ 9007199254740991) ∧ formedL vs = true := by
 unfold formedJ at h
 simp only [fineJ, Bool.and_eq_true, Bool.or_eq_true, decide_eq_true_eq, Bool.not_eq_true', decide_eq_false_iff_not] at h
 obtain ⟨⟨⟨⟨⟨⟨⟨⟨⟨⟨h1, h2⟩, hb⟩, hn⟩, ht⟩, hks⟩, hvs⟩, hr⟩, hlen⟩, hnd⟩, hfl⟩ := h
 exact ⟨⟨h1, h2⟩, fun h6 => hlen.resolve_left (fun h => h h6), hr, hfl⟩
theorem parts_bound {ps : List Bs} {B : Nat} (h : lens ps + ps.length ≤ B) (i : Nat) : (joinC (ps.take i)).length ≤ B ∧ (ps.getD i []).length ≤ B := by
 refine ⟨Nat.le_trans (joinC_take_len ps i) h, ?_⟩
 have : ∀ (l : List Bs) (i : Nat), (l.getD i []).length ≤ lens l := by
  intro l
  induction l with
  | nil => intro i; simp
  | cons x l ih =>
    intro i
    cases i with
    | zero => simp [lens]
    | succ i => have := ih i; simp only [List.getD_cons_succ, lens, List.map_cons, List.sum_cons] at this ⊢; omega
 have := this ps i
 omega
set_option maxHeartbeats 16000000 in
theorem text17 {w : World} {X : Nat → Prop} {v : Value} {j : J} (h : JX w X v j) : ∀ W, Keeps Nob w W → Tab W W.heap.size → formedJ j = true → sizeJ j ≤ 10000000000 → Calls Tryd.prog 17 #[v] W fun e w' => e = .returned (.string (mkB (textJ j))) ∧ Keeps Nob W w' := by
 induction h with
 | mk k b n t ks vs kv A c u h1 hc hA hv ih =>
   intro W hW htab hf hb
   obtain ⟨hk, hlen, hrange, hfl⟩ := formed_open hf
   obtain ⟨kA, kc, rfl, hkc, hkx⟩ := h1
   obtain ⟨i25, hi25, hs25⟩ := info25
   have HI := Lib.hid (And.intro hi25 hs25)
   have hbs := hb
   unfold sizeJ at hbs
   have hts := text_size _ hf
   have hlv := text_sizeL vs hfl
   have hqk := quotes_len ks
   have hzl := zip_len ks (textL vs)
   have hsl := size_len vs
   have HT := Lib.hid htab
   have HA := Lib.hid hA
   have HV := Lib.hid hv
   have IH := Lib.hid ih
   have HW := Lib.hid hW
   have Hkx := Lib.hid hkx
   have Hfl := Lib.hid hfl
   have Hr := Lib.hid hrange
   have Htz := Lib.hid (show t.size ≤ 1000000000000 by omega)
   have Hbs := Lib.hid hbs
   obtain ⟨nk, hnk⟩ : ∃ x, ks.length = x := ⟨_, rfl⟩
   obtain ⟨nv, hnv⟩ : ∃ x, vs.length = x := ⟨_, rfl⟩
   have Hnk := Lib.hid hnk
   have Hnv := Lib.hid hnv
   have HP5 := Lib.hid (show lens (textL vs) + (textL vs).length ≤ 400000000000 by rw [textL_length]; omega)
   have HP6 := Lib.hid (show ks.length = vs.length → lens (pairT ks vs) + (pairT ks vs).length ≤ 400000000000 from fun hl => by
    rw [pairT_length hl]
    unfold pairT
    omega)
   have Hlen := Lib.hid hlen
   rw [hnk] at hkc ⊢
   rw [hnv] at hc ⊢
   have hnkI : (nk : Int) ≤ 10000000000 := by omega
   have hnvI : (nv : Int) ≤ 10000000000 := by omega
   clear hA hv ih hW hkx hfl hrange hts hlv hqk hzl hsl hf hb hbs htab hi25 hs25 hnk hnv hlen
   obtain ⟨S, hS⟩ : ∃ S, textJ (.mk k b n t ks vs) = S := ⟨_, rfl⟩
   rw [hS]
   unfold textJ at hS
   rcases (show k = 1 ∨ k = 2 ∨ k = 3 ∨ k = 4 ∨ k = 5 ∨ k = 6 by omega) with e | e | e | e | e | e
   · subst e
     have HS := Lib.hid (show S = [110, 117, 108, 108] by rw [← hS]; rfl)
     clear hS
     go_enter Tryd.func17, Tryd.ntmps17
     go_wp2_with (first
      | ((with_reducible refine at_dst (N := 1) rfl ?_); go_must (refine ev_box (cs := #[.int .i64 1, .bool b, .int .i64 n, .string t, .slice kA nk kc, .slice A nv c]) rfl rfl rfl ?_; intro g1 w1 hg1 hl1 hb1 hk1)
         have Hb1 := Lib.hid hb1
         have HK := Lib.hid hk1
         have Hg1 := Lib.hid hg1
         have v0 := (blk_cell Hb1.out 0).trans rfl
         have v1 := (blk_cell Hb1.out 1).trans rfl
         have v2 := (blk_cell Hb1.out 2).trans rfl
         have v3 := (blk_cell Hb1.out 3).trans rfl
         have v4 := (blk_cell Hb1.out 4).trans rfl
         have v5 := (blk_cell Hb1.out 5).trans rfl
         clear hb1 hk1 hg1 hl1
         (try simp only [PU]))
     )
     go_ret
     rw [HS.out]
     exact ⟨rfl, HK.out⟩
   · subst e
     cases b
     · have HS := Lib.hid (show S = [102, 97, 108, 115, 101] by rw [← hS]; rfl)
       clear hS
       go_enter Tryd.func17, Tryd.ntmps17
       go_wp2_with (first
        | ((with_reducible refine at_dst (N := 1) rfl ?_); go_must (refine ev_box (cs := #[.int .i64 2, .bool false, .int .i64 n, .string t, .slice kA nk kc, .slice A nv c]) rfl rfl rfl ?_; intro g1 w1 hg1 hl1 hb1 hk1)
           have Hb1 := Lib.hid hb1
           have HK := Lib.hid hk1
           have Hg1 := Lib.hid hg1
           have v0 := (blk_cell Hb1.out 0).trans rfl
           have v1 := (blk_cell Hb1.out 1).trans rfl
           have v2 := (blk_cell Hb1.out 2).trans rfl
           have v3 := (blk_cell Hb1.out 3).trans rfl
           have v4 := (blk_cell Hb1.out 4).trans rfl
           have v5 := (blk_cell Hb1.out 5).trans rfl
           clear hb1 hk1 hg1 hl1
           (try simp only [PU]))
       )
       go_ret
       rw [HS.out]
       exact ⟨rfl, HK.out⟩
     · have HS := Lib.hid (show S = [116, 114, 117, 101] by rw [← hS]; rfl)
       clear hS
       go_enter Tryd.func17, Tryd.ntmps17
       go_wp2_with (first
        | ((with_reducible refine at_dst (N := 1) rfl ?_); go_must (refine ev_box (cs := #[.int .i64 2, .bool true, .int .i64 n, .string t, .slice kA nk kc, .slice A nv c]) rfl rfl rfl ?_; intro g1 w1 hg1 hl1 hb1 hk1)
           have Hb1 := Lib.hid hb1
           have HK := Lib.hid hk1
           have Hg1 := Lib.hid hg1
           have v0 := (blk_cell Hb1.out 0).trans rfl
           have v1 := (blk_cell Hb1.out 1).trans rfl
           have v2 := (blk_cell Hb1.out 2).trans rfl
           have v3 := (blk_cell Hb1.out 3).trans rfl
           have v4 := (blk_cell Hb1.out 4).trans rfl
           have v5 := (blk_cell Hb1.out 5).trans rfl
           clear hb1 hk1 hg1 hl1
           (try simp only [PU]))
       )
       go_ret
       rw [HS.out]
       exact ⟨rfl, HK.out⟩
   · subst e
     have HS := Lib.hid (show S = Lib.itoa n by rw [← hS]; rfl)
     clear hS
     go_enter Tryd.func17, Tryd.ntmps17
     go_wp2_with (first
      | ((with_reducible refine at_dst (N := 1) rfl ?_); go_must (refine ev_box (cs := #[.int .i64 3, .bool b, .int .i64 n, .string t, .slice kA nk kc, .slice A nv c]) rfl rfl rfl ?_; intro g1 w1 hg1 hl1 hb1 hk1)
         have Hb1 := Lib.hid hb1
         have HK := Lib.hid hk1
         have Hg1 := Lib.hid hg1
         have v0 := (blk_cell Hb1.out 0).trans rfl
         have v1 := (blk_cell Hb1.out 1).trans rfl
         have v2 := (blk_cell Hb1.out 2).trans rfl
         have v3 := (blk_cell Hb1.out 3).trans rfl
         have v4 := (blk_cell Hb1.out 4).trans rfl
         have v5 := (blk_cell Hb1.out 5).trans rfl
         clear hb1 hk1 hg1 hl1
         (try simp only [PU]))
      | (go_at_call 42; go_must (refine (itoa42 (tab_after HT.out HK.out) n (by have := Hr.out; omega) (by have := Hr.out; omega)).mono ?_; rintro e w3 ⟨rfl, hk3⟩); have HKz := Lib.hid (HK.out.trans hk3 (fun _ _ h => h)); clear hk3; (try simp only [PU]))
     )
     go_ret
     rw [HS.out]
     exact ⟨rfl, HKz.out⟩
   · subst e
     have HS := Lib.hid (show S = quoteB (bl t) by rw [← hS]; rfl)
     clear hS
     go_enter Tryd.func17, Tryd.ntmps17
     go_wp2_with (first
      | ((with_reducible refine at_dst (N := 1) rfl ?_); go_must (refine ev_box (cs := #[.int .i64 4, .bool b, .int .i64 n, .string t, .slice kA nk kc, .slice A nv c]) rfl rfl rfl ?_; intro g1 w1 hg1 hl1 hb1 hk1)
         have Hb1 := Lib.hid hb1
         have HK := Lib.hid hk1
         have Hg1 := Lib.hid hg1
         have v0 := (blk_cell Hb1.out 0).trans rfl
         have v1 := (blk_cell Hb1.out 1).trans rfl
         have v2 := (blk_cell Hb1.out 2).trans rfl
         have v3 := (blk_cell Hb1.out 3).trans rfl
         have v4 := (blk_cell Hb1.out 4).trans rfl
         have v5 := (blk_cell Hb1.out 5).trans rfl
         clear hb1 hk1 hg1 hl1
         (try simp only [PU]))
      | (go_at_call 43; go_must (refine (quoted43 (T := t) Htz.out).mono ?_; rintro e w3 ⟨rfl, hk3⟩); have HKz := Lib.hid (HK.out.trans hk3 (fun _ _ h => h)); clear hk3; (try simp only [PU]))
     )
     go_ret
     rw [HS.out]
     exact ⟨rfl, HKz.out⟩
   · subst e
     have HS := Lib.hid (show S = [91] ++ joinC (textL vs) ++ [93] by rw [← hS]; rfl)
     have HP := Lib.hid (show lens (textL vs) + (textL vs).length ≤ 400000000000 from HP5.out)
     have Hpl := Lib.hid (show (textL vs).length = nv by rw [textL_length]; exact Hnv.out)
     have Hget := Lib.hid (show ∀ i, i < nv → (textL vs).getD i [] = textJ (vs.getD i default) from fun i hi => textL_get (by rw [Hnv.out]; exact hi))
     clear hS
     go_enter Tryd.func17, Tryd.ntmps17
     go_wp2_with (first
      | ((with_reducible refine at_dst (N := 1) rfl ?_); go_must (refine ev_box (cs := #[.int .i64 5, .bool b, .int .i64 n, .string t, .slice kA nk kc, .slice A nv c]) rfl rfl rfl ?_; intro g1 w1 hg1 hl1 hb1 hk1)
         have Hb1 := Lib.hid hb1
         have HK := Lib.hid hk1
         have Hg1 := Lib.hid hg1
         have v0 := (blk_cell Hb1.out 0).trans rfl
         have v1 := (blk_cell Hb1.out 1).trans rfl
         have v2 := (blk_cell Hb1.out 2).trans rfl
         have v3 := (blk_cell Hb1.out 3).trans rfl
         have v4 := (blk_cell Hb1.out 4).trans rfl
         have v5 := (blk_cell Hb1.out 5).trans rfl
         clear hb1 hk1 hg1 hl1
         (try simp only [PU]))
      | ((with_reducible refine at_dst (N := 30) rfl ?_); go_must (refine ev_conv_sb rfl rfl Tryd.underlying9 byteT38 Tryd.underlying5 rfl (base := W.heap.size) HK.out.size (by decide) ?_; intro v' wc ho hk2 hnew; obtain ⟨oA, oc, hv'⟩ := ho.slice; subst hv')
         have HO := Lib.hid (show OwnB wc W.heap.size (.slice oA ([91] : Bs).length oc) [91] from ho)
         have Hb1 := Lib.hid (hk2.blk Hb1.out id)
         have HK := Lib.hid (HK.out.trans hk2 (fun _ _ h => h))
         clear ho hk2 hnew v0 v1 v2 v3 v4 v5
         have v0 := (blk_cell Hb1.out 0).trans rfl
         have v1 := (blk_cell Hb1.out 1).trans rfl
         have v2 := (blk_cell Hb1.out 2).trans rfl
         have v3 := (blk_cell Hb1.out 3).trans rfl
         have v4 := (blk_cell Hb1.out 4).trans rfl
         have v5 := (blk_cell Hb1.out 5).trans rfl
         (try simp only [PU]))
     )
     go_loopg [34, 5] nv (fun K' iv ov wr => ∃ (i : Nat) (oA : Option Addr) (oc : Nat) (out : Bs), iv = .int .i64 i ∧ ov = .slice oA out.length oc ∧ i + K' = nv ∧ Hid (wr.heap[g1]? = some (.cells #[.int .i64 5, .bool b, .int .i64 n, .string t, .slice kA nk kc, .slice A nv c] 25 (0, 0))) ∧ Hid (OwnB wr W.heap.size (.slice oA out.length oc) out) ∧ Hid (Keeps Nob W wr) ∧ Hid (out = [91] ++ joinC ((textL vs).take i)))
     case atStart => exact ⟨0, oA, oc, [91], rfl, rfl, by omega, Hb1, HO, HK, Lib.hid (by simp [joinC])⟩
     case round =>
      obtain ⟨i, oA, oc, out, rfl, rfl, hiK, Hb1, HO, HK, HE⟩ := hrel
      have v0 := (blk_cell Hb1.out 0).trans rfl
      have v1 := (blk_cell Hb1.out 1).trans rfl
      have v2 := (blk_cell Hb1.out 2).trans rfl
      have v3 := (blk_cell Hb1.out 3).trans rfl
      have v4 := (blk_cell Hb1.out 4).trans rfl
      have v5 := (blk_cell Hb1.out 5).trans rfl
      have Hol := Lib.hid (show out.length ≤ 500000000000 by rw [HE.out, List.length_append]; have := (parts_bound HP.out i).1; simp only [List.length_cons, List.length_nil]; omega)
      by_cases hlt : i < nv
      · obtain ⟨PSi, hPSi⟩ : ∃ x, (textL vs).getD i [] = x := ⟨_, rfl⟩
        obtain ⟨tx, htx⟩ : ∃ x, textJ (vs.getD i default) = x := ⟨_, rfl⟩
        have hjt := joinC_take (ps := (textL vs)) (k := i) (by rw [Hpl.out]; exact hlt)
        rw [hPSi] at hjt
        obtain ⟨key, hkey⟩ : ∃ x : ByteArray, ByteArray.empty = x := ⟨_, rfl⟩
        have Hkcell := Lib.hid True.intro
        have Hparts := Lib.hid (show PSi = tx by rw [← hPSi, Hget.out i hlt, htx])
        have Hpb := Lib.hid (show tx.length ≤ 400000000000 by have h1 := (parts_bound HP.out i).2; have h2 := Hparts.out; rw [hPSi, h2] at h1; exact h1)
        clear hkey
        have Hjt := Lib.hid hjt
        have Htb := Lib.hid (show tx.length ≤ 400000000000 from Hpb.out)
        obtain ⟨b', o, rfl, -, h6⟩ := HA.out i (by rw [Hnv.out]; exact hlt)
        obtain ⟨⟨e0, e1, e2⟩, e3, e4, e5⟩ := h6.keep (HW.out.trans HK.out (fun _ _ h => h)) id
        have hsix := (HV.out i (by rw [Hnv.out]; exact hlt)).six
        have hrun := IH.out i (by rw [Hnv.out]; exact hlt)
        rw [htx] at hrun
        have hsv : sizeJ (vs.getD i default) ≤ 10000000000 := by have h1 := size_get (vs := vs) (i := i) (by rw [Hnv.out]; exact hlt); have := Hbs.out; omega
        have hfv := formed_get (vs := vs) (i := i) Hfl.out (by rw [Hnv.out]; exact hlt)
        have Hrun := Lib.hid (fun W' (hk : Keeps Nob W W') => hrun W' (HW.out.trans hk (fun _ _ h => h)) (tab_after HT.out hk) hfv hsv)
        generalize u i 0 = x0 at *
        generalize u i 1 = x1 at *
        generalize u i 2 = x2 at *
        generalize u i 3 = x3 at *
        generalize u i 4 = x4 at *
        generalize u i 5 = x5 at *
        obtain ⟨y0, y1, y2, y3, yA, yn, yc, yB, ym, yd, ⟨rfl, rfl, rfl⟩, rfl, rfl, rfl⟩ := hsix
        clear h6 hjt hPSi htx hrun hsv hfv
        by_cases hi0 : i = 0
        · have HN := Lib.hid (show [91] ++ joinC ((textL vs).take (i + 1)) = out ++ PSi by rw [Hjt.out, if_pos hi0, HE.out, hi0]; simp [joinC])
          have hi0i : ¬ (0 : Int) < (i : Int) := by omega
          clear hi0
          go_wp2_with (first
           | ((with_reducible refine at_dst (N := 7) rfl ?_); go_must (refine ev_alloc rfl rfl zero25 rfl ?_; intro g5 w2 hg5 hl5 hb5 hk2)
              have Hb5 := Lib.hid hb5
              have Hg5 := Lib.hid (show W.heap.size ≤ g5 ∧ g1 < g5 from ⟨Nat.le_trans HK.out.size hg5, Nat.lt_of_lt_of_le (blk_lt Hb1.out) hg5⟩)
              have HO := Lib.hid (HO.out.keep hk2 (fun _ _ => id))
              have Hb1 := Lib.hid (hk2.blk Hb1.out id)
              have HK := Lib.hid (HK.out.trans hk2 (fun _ _ h => h))
              clear hb5 hk2 hg5 hl5
              (try simp only [PU]))
           | ((with_reducible refine at_store (t := 25) (p := 7) rfl ?_); go_must (refine ev_store (cs' := #[.int .i64 y0, .bool y1, .int .i64 y2, .string y3, .slice yA yn yc, .slice yB ym yd]) rfl rfl rfl rfl rfl rfl HI.out.1 HI.out.2 rfl Hb5.out (Nat.le_of_ble_eq_true rfl) rfl ?_; intro w3 hb3 hk3)
              have hbb1 := hk3.blk Hb1.out (fun e : g1 = g5 => by have := Hg5.out; omega)
              have HO := Lib.hid (HO.out.keep hk3 (fun k hk e => own_ne HO.out Hb5.out (by decide) (by rw [hk, e])))
              have hkk := HK.out.trans hk3 (fun i hi e => by have := Hg5.out; omega)
              have Hb5 := Lib.hid hb3
              (try clear v0 v1 v2 v3 v4 v5)
              have HK := Lib.hid (show Keeps Nob W _ from hkk)
              have Hb1 := Lib.hid hbb1
              (try have kc0 := (HW.out.trans HK.out (fun _ _ h => h)).cell Hkcell.out id)
              have v0 := (blk_cell Hb1.out 0).trans rfl
              have v1 := (blk_cell Hb1.out 1).trans rfl
              have v2 := (blk_cell Hb1.out 2).trans rfl
              have v3 := (blk_cell Hb1.out 3).trans rfl
              have v4 := (blk_cell Hb1.out 4).trans rfl
              have v5 := (blk_cell Hb1.out 5).trans rfl
              have s0 := (blk_cell Hb5.out 0).trans rfl
              have s1 := (blk_cell Hb5.out 1).trans rfl
              have s2 := (blk_cell Hb5.out 2).trans rfl
              have s3 := (blk_cell Hb5.out 3).trans rfl
              have s4 := (blk_cell Hb5.out 4).trans rfl
              have s5 := (blk_cell Hb5.out 5).trans rfl
              clear hb3 hk3 hbb1 hkk
              (try simp only [PU]))
           | ((with_reducible refine at_dst (N := 42) rfl ?_); go_must (refine ev_slice (cs := #[.int .u8 44]) (t := 5) (n := 1) (c := 1) rfl (by first | (go_simp; done) | (go_simp; rfl)) ?_; intro gb wb hgb hlb hbb hk2)
              have Hbb := Lib.hid hbb
              clear hbb hgb hlb
              have hbb1 := hk2.blk Hb1.out id
              have hbb5 := hk2.blk Hb5.out id
              have hkk := HK.out.trans hk2 (fun _ _ h => h)
              have HO := Lib.hid (HO.out.keep hk2 (fun _ _ => id))
              have Hb5 := Lib.hid hbb5
              clear v0 v1 v2 v3 v4 v5 s0 s1 s2 s3 s4 s5
              have HK := Lib.hid (show Keeps Nob W _ from hkk)
              have Hb1 := Lib.hid hbb1
              (try have kc0 := (HW.out.trans HK.out (fun _ _ h => h)).cell Hkcell.out id)
              have v0 := (blk_cell Hb1.out 0).trans rfl
              have v1 := (blk_cell Hb1.out 1).trans rfl
              have v2 := (blk_cell Hb1.out 2).trans rfl
              have v3 := (blk_cell Hb1.out 3).trans rfl
              have v4 := (blk_cell Hb1.out 4).trans rfl
              have v5 := (blk_cell Hb1.out 5).trans rfl
              have s0 := (blk_cell Hb5.out 0).trans rfl
              have s1 := (blk_cell Hb5.out 1).trans rfl
              have s2 := (blk_cell Hb5.out 2).trans rfl
              have s3 := (blk_cell Hb5.out 3).trans rfl
              have s4 := (blk_cell Hb5.out 4).trans rfl
              have s5 := (blk_cell Hb5.out 5).trans rfl
              clear hk2 hbb1 hbb5 hkk
              (try simp only [PU])
              )
           | ((with_reducible refine at_dst (N := 43) rfl ?_); go_must (refine ev_app_sl rfl rfl byteT38 (base := W.heap.size) rfl HO.out rfl (news := [44]) rfl (fun _ => ⟨_, rfl, news_made Hbb.out rfl⟩) (by have := Hol.out; omega) HK.out.size ?_; intro v' wc ho2 ha2; obtain ⟨out1, hq1⟩ : ∃ x, out ++ [44] = x := ⟨_, rfl⟩; rw [hq1] at ho2; obtain ⟨nA, nc, hv'⟩ := ho2.slice; subst hv')
              have Hq1 := Lib.hid hq1
              have Hol1 := Lib.hid (show out1.length ≤ 600000000000 by rw [← hq1, List.length_append]; have := Hol.out; simp only [List.length_cons, List.length_nil]; omega)
              clear hq1
              have hbb1 := ha2.keep.blk Hb1.out (own_ne HO.out (by first | exact Hb1.out) (by decide))
              have hbb5 := ha2.keep.blk Hb5.out (own_ne HO.out Hb5.out (by decide))
              have hkk := HK.out.trans ha2.keep (fun i hi e => by have := (OwnB.lt HO.out i e.symm).1; omega)
              have HO := Lib.hid ho2
              have Hb5 := Lib.hid hbb5
              clear v0 v1 v2 v3 v4 v5 s0 s1 s2 s3 s4 s5
              have HK := Lib.hid (show Keeps Nob W _ from hkk)
              have Hb1 := Lib.hid hbb1
              (try have kc0 := (HW.out.trans HK.out (fun _ _ h => h)).cell Hkcell.out id)
              have v0 := (blk_cell Hb1.out 0).trans rfl
              have v1 := (blk_cell Hb1.out 1).trans rfl
              have v2 := (blk_cell Hb1.out 2).trans rfl
              have v3 := (blk_cell Hb1.out 3).trans rfl
              have v4 := (blk_cell Hb1.out 4).trans rfl
              have v5 := (blk_cell Hb1.out 5).trans rfl
              have s0 := (blk_cell Hb5.out 0).trans rfl
              have s1 := (blk_cell Hb5.out 1).trans rfl
              have s2 := (blk_cell Hb5.out 2).trans rfl
              have s3 := (blk_cell Hb5.out 3).trans rfl
              have s4 := (blk_cell Hb5.out 4).trans rfl
              have s5 := (blk_cell Hb5.out 5).trans rfl
              clear ho2 ha2 hbb1 hbb5 hkk
              (try simp only [PU])
              )
           | (go_at_call 43; go_must (refine (H43.out _).mono ?_; rintro e wd ⟨rfl, hk2⟩)
              have hbb1 := hk2.blk Hb1.out id
              have hbb5 := hk2.blk Hb5.out id
              have hkk := HK.out.trans hk2 (fun _ _ h => h)
              have HO := Lib.hid (HO.out.keep hk2 (fun _ _ => id))
              have Hb5 := Lib.hid hbb5
              clear v0 v1 v2 v3 v4 v5 s0 s1 s2 s3 s4 s5
              have HK := Lib.hid (show Keeps Nob W _ from hkk)
              have Hb1 := Lib.hid hbb1
              (try have kc0 := (HW.out.trans HK.out (fun _ _ h => h)).cell Hkcell.out id)
              have v0 := (blk_cell Hb1.out 0).trans rfl
              have v1 := (blk_cell Hb1.out 1).trans rfl
              have v2 := (blk_cell Hb1.out 2).trans rfl
              have v3 := (blk_cell Hb1.out 3).trans rfl
              have v4 := (blk_cell Hb1.out 4).trans rfl
              have v5 := (blk_cell Hb1.out 5).trans rfl
              have s0 := (blk_cell Hb5.out 0).trans rfl
              have s1 := (blk_cell Hb5.out 1).trans rfl
              have s2 := (blk_cell Hb5.out 2).trans rfl
              have s3 := (blk_cell Hb5.out 3).trans rfl
              have s4 := (blk_cell Hb5.out 4).trans rfl
              have s5 := (blk_cell Hb5.out 5).trans rfl
              clear hk2 hbb1 hbb5 hkk
              (try simp only [PU])
              )
           | ((with_reducible refine at_dst (N := 62) rfl ?_); go_must (refine ev_app_str rfl rfl byteT38 Tryd.underlying9 (base := W.heap.size) rfl HO.out (st := qk ++ ⟨#[58]⟩) rfl (by rw [Hqc.out]; have := Hol.out; have := Hqb.out; simp only [List.length_append, List.length_cons, List.length_nil]; omega) HK.out.size ?_; rw [Hqc.out]; intro v' wc ho2 ha2; obtain ⟨out2, hq2⟩ : ∃ x, out ++ (quoteB (bl key) ++ [58]) = x := ⟨_, rfl⟩; rw [hq2] at ho2; obtain ⟨nA, nc, hv'⟩ := ho2.slice; subst hv')
              have Hq2 := Lib.hid hq2
              have Hol2 := Lib.hid (show out2.length ≤ 2000000000000 by rw [← hq2, List.length_append]; have := Hol.out; have := Hqb.out; simp only [List.length_append, List.length_cons, List.length_nil]; omega)
              clear hq2
              have hbb1 := ha2.keep.blk Hb1.out (own_ne HO.out (by first | exact Hb1.out) (by decide))
              have hbb5 := ha2.keep.blk Hb5.out (own_ne HO.out Hb5.out (by decide))
              have hkk := HK.out.trans ha2.keep (fun i hi e => by have := (OwnB.lt HO.out i e.symm).1; omega)
              have HO := Lib.hid ho2
              have Hb5 := Lib.hid hbb5
              clear v0 v1 v2 v3 v4 v5 s0 s1 s2 s3 s4 s5
              have HK := Lib.hid (show Keeps Nob W _ from hkk)
              have Hb1 := Lib.hid hbb1
              (try have kc0 := (HW.out.trans HK.out (fun _ _ h => h)).cell Hkcell.out id)
              have v0 := (blk_cell Hb1.out 0).trans rfl
              have v1 := (blk_cell Hb1.out 1).trans rfl
              have v2 := (blk_cell Hb1.out 2).trans rfl
              have v3 := (blk_cell Hb1.out 3).trans rfl
              have v4 := (blk_cell Hb1.out 4).trans rfl
              have v5 := (blk_cell Hb1.out 5).trans rfl
              have s0 := (blk_cell Hb5.out 0).trans rfl
              have s1 := (blk_cell Hb5.out 1).trans rfl
              have s2 := (blk_cell Hb5.out 2).trans rfl
              have s3 := (blk_cell Hb5.out 3).trans rfl
              have s4 := (blk_cell Hb5.out 4).trans rfl
              have s5 := (blk_cell Hb5.out 5).trans rfl
              clear ho2 ha2 hbb1 hbb5 hkk
              (try simp only [PU])
              )
           | (go_at_call 17; go_must (refine (Hrun.out _ HK.out).mono ?_; rintro e wd ⟨rfl, hk2⟩)
              have hbb1 := hk2.blk Hb1.out id
              have hbb5 := hk2.blk Hb5.out id
              have hkk := HK.out.trans hk2 (fun _ _ h => h)
              have HO := Lib.hid (HO.out.keep hk2 (fun _ _ => id))
              have Hb5 := Lib.hid hbb5
              clear v0 v1 v2 v3 v4 v5 s0 s1 s2 s3 s4 s5
              have HK := Lib.hid (show Keeps Nob W _ from hkk)
              have Hb1 := Lib.hid hbb1
              (try have kc0 := (HW.out.trans HK.out (fun _ _ h => h)).cell Hkcell.out id)
              have v0 := (blk_cell Hb1.out 0).trans rfl
              have v1 := (blk_cell Hb1.out 1).trans rfl
              have v2 := (blk_cell Hb1.out 2).trans rfl
              have v3 := (blk_cell Hb1.out 3).trans rfl
              have v4 := (blk_cell Hb1.out 4).trans rfl
              have v5 := (blk_cell Hb1.out 5).trans rfl
              have s0 := (blk_cell Hb5.out 0).trans rfl
              have s1 := (blk_cell Hb5.out 1).trans rfl
              have s2 := (blk_cell Hb5.out 2).trans rfl
              have s3 := (blk_cell Hb5.out 3).trans rfl
              have s4 := (blk_cell Hb5.out 4).trans rfl
              have s5 := (blk_cell Hb5.out 5).trans rfl
              clear hk2 hbb1 hbb5 hkk
              (try simp only [PU])
              )
           | ((with_reducible refine at_dst (N := 66) rfl ?_); go_must (refine ev_app_str rfl rfl byteT38 Tryd.underlying9 (base := W.heap.size) rfl HO.out (st := mkB tx) rfl (by rw [show bl (mkB tx) = tx from rfl]; have := Hol.out; have := Htb.out; omega) HK.out.size ?_; rw [show bl (mkB tx) = tx from rfl]; intro v' wc ho2 ha2; obtain ⟨out3, hq3⟩ : ∃ x, out ++ tx = x := ⟨_, rfl⟩; rw [hq3] at ho2; obtain ⟨nA, nc, hv'⟩ := ho2.slice; subst hv')
              have Hq3 := Lib.hid hq3
              clear hq3
              have hbb1 := ha2.keep.blk Hb1.out (own_ne HO.out (by first | exact Hb1.out) (by decide))
              have hbb5 := ha2.keep.blk Hb5.out (own_ne HO.out Hb5.out (by decide))
              have hkk := HK.out.trans ha2.keep (fun i hi e => by have := (OwnB.lt HO.out i e.symm).1; omega)
              have HO := Lib.hid ho2
              have Hb5 := Lib.hid hbb5
              clear v0 v1 v2 v3 v4 v5 s0 s1 s2 s3 s4 s5
              have HK := Lib.hid (show Keeps Nob W _ from hkk)
              have Hb1 := Lib.hid hbb1
              (try have kc0 := (HW.out.trans HK.out (fun _ _ h => h)).cell Hkcell.out id)
              have v0 := (blk_cell Hb1.out 0).trans rfl
              have v1 := (blk_cell Hb1.out 1).trans rfl
              have v2 := (blk_cell Hb1.out 2).trans rfl
              have v3 := (blk_cell Hb1.out 3).trans rfl
              have v4 := (blk_cell Hb1.out 4).trans rfl
              have v5 := (blk_cell Hb1.out 5).trans rfl
              have s0 := (blk_cell Hb5.out 0).trans rfl
              have s1 := (blk_cell Hb5.out 1).trans rfl
              have s2 := (blk_cell Hb5.out 2).trans rfl
              have s3 := (blk_cell Hb5.out 3).trans rfl
              have s4 := (blk_cell Hb5.out 4).trans rfl
              have s5 := (blk_cell Hb5.out 5).trans rfl
              clear ho2 ha2 hbb1 hbb5 hkk
              (try simp only [PU])
              )
          )
          go_roundg (nv - i - 1)
          case measure => omega
          case rel => exact ⟨i + 1, nA, nc, out3, by first | rfl | (congr 1), rfl, by omega, Hb1, HO, HK, Lib.hid (by rw [HN.out, Hparts.out, ← Hq3.out] <;> simp only [List.append_assoc])⟩
        · have HN := Lib.hid (show [91] ++ joinC ((textL vs).take (i + 1)) = out ++ [44] ++ PSi by rw [Hjt.out, if_neg hi0, HE.out]; simp)
          have hi0i : (0 : Int) < (i : Int) := by omega
          go_wp2_with (first
           | ((with_reducible refine at_dst (N := 7) rfl ?_); go_must (refine ev_alloc rfl rfl zero25 rfl ?_; intro g5 w2 hg5 hl5 hb5 hk2)
              have Hb5 := Lib.hid hb5
              have Hg5 := Lib.hid (show W.heap.size ≤ g5 ∧ g1 < g5 from ⟨Nat.le_trans HK.out.size hg5, Nat.lt_of_lt_of_le (blk_lt Hb1.out) hg5⟩)
              have HO := Lib.hid (HO.out.keep hk2 (fun _ _ => id))
              have Hb1 := Lib.hid (hk2.blk Hb1.out id)
              have HK := Lib.hid (HK.out.trans hk2 (fun _ _ h => h))
              clear hb5 hk2 hg5 hl5
              (try simp only [PU]))
           | ((with_reducible refine at_store (t := 25) (p := 7) rfl ?_); go_must (refine ev_store (cs' := #[.int .i64 y0, .bool y1, .int .i64 y2, .string y3, .slice yA yn yc, .slice yB ym yd]) rfl rfl rfl rfl rfl rfl HI.out.1 HI.out.2 rfl Hb5.out (Nat.le_of_ble_eq_true rfl) rfl ?_; intro w3 hb3 hk3)
              have hbb1 := hk3.blk Hb1.out (fun e : g1 = g5 => by have := Hg5.out; omega)
              have HO := Lib.hid (HO.out.keep hk3 (fun k hk e => own_ne HO.out Hb5.out (by decide) (by rw [hk, e])))
              have hkk := HK.out.trans hk3 (fun i hi e => by have := Hg5.out; omega)
              have Hb5 := Lib.hid hb3
              (try clear v0 v1 v2 v3 v4 v5)
              have HK := Lib.hid (show Keeps Nob W _ from hkk)
              have Hb1 := Lib.hid hbb1
              (try have kc0 := (HW.out.trans HK.out (fun _ _ h => h)).cell Hkcell.out id)
              have v0 := (blk_cell Hb1.out 0).trans rfl
              have v1 := (blk_cell Hb1.out 1).trans rfl
              have v2 := (blk_cell Hb1.out 2).trans rfl
              have v3 := (blk_cell Hb1.out 3).trans rfl
              have v4 := (blk_cell Hb1.out 4).trans rfl
              have v5 := (blk_cell Hb1.out 5).trans rfl
              have s0 := (blk_cell Hb5.out 0).trans rfl
              have s1 := (blk_cell Hb5.out 1).trans rfl
              have s2 := (blk_cell Hb5.out 2).trans rfl
              have s3 := (blk_cell Hb5.out 3).trans rfl
              have s4 := (blk_cell Hb5.out 4).trans rfl
              have s5 := (blk_cell Hb5.out 5).trans rfl
              clear hb3 hk3 hbb1 hkk
              (try simp only [PU]))
           | ((with_reducible refine at_dst (N := 42) rfl ?_); go_must (refine ev_slice (cs := #[.int .u8 44]) (t := 5) (n := 1) (c := 1) rfl (by first | (go_simp; done) | (go_simp; rfl)) ?_; intro gb wb hgb hlb hbb hk2)
              have Hbb := Lib.hid hbb
              clear hbb hgb hlb
              have hbb1 := hk2.blk Hb1.out id
              have hbb5 := hk2.blk Hb5.out id
              have hkk := HK.out.trans hk2 (fun _ _ h => h)
              have HO := Lib.hid (HO.out.keep hk2 (fun _ _ => id))
              have Hb5 := Lib.hid hbb5
              clear v0 v1 v2 v3 v4 v5 s0 s1 s2 s3 s4 s5
              have HK := Lib.hid (show Keeps Nob W _ from hkk)
              have Hb1 := Lib.hid hbb1
              (try have kc0 := (HW.out.trans HK.out (fun _ _ h => h)).cell Hkcell.out id)
              have v0 := (blk_cell Hb1.out 0).trans rfl
              have v1 := (blk_cell Hb1.out 1).trans rfl
              have v2 := (blk_cell Hb1.out 2).trans rfl
              have v3 := (blk_cell Hb1.out 3).trans rfl
              have v4 := (blk_cell Hb1.out 4).trans rfl
              have v5 := (blk_cell Hb1.out 5).trans rfl
              have s0 := (blk_cell Hb5.out 0).trans rfl
              have s1 := (blk_cell Hb5.out 1).trans rfl
              have s2 := (blk_cell Hb5.out 2).trans rfl
              have s3 := (blk_cell Hb5.out 3).trans rfl
              have s4 := (blk_cell Hb5.out 4).trans rfl
              have s5 := (blk_cell Hb5.out 5).trans rfl
              clear hk2 hbb1 hbb5 hkk
              (try simp only [PU])
              )
           | ((with_reducible refine at_dst (N := 43) rfl ?_); go_must (refine ev_app_sl rfl rfl byteT38 (base := W.heap.size) rfl HO.out rfl (news := [44]) rfl (fun _ => ⟨_, rfl, news_made Hbb.out rfl⟩) (by have := Hol.out; omega) HK.out.size ?_; intro v' wc ho2 ha2; obtain ⟨out1, hq1⟩ : ∃ x, out ++ [44] = x := ⟨_, rfl⟩; rw [hq1] at ho2; obtain ⟨nA, nc, hv'⟩ := ho2.slice; subst hv')
              have Hq1 := Lib.hid hq1
              have Hol1 := Lib.hid (show out1.length ≤ 600000000000 by rw [← hq1, List.length_append]; have := Hol.out; simp only [List.length_cons, List.length_nil]; omega)
              clear hq1
              have hbb1 := ha2.keep.blk Hb1.out (own_ne HO.out (by first | exact Hb1.out) (by decide))
              have hbb5 := ha2.keep.blk Hb5.out (own_ne HO.out Hb5.out (by decide))
              have hkk := HK.out.trans ha2.keep (fun i hi e => by have := (OwnB.lt HO.out i e.symm).1; omega)
              have HO := Lib.hid ho2
              have Hb5 := Lib.hid hbb5
              clear v0 v1 v2 v3 v4 v5 s0 s1 s2 s3 s4 s5
              have HK := Lib.hid (show Keeps Nob W _ from hkk)
              have Hb1 := Lib.hid hbb1
              (try have kc0 := (HW.out.trans HK.out (fun _ _ h => h)).cell Hkcell.out id)
              have v0 := (blk_cell Hb1.out 0).trans rfl
              have v1 := (blk_cell Hb1.out 1).trans rfl
              have v2 := (blk_cell Hb1.out 2).trans rfl
              have v3 := (blk_cell Hb1.out 3).trans rfl
              have v4 := (blk_cell Hb1.out 4).trans rfl
              have v5 := (blk_cell Hb1.out 5).trans rfl
              have s0 := (blk_cell Hb5.out 0).trans rfl
              have s1 := (blk_cell Hb5.out 1).trans rfl
              have s2 := (blk_cell Hb5.out 2).trans rfl
              have s3 := (blk_cell Hb5.out 3).trans rfl
              have s4 := (blk_cell Hb5.out 4).trans rfl
              have s5 := (blk_cell Hb5.out 5).trans rfl
              clear ho2 ha2 hbb1 hbb5 hkk
              (try simp only [PU])
              )
           | (go_at_call 43; go_must (refine (H43.out _).mono ?_; rintro e wd ⟨rfl, hk2⟩)
              have hbb1 := hk2.blk Hb1.out id
              have hbb5 := hk2.blk Hb5.out id
              have hkk := HK.out.trans hk2 (fun _ _ h => h)
              have HO := Lib.hid (HO.out.keep hk2 (fun _ _ => id))
              have Hb5 := Lib.hid hbb5
              clear v0 v1 v2 v3 v4 v5 s0 s1 s2 s3 s4 s5
              have HK := Lib.hid (show Keeps Nob W _ from hkk)
              have Hb1 := Lib.hid hbb1
              (try have kc0 := (HW.out.trans HK.out (fun _ _ h => h)).cell Hkcell.out id)
              have v0 := (blk_cell Hb1.out 0).trans rfl
              have v1 := (blk_cell Hb1.out 1).trans rfl
              have v2 := (blk_cell Hb1.out 2).trans rfl
              have v3 := (blk_cell Hb1.out 3).trans rfl
              have v4 := (blk_cell Hb1.out 4).trans rfl
              have v5 := (blk_cell Hb1.out 5).trans rfl
              have s0 := (blk_cell Hb5.out 0).trans rfl
              have s1 := (blk_cell Hb5.out 1).trans rfl
              have s2 := (blk_cell Hb5.out 2).trans rfl
              have s3 := (blk_cell Hb5.out 3).trans rfl
              have s4 := (blk_cell Hb5.out 4).trans rfl
              have s5 := (blk_cell Hb5.out 5).trans rfl
              clear hk2 hbb1 hbb5 hkk
              (try simp only [PU])
              )
           | ((with_reducible refine at_dst (N := 62) rfl ?_); go_must (refine ev_app_str rfl rfl byteT38 Tryd.underlying9 (base := W.heap.size) rfl HO.out (st := qk ++ ⟨#[58]⟩) rfl (by rw [Hqc.out]; have := Hol1.out; have := Hqb.out; simp only [List.length_append, List.length_cons, List.length_nil]; omega) HK.out.size ?_; rw [Hqc.out]; intro v' wc ho2 ha2; obtain ⟨out2, hq2⟩ : ∃ x, out1 ++ (quoteB (bl key) ++ [58]) = x := ⟨_, rfl⟩; rw [hq2] at ho2; obtain ⟨nA, nc, hv'⟩ := ho2.slice; subst hv')
              have Hq2 := Lib.hid hq2
              have Hol2 := Lib.hid (show out2.length ≤ 2000000000000 by rw [← hq2, List.length_append]; have := Hol1.out; have := Hqb.out; simp only [List.length_append, List.length_cons, List.length_nil]; omega)
              clear hq2
              have hbb1 := ha2.keep.blk Hb1.out (own_ne HO.out (by first | exact Hb1.out) (by decide))
              have hbb5 := ha2.keep.blk Hb5.out (own_ne HO.out Hb5.out (by decide))
              have hkk := HK.out.trans ha2.keep (fun i hi e => by have := (OwnB.lt HO.out i e.symm).1; omega)
              have HO := Lib.hid ho2
              have Hb5 := Lib.hid hbb5
              clear v0 v1 v2 v3 v4 v5 s0 s1 s2 s3 s4 s5
              have HK := Lib.hid (show Keeps Nob W _ from hkk)
              have Hb1 := Lib.hid hbb1
              (try have kc0 := (HW.out.trans HK.out (fun _ _ h => h)).cell Hkcell.out id)
              have v0 := (blk_cell Hb1.out 0).trans rfl
              have v1 := (blk_cell Hb1.out 1).trans rfl
              have v2 := (blk_cell Hb1.out 2).trans rfl
              have v3 := (blk_cell Hb1.out 3).trans rfl
              have v4 := (blk_cell Hb1.out 4).trans rfl
              have v5 := (blk_cell Hb1.out 5).trans rfl
              have s0 := (blk_cell Hb5.out 0).trans rfl
              have s1 := (blk_cell Hb5.out 1).trans rfl
              have s2 := (blk_cell Hb5.out 2).trans rfl
              have s3 := (blk_cell Hb5.out 3).trans rfl
              have s4 := (blk_cell Hb5.out 4).trans rfl
              have s5 := (blk_cell Hb5.out 5).trans rfl
              clear ho2 ha2 hbb1 hbb5 hkk
              (try simp only [PU])
              )
           | (go_at_call 17; go_must (refine (Hrun.out _ HK.out).mono ?_; rintro e wd ⟨rfl, hk2⟩)
              have hbb1 := hk2.blk Hb1.out id
              have hbb5 := hk2.blk Hb5.out id
              have hkk := HK.out.trans hk2 (fun _ _ h => h)
              have HO := Lib.hid (HO.out.keep hk2 (fun _ _ => id))
              have Hb5 := Lib.hid hbb5
              clear v0 v1 v2 v3 v4 v5 s0 s1 s2 s3 s4 s5
              have HK := Lib.hid (show Keeps Nob W _ from hkk)
              have Hb1 := Lib.hid hbb1
              (try have kc0 := (HW.out.trans HK.out (fun _ _ h => h)).cell Hkcell.out id)
              have v0 := (blk_cell Hb1.out 0).trans rfl
              have v1 := (blk_cell Hb1.out 1).trans rfl
              have v2 := (blk_cell Hb1.out 2).trans rfl
              have v3 := (blk_cell Hb1.out 3).trans rfl
              have v4 := (blk_cell Hb1.out 4).trans rfl
              have v5 := (blk_cell Hb1.out 5).trans rfl
              have s0 := (blk_cell Hb5.out 0).trans rfl
              have s1 := (blk_cell Hb5.out 1).trans rfl
              have s2 := (blk_cell Hb5.out 2).trans rfl
              have s3 := (blk_cell Hb5.out 3).trans rfl
              have s4 := (blk_cell Hb5.out 4).trans rfl
              have s5 := (blk_cell Hb5.out 5).trans rfl
              clear hk2 hbb1 hbb5 hkk
              (try simp only [PU])
              )
           | ((with_reducible refine at_dst (N := 66) rfl ?_); go_must (refine ev_app_str rfl rfl byteT38 Tryd.underlying9 (base := W.heap.size) rfl HO.out (st := mkB tx) rfl (by rw [show bl (mkB tx) = tx from rfl]; have := Hol1.out; have := Htb.out; omega) HK.out.size ?_; rw [show bl (mkB tx) = tx from rfl]; intro v' wc ho2 ha2; obtain ⟨out3, hq3⟩ : ∃ x, out1 ++ tx = x := ⟨_, rfl⟩; rw [hq3] at ho2; obtain ⟨nA, nc, hv'⟩ := ho2.slice; subst hv')
              have Hq3 := Lib.hid hq3
              clear hq3
              have hbb1 := ha2.keep.blk Hb1.out (own_ne HO.out (by first | exact Hb1.out) (by decide))
              have hbb5 := ha2.keep.blk Hb5.out (own_ne HO.out Hb5.out (by decide))
              have hkk := HK.out.trans ha2.keep (fun i hi e => by have := (OwnB.lt HO.out i e.symm).1; omega)
              have HO := Lib.hid ho2
              have Hb5 := Lib.hid hbb5
              clear v0 v1 v2 v3 v4 v5 s0 s1 s2 s3 s4 s5
              have HK := Lib.hid (show Keeps Nob W _ from hkk)
              have Hb1 := Lib.hid hbb1
              (try have kc0 := (HW.out.trans HK.out (fun _ _ h => h)).cell Hkcell.out id)
              have v0 := (blk_cell Hb1.out 0).trans rfl
              have v1 := (blk_cell Hb1.out 1).trans rfl
              have v2 := (blk_cell Hb1.out 2).trans rfl
              have v3 := (blk_cell Hb1.out 3).trans rfl
              have v4 := (blk_cell Hb1.out 4).trans rfl
              have v5 := (blk_cell Hb1.out 5).trans rfl
              have s0 := (blk_cell Hb5.out 0).trans rfl
              have s1 := (blk_cell Hb5.out 1).trans rfl
              have s2 := (blk_cell Hb5.out 2).trans rfl
              have s3 := (blk_cell Hb5.out 3).trans rfl
              have s4 := (blk_cell Hb5.out 4).trans rfl
              have s5 := (blk_cell Hb5.out 5).trans rfl
              clear ho2 ha2 hbb1 hbb5 hkk
              (try simp only [PU])
              )
          )
          go_roundg (nv - i - 1)
          case measure => omega
          case rel => exact ⟨i + 1, nA, nc, out3, by first | rfl | (congr 1), rfl, by omega, Hb1, HO, HK, Lib.hid (by rw [HN.out, Hparts.out, ← Hq3.out, ← Hq1.out] <;> simp only [List.append_assoc])⟩
      · have hi' : i = nv := by omega
        subst hi'
        have HR := Lib.hid (show S = out ++ [93] by
         rw [HS.out, HE.out, List.take_of_length_le (by rw [Hpl.out]; exact Nat.le_refl _)])
        go_wp2_with (first
         | ((with_reducible refine at_dst (N := 70) rfl ?_); go_must (refine ev_app_str rfl rfl byteT38 Tryd.underlying9 (base := W.heap.size) rfl HO.out (st := ⟨#[93]⟩) rfl (by have := Hol.out; show out.length + 1 ≤ _; omega) HK.out.size ?_; intro v' wc ho2 ha2; obtain ⟨nA, nc, hv'⟩ := ho2.slice; subst hv')
            have HO2 := Lib.hid (show OwnB wc W.heap.size (.slice nA (out ++ [93]).length nc) (out ++ [93]) from ho2)
            have HKz := Lib.hid (HK.out.trans ha2.keep (fun i hi e => by have := (HO.out.lt i e.symm).1; omega))
            clear ho2 ha2
            (try simp only [PU]))
         | ((with_reducible refine at_dst (N := 71) rfl ?_); go_must (refine ev_conv_bs rfl rfl Tryd.underlying38 Tryd.underlying5 Tryd.underlying9 (bs := out ++ [93]) rfl HO2.out.bytes ?_); (try simp only [PU]))
        )
        go_ret
        rw [HR.out]
        exact ⟨rfl, HKz.out⟩
   · subst e
     have hll : ks.length = vs.length := Hlen.out rfl
     have HS := Lib.hid (show S = [123] ++ joinC (pairT ks vs) ++ [125] by rw [← hS]; rfl)
     have HP := Lib.hid (show lens (pairT ks vs) + (pairT ks vs).length ≤ 400000000000 from HP6.out hll)
     have Hpl := Lib.hid (show (pairT ks vs).length = nv by rw [pairT_length hll]; exact Hnv.out)
     have Hget := Lib.hid (show ∀ i, i < nv → (pairT ks vs).getD i [] = quoteB (bl (ks.getD i ByteArray.empty)) ++ [58] ++ textJ (vs.getD i default) from fun i hi => pairT_get (by rw [Hnv.out]; exact hi) hll)
     have hnn : nk = nv := by rw [← Hnk.out, ← Hnv.out]; exact hll
     have Hnn := Lib.hid hnn
     clear hS hll hnn
     go_enter Tryd.func17, Tryd.ntmps17
     go_wp2_with (first
      | ((with_reducible refine at_dst (N := 1) rfl ?_); go_must (refine ev_box (cs := #[.int .i64 6, .bool b, .int .i64 n, .string t, .slice kA nk kc, .slice A nv c]) rfl rfl rfl ?_; intro g1 w1 hg1 hl1 hb1 hk1)
         have Hb1 := Lib.hid hb1
         have HK := Lib.hid hk1
         have Hg1 := Lib.hid hg1
         have v0 := (blk_cell Hb1.out 0).trans rfl
         have v1 := (blk_cell Hb1.out 1).trans rfl
         have v2 := (blk_cell Hb1.out 2).trans rfl
         have v3 := (blk_cell Hb1.out 3).trans rfl
         have v4 := (blk_cell Hb1.out 4).trans rfl
         have v5 := (blk_cell Hb1.out 5).trans rfl
         clear hb1 hk1 hg1 hl1
         (try simp only [PU]))
      | ((with_reducible refine at_dst (N := 30) rfl ?_); go_must (refine ev_conv_sb rfl rfl Tryd.underlying9 byteT38 Tryd.underlying5 rfl (base := W.heap.size) HK.out.size (by decide) ?_; intro v' wc ho hk2 hnew; obtain ⟨oA, oc, hv'⟩ := ho.slice; subst hv')
         have HO := Lib.hid (show OwnB wc W.heap.size (.slice oA ([123] : Bs).length oc) [123] from ho)
         have Hb1 := Lib.hid (hk2.blk Hb1.out id)
         have HK := Lib.hid (HK.out.trans hk2 (fun _ _ h => h))
         clear ho hk2 hnew v0 v1 v2 v3 v4 v5
         have v0 := (blk_cell Hb1.out 0).trans rfl
         have v1 := (blk_cell Hb1.out 1).trans rfl
         have v2 := (blk_cell Hb1.out 2).trans rfl
         have v3 := (blk_cell Hb1.out 3).trans rfl
         have v4 := (blk_cell Hb1.out 4).trans rfl
         have v5 := (blk_cell Hb1.out 5).trans rfl
         (try simp only [PU]))
     )
     go_loopg [34, 5] nv (fun K' iv ov wr => ∃ (i : Nat) (oA : Option Addr) (oc : Nat) (out : Bs), iv = .int .i64 i ∧ ov = .slice oA out.length oc ∧ i + K' = nv ∧ Hid (wr.heap[g1]? = some (.cells #[.int .i64 6, .bool b, .int .i64 n, .string t, .slice kA nk kc, .slice A nv c] 25 (0, 0))) ∧ Hid (OwnB wr W.heap.size (.slice oA out.length oc) out) ∧ Hid (Keeps Nob W wr) ∧ Hid (out = [123] ++ joinC ((pairT ks vs).take i)))
     case atStart => exact ⟨0, oA, oc, [123], rfl, rfl, by omega, Hb1, HO, HK, Lib.hid (by simp [joinC])⟩
     case round =>
      obtain ⟨i, oA, oc, out, rfl, rfl, hiK, Hb1, HO, HK, HE⟩ := hrel
      have v0 := (blk_cell Hb1.out 0).trans rfl
      have v1 := (blk_cell Hb1.out 1).trans rfl
      have v2 := (blk_cell Hb1.out 2).trans rfl
      have v3 := (blk_cell Hb1.out 3).trans rfl
      have v4 := (blk_cell Hb1.out 4).trans rfl
      have v5 := (blk_cell Hb1.out 5).trans rfl
      have Hol := Lib.hid (show out.length ≤ 500000000000 by rw [HE.out, List.length_append]; have := (parts_bound HP.out i).1; simp only [List.length_cons, List.length_nil]; omega)
      by_cases hlt : i < nv
      · obtain ⟨PSi, hPSi⟩ : ∃ x, (pairT ks vs).getD i [] = x := ⟨_, rfl⟩
        obtain ⟨tx, htx⟩ : ∃ x, textJ (vs.getD i default) = x := ⟨_, rfl⟩
        have hjt := joinC_take (ps := (pairT ks vs)) (k := i) (by rw [Hpl.out]; exact hlt)
        rw [hPSi] at hjt
        obtain ⟨b2, o2, hkA, -, hkcell⟩ := Hkx.out i (by rw [Hnk.out, Hnn.out]; exact hlt)
        subst hkA
        obtain ⟨key, hkey⟩ : ∃ x : ByteArray, ks.getD i ByteArray.empty = x := ⟨_, rfl⟩
        rw [hkey] at hkcell
        have Hkcell := Lib.hid hkcell
        have hikn : (i : Int) < (nk : Int) := by have := Hnn.out; omega
        have Hkb := Lib.hid (show key.size ≤ 1000000000000 by
         have h1 := Hbs.out
         have h2 : (ks.getD i ByteArray.empty).size ≤ (ks.map ByteArray.size).sum := by
          have hi' : i < ks.length := by rw [Hnk.out, Hnn.out]; exact hlt
          have h3 := sum_take ks i hi'
          have h4 := sum_take_le ks (i + 1)
          omega
         rw [hkey] at h2
         omega)
        obtain ⟨qk, hqk⟩ : ∃ x, mkB (quoteB (bl key)) = x := ⟨_, rfl⟩
        have Hqc := Lib.hid (show bl (qk ++ ⟨#[58]⟩) = quoteB (bl key) ++ [58] by rw [← hqk]; simp [bl, mkB])
        have h43 := fun W => quoted43 (W := W) (T := key) Hkb.out
        rw [hqk] at h43
        have H43 := Lib.hid h43
        have Hparts := Lib.hid (show PSi = quoteB (bl key) ++ [58] ++ tx by rw [← hPSi, Hget.out i hlt, htx, hkey])
        have hpb0 : (quoteB (bl key) ++ [58] ++ tx).length ≤ 400000000000 := by have h1 := (parts_bound HP.out i).2; have h2 := Hparts.out; rw [hPSi, h2] at h1; exact h1
        have Hqb := Lib.hid (show (quoteB (bl key)).length + 1 ≤ 400000000000 by simp only [List.length_append, List.length_cons, List.length_nil] at hpb0; omega)
        have Hpb := Lib.hid (show tx.length ≤ 400000000000 by simp only [List.length_append, List.length_cons, List.length_nil] at hpb0; omega)
        have hqks : qk.size ≤ 400000000000 := by have h1 := Hqb.out; rw [← hqk]; show (quoteB (bl key)).length ≤ _; omega
        have hqki : (qk.size : Int) ≤ 400000000000 := by omega
        clear hkcell hkey hpb0 hqk h43
        have Hjt := Lib.hid hjt
        have Htb := Lib.hid (show tx.length ≤ 400000000000 from Hpb.out)
        obtain ⟨b', o, rfl, -, h6⟩ := HA.out i (by rw [Hnv.out]; exact hlt)
        obtain ⟨⟨e0, e1, e2⟩, e3, e4, e5⟩ := h6.keep (HW.out.trans HK.out (fun _ _ h => h)) id
        have hsix := (HV.out i (by rw [Hnv.out]; exact hlt)).six
        have hrun := IH.out i (by rw [Hnv.out]; exact hlt)
        rw [htx] at hrun
        have hsv : sizeJ (vs.getD i default) ≤ 10000000000 := by have h1 := size_get (vs := vs) (i := i) (by rw [Hnv.out]; exact hlt); have := Hbs.out; omega
        have hfv := formed_get (vs := vs) (i := i) Hfl.out (by rw [Hnv.out]; exact hlt)
        have Hrun := Lib.hid (fun W' (hk : Keeps Nob W W') => hrun W' (HW.out.trans hk (fun _ _ h => h)) (tab_after HT.out hk) hfv hsv)
        generalize u i 0 = x0 at *
        generalize u i 1 = x1 at *
        generalize u i 2 = x2 at *
        generalize u i 3 = x3 at *
        generalize u i 4 = x4 at *
        generalize u i 5 = x5 at *
        obtain ⟨y0, y1, y2, y3, yA, yn, yc, yB, ym, yd, ⟨rfl, rfl, rfl⟩, rfl, rfl, rfl⟩ := hsix
        clear h6 hjt hPSi htx hrun hsv hfv
        by_cases hi0 : i = 0
        · have HN := Lib.hid (show [123] ++ joinC ((pairT ks vs).take (i + 1)) = out ++ PSi by rw [Hjt.out, if_pos hi0, HE.out, hi0]; simp [joinC])
          have hi0i : ¬ (0 : Int) < (i : Int) := by omega
          clear hi0
          go_wp2_with (first
           | ((with_reducible refine at_dst (N := 7) rfl ?_); go_must (refine ev_alloc rfl rfl zero25 rfl ?_; intro g5 w2 hg5 hl5 hb5 hk2)
              have Hb5 := Lib.hid hb5
              have Hg5 := Lib.hid (show W.heap.size ≤ g5 ∧ g1 < g5 from ⟨Nat.le_trans HK.out.size hg5, Nat.lt_of_lt_of_le (blk_lt Hb1.out) hg5⟩)
              have HO := Lib.hid (HO.out.keep hk2 (fun _ _ => id))
              have Hb1 := Lib.hid (hk2.blk Hb1.out id)
              have HK := Lib.hid (HK.out.trans hk2 (fun _ _ h => h))
              clear hb5 hk2 hg5 hl5
              (try simp only [PU]))
           | ((with_reducible refine at_store (t := 25) (p := 7) rfl ?_); go_must (refine ev_store (cs' := #[.int .i64 y0, .bool y1, .int .i64 y2, .string y3, .slice yA yn yc, .slice yB ym yd]) rfl rfl rfl rfl rfl rfl HI.out.1 HI.out.2 rfl Hb5.out (Nat.le_of_ble_eq_true rfl) rfl ?_; intro w3 hb3 hk3)
              have hbb1 := hk3.blk Hb1.out (fun e : g1 = g5 => by have := Hg5.out; omega)
              have HO := Lib.hid (HO.out.keep hk3 (fun k hk e => own_ne HO.out Hb5.out (by decide) (by rw [hk, e])))
              have hkk := HK.out.trans hk3 (fun i hi e => by have := Hg5.out; omega)
              have Hb5 := Lib.hid hb3
              (try clear v0 v1 v2 v3 v4 v5)
              have HK := Lib.hid (show Keeps Nob W _ from hkk)
              have Hb1 := Lib.hid hbb1
              (try have kc0 := (HW.out.trans HK.out (fun _ _ h => h)).cell Hkcell.out id)
              have v0 := (blk_cell Hb1.out 0).trans rfl
              have v1 := (blk_cell Hb1.out 1).trans rfl
              have v2 := (blk_cell Hb1.out 2).trans rfl
              have v3 := (blk_cell Hb1.out 3).trans rfl
              have v4 := (blk_cell Hb1.out 4).trans rfl
              have v5 := (blk_cell Hb1.out 5).trans rfl
              have s0 := (blk_cell Hb5.out 0).trans rfl
              have s1 := (blk_cell Hb5.out 1).trans rfl
              have s2 := (blk_cell Hb5.out 2).trans rfl
              have s3 := (blk_cell Hb5.out 3).trans rfl
              have s4 := (blk_cell Hb5.out 4).trans rfl
              have s5 := (blk_cell Hb5.out 5).trans rfl
              clear hb3 hk3 hbb1 hkk
              (try simp only [PU]))
           | ((with_reducible refine at_dst (N := 42) rfl ?_); go_must (refine ev_slice (cs := #[.int .u8 44]) (t := 5) (n := 1) (c := 1) rfl (by first | (go_simp; done) | (go_simp; rfl)) ?_; intro gb wb hgb hlb hbb hk2)
              have Hbb := Lib.hid hbb
              clear hbb hgb hlb
              have hbb1 := hk2.blk Hb1.out id
              have hbb5 := hk2.blk Hb5.out id
              have hkk := HK.out.trans hk2 (fun _ _ h => h)
              have HO := Lib.hid (HO.out.keep hk2 (fun _ _ => id))
              have Hb5 := Lib.hid hbb5
              clear v0 v1 v2 v3 v4 v5 s0 s1 s2 s3 s4 s5
              have HK := Lib.hid (show Keeps Nob W _ from hkk)
              have Hb1 := Lib.hid hbb1
              (try have kc0 := (HW.out.trans HK.out (fun _ _ h => h)).cell Hkcell.out id)
              have v0 := (blk_cell Hb1.out 0).trans rfl
              have v1 := (blk_cell Hb1.out 1).trans rfl
              have v2 := (blk_cell Hb1.out 2).trans rfl
              have v3 := (blk_cell Hb1.out 3).trans rfl
              have v4 := (blk_cell Hb1.out 4).trans rfl
              have v5 := (blk_cell Hb1.out 5).trans rfl
              have s0 := (blk_cell Hb5.out 0).trans rfl
              have s1 := (blk_cell Hb5.out 1).trans rfl
              have s2 := (blk_cell Hb5.out 2).trans rfl
              have s3 := (blk_cell Hb5.out 3).trans rfl
              have s4 := (blk_cell Hb5.out 4).trans rfl
              have s5 := (blk_cell Hb5.out 5).trans rfl
              clear hk2 hbb1 hbb5 hkk
              (try simp only [PU])
              )
           | ((with_reducible refine at_dst (N := 43) rfl ?_); go_must (refine ev_app_sl rfl rfl byteT38 (base := W.heap.size) rfl HO.out rfl (news := [44]) rfl (fun _ => ⟨_, rfl, news_made Hbb.out rfl⟩) (by have := Hol.out; omega) HK.out.size ?_; intro v' wc ho2 ha2; obtain ⟨out1, hq1⟩ : ∃ x, out ++ [44] = x := ⟨_, rfl⟩; rw [hq1] at ho2; obtain ⟨nA, nc, hv'⟩ := ho2.slice; subst hv')
              have Hq1 := Lib.hid hq1
              have Hol1 := Lib.hid (show out1.length ≤ 600000000000 by rw [← hq1, List.length_append]; have := Hol.out; simp only [List.length_cons, List.length_nil]; omega)
              clear hq1
              have hbb1 := ha2.keep.blk Hb1.out (own_ne HO.out (by first | exact Hb1.out) (by decide))
              have hbb5 := ha2.keep.blk Hb5.out (own_ne HO.out Hb5.out (by decide))
              have hkk := HK.out.trans ha2.keep (fun i hi e => by have := (OwnB.lt HO.out i e.symm).1; omega)
              have HO := Lib.hid ho2
              have Hb5 := Lib.hid hbb5
              clear v0 v1 v2 v3 v4 v5 s0 s1 s2 s3 s4 s5
              have HK := Lib.hid (show Keeps Nob W _ from hkk)
              have Hb1 := Lib.hid hbb1
              (try have kc0 := (HW.out.trans HK.out (fun _ _ h => h)).cell Hkcell.out id)
              have v0 := (blk_cell Hb1.out 0).trans rfl
              have v1 := (blk_cell Hb1.out 1).trans rfl
              have v2 := (blk_cell Hb1.out 2).trans rfl
              have v3 := (blk_cell Hb1.out 3).trans rfl
              have v4 := (blk_cell Hb1.out 4).trans rfl
              have v5 := (blk_cell Hb1.out 5).trans rfl
              have s0 := (blk_cell Hb5.out 0).trans rfl
              have s1 := (blk_cell Hb5.out 1).trans rfl
              have s2 := (blk_cell Hb5.out 2).trans rfl
              have s3 := (blk_cell Hb5.out 3).trans rfl
              have s4 := (blk_cell Hb5.out 4).trans rfl
              have s5 := (blk_cell Hb5.out 5).trans rfl
              clear ho2 ha2 hbb1 hbb5 hkk
              (try simp only [PU])
              )
           | (go_at_call 43; go_must (refine (H43.out _).mono ?_; rintro e wd ⟨rfl, hk2⟩)
              have hbb1 := hk2.blk Hb1.out id
              have hbb5 := hk2.blk Hb5.out id
              have hkk := HK.out.trans hk2 (fun _ _ h => h)
              have HO := Lib.hid (HO.out.keep hk2 (fun _ _ => id))
              have Hb5 := Lib.hid hbb5
              clear v0 v1 v2 v3 v4 v5 s0 s1 s2 s3 s4 s5
              have HK := Lib.hid (show Keeps Nob W _ from hkk)
              have Hb1 := Lib.hid hbb1
              (try have kc0 := (HW.out.trans HK.out (fun _ _ h => h)).cell Hkcell.out id)
              have v0 := (blk_cell Hb1.out 0).trans rfl
              have v1 := (blk_cell Hb1.out 1).trans rfl
              have v2 := (blk_cell Hb1.out 2).trans rfl
              have v3 := (blk_cell Hb1.out 3).trans rfl
              have v4 := (blk_cell Hb1.out 4).trans rfl
              have v5 := (blk_cell Hb1.out 5).trans rfl
              have s0 := (blk_cell Hb5.out 0).trans rfl
              have s1 := (blk_cell Hb5.out 1).trans rfl
              have s2 := (blk_cell Hb5.out 2).trans rfl
              have s3 := (blk_cell Hb5.out 3).trans rfl
              have s4 := (blk_cell Hb5.out 4).trans rfl
              have s5 := (blk_cell Hb5.out 5).trans rfl
              clear hk2 hbb1 hbb5 hkk
              (try simp only [PU])
              )
           | ((with_reducible refine at_dst (N := 62) rfl ?_); go_must (refine ev_app_str rfl rfl byteT38 Tryd.underlying9 (base := W.heap.size) rfl HO.out (st := qk ++ ⟨#[58]⟩) rfl (by rw [Hqc.out]; have := Hol.out; have := Hqb.out; simp only [List.length_append, List.length_cons, List.length_nil]; omega) HK.out.size ?_; rw [Hqc.out]; intro v' wc ho2 ha2; obtain ⟨out2, hq2⟩ : ∃ x, out ++ (quoteB (bl key) ++ [58]) = x := ⟨_, rfl⟩; rw [hq2] at ho2; obtain ⟨nA, nc, hv'⟩ := ho2.slice; subst hv')
              have Hq2 := Lib.hid hq2
              have Hol2 := Lib.hid (show out2.length ≤ 2000000000000 by rw [← hq2, List.length_append]; have := Hol.out; have := Hqb.out; simp only [List.length_append, List.length_cons, List.length_nil]; omega)
              clear hq2
              have hbb1 := ha2.keep.blk Hb1.out (own_ne HO.out (by first | exact Hb1.out) (by decide))
              have hbb5 := ha2.keep.blk Hb5.out (own_ne HO.out Hb5.out (by decide))
              have hkk := HK.out.trans ha2.keep (fun i hi e => by have := (OwnB.lt HO.out i e.symm).1; omega)
              have HO := Lib.hid ho2
              have Hb5 := Lib.hid hbb5
              clear v0 v1 v2 v3 v4 v5 s0 s1 s2 s3 s4 s5
              have HK := Lib.hid (show Keeps Nob W _ from hkk)
              have Hb1 := Lib.hid hbb1
              (try have kc0 := (HW.out.trans HK.out (fun _ _ h => h)).cell Hkcell.out id)
              have v0 := (blk_cell Hb1.out 0).trans rfl
              have v1 := (blk_cell Hb1.out 1).trans rfl
              have v2 := (blk_cell Hb1.out 2).trans rfl
              have v3 := (blk_cell Hb1.out 3).trans rfl
              have v4 := (blk_cell Hb1.out 4).trans rfl
              have v5 := (blk_cell Hb1.out 5).trans rfl
              have s0 := (blk_cell Hb5.out 0).trans rfl
              have s1 := (blk_cell Hb5.out 1).trans rfl
              have s2 := (blk_cell Hb5.out 2).trans rfl
              have s3 := (blk_cell Hb5.out 3).trans rfl
              have s4 := (blk_cell Hb5.out 4).trans rfl
              have s5 := (blk_cell Hb5.out 5).trans rfl
              clear ho2 ha2 hbb1 hbb5 hkk
              (try simp only [PU])
              )
           | (go_at_call 17; go_must (refine (Hrun.out _ HK.out).mono ?_; rintro e wd ⟨rfl, hk2⟩)
              have hbb1 := hk2.blk Hb1.out id
              have hbb5 := hk2.blk Hb5.out id
              have hkk := HK.out.trans hk2 (fun _ _ h => h)
              have HO := Lib.hid (HO.out.keep hk2 (fun _ _ => id))
              have Hb5 := Lib.hid hbb5
              clear v0 v1 v2 v3 v4 v5 s0 s1 s2 s3 s4 s5
              have HK := Lib.hid (show Keeps Nob W _ from hkk)
              have Hb1 := Lib.hid hbb1
              (try have kc0 := (HW.out.trans HK.out (fun _ _ h => h)).cell Hkcell.out id)
              have v0 := (blk_cell Hb1.out 0).trans rfl
              have v1 := (blk_cell Hb1.out 1).trans rfl
              have v2 := (blk_cell Hb1.out 2).trans rfl
              have v3 := (blk_cell Hb1.out 3).trans rfl
              have v4 := (blk_cell Hb1.out 4).trans rfl
              have v5 := (blk_cell Hb1.out 5).trans rfl
              have s0 := (blk_cell Hb5.out 0).trans rfl
              have s1 := (blk_cell Hb5.out 1).trans rfl
              have s2 := (blk_cell Hb5.out 2).trans rfl
              have s3 := (blk_cell Hb5.out 3).trans rfl
              have s4 := (blk_cell Hb5.out 4).trans rfl
              have s5 := (blk_cell Hb5.out 5).trans rfl
              clear hk2 hbb1 hbb5 hkk
              (try simp only [PU])
              )
           | ((with_reducible refine at_dst (N := 66) rfl ?_); go_must (refine ev_app_str rfl rfl byteT38 Tryd.underlying9 (base := W.heap.size) rfl HO.out (st := mkB tx) rfl (by rw [show bl (mkB tx) = tx from rfl]; have := Hol2.out; have := Htb.out; omega) HK.out.size ?_; rw [show bl (mkB tx) = tx from rfl]; intro v' wc ho2 ha2; obtain ⟨out3, hq3⟩ : ∃ x, out2 ++ tx = x := ⟨_, rfl⟩; rw [hq3] at ho2; obtain ⟨nA, nc, hv'⟩ := ho2.slice; subst hv')
              have Hq3 := Lib.hid hq3
              clear hq3
              have hbb1 := ha2.keep.blk Hb1.out (own_ne HO.out (by first | exact Hb1.out) (by decide))
              have hbb5 := ha2.keep.blk Hb5.out (own_ne HO.out Hb5.out (by decide))
              have hkk := HK.out.trans ha2.keep (fun i hi e => by have := (OwnB.lt HO.out i e.symm).1; omega)
              have HO := Lib.hid ho2
              have Hb5 := Lib.hid hbb5
              clear v0 v1 v2 v3 v4 v5 s0 s1 s2 s3 s4 s5
              have HK := Lib.hid (show Keeps Nob W _ from hkk)
              have Hb1 := Lib.hid hbb1
              (try have kc0 := (HW.out.trans HK.out (fun _ _ h => h)).cell Hkcell.out id)
              have v0 := (blk_cell Hb1.out 0).trans rfl
              have v1 := (blk_cell Hb1.out 1).trans rfl
              have v2 := (blk_cell Hb1.out 2).trans rfl
              have v3 := (blk_cell Hb1.out 3).trans rfl
              have v4 := (blk_cell Hb1.out 4).trans rfl
              have v5 := (blk_cell Hb1.out 5).trans rfl
              have s0 := (blk_cell Hb5.out 0).trans rfl
              have s1 := (blk_cell Hb5.out 1).trans rfl
              have s2 := (blk_cell Hb5.out 2).trans rfl
              have s3 := (blk_cell Hb5.out 3).trans rfl
              have s4 := (blk_cell Hb5.out 4).trans rfl
              have s5 := (blk_cell Hb5.out 5).trans rfl
              clear ho2 ha2 hbb1 hbb5 hkk
              (try simp only [PU])
              )
          )
          go_roundg (nv - i - 1)
          case measure => omega
          case rel => exact ⟨i + 1, nA, nc, out3, by first | rfl | (congr 1), rfl, by omega, Hb1, HO, HK, Lib.hid (by rw [HN.out, Hparts.out, ← Hq3.out, ← Hq2.out] <;> simp only [List.append_assoc])⟩
        · have HN := Lib.hid (show [123] ++ joinC ((pairT ks vs).take (i + 1)) = out ++ [44] ++ PSi by rw [Hjt.out, if_neg hi0, HE.out]; simp)
          have hi0i : (0 : Int) < (i : Int) := by omega
          go_wp2_with (first
           | ((with_reducible refine at_dst (N := 7) rfl ?_); go_must (refine ev_alloc rfl rfl zero25 rfl ?_; intro g5 w2 hg5 hl5 hb5 hk2)
              have Hb5 := Lib.hid hb5
              have Hg5 := Lib.hid (show W.heap.size ≤ g5 ∧ g1 < g5 from ⟨Nat.le_trans HK.out.size hg5, Nat.lt_of_lt_of_le (blk_lt Hb1.out) hg5⟩)
              have HO := Lib.hid (HO.out.keep hk2 (fun _ _ => id))
              have Hb1 := Lib.hid (hk2.blk Hb1.out id)
              have HK := Lib.hid (HK.out.trans hk2 (fun _ _ h => h))
              clear hb5 hk2 hg5 hl5
              (try simp only [PU]))
           | ((with_reducible refine at_store (t := 25) (p := 7) rfl ?_); go_must (refine ev_store (cs' := #[.int .i64 y0, .bool y1, .int .i64 y2, .string y3, .slice yA yn yc, .slice yB ym yd]) rfl rfl rfl rfl rfl rfl HI.out.1 HI.out.2 rfl Hb5.out (Nat.le_of_ble_eq_true rfl) rfl ?_; intro w3 hb3 hk3)
              have hbb1 := hk3.blk Hb1.out (fun e : g1 = g5 => by have := Hg5.out; omega)
              have HO := Lib.hid (HO.out.keep hk3 (fun k hk e => own_ne HO.out Hb5.out (by decide) (by rw [hk, e])))
              have hkk := HK.out.trans hk3 (fun i hi e => by have := Hg5.out; omega)
              have Hb5 := Lib.hid hb3
              (try clear v0 v1 v2 v3 v4 v5)
              have HK := Lib.hid (show Keeps Nob W _ from hkk)
              have Hb1 := Lib.hid hbb1
              (try have kc0 := (HW.out.trans HK.out (fun _ _ h => h)).cell Hkcell.out id)
              have v0 := (blk_cell Hb1.out 0).trans rfl
              have v1 := (blk_cell Hb1.out 1).trans rfl
              have v2 := (blk_cell Hb1.out 2).trans rfl
              have v3 := (blk_cell Hb1.out 3).trans rfl
              have v4 := (blk_cell Hb1.out 4).trans rfl
              have v5 := (blk_cell Hb1.out 5).trans rfl
              have s0 := (blk_cell Hb5.out 0).trans rfl
              have s1 := (blk_cell Hb5.out 1).trans rfl
              have s2 := (blk_cell Hb5.out 2).trans rfl
              have s3 := (blk_cell Hb5.out 3).trans rfl
              have s4 := (blk_cell Hb5.out 4).trans rfl
              have s5 := (blk_cell Hb5.out 5).trans rfl
              clear hb3 hk3 hbb1 hkk
              (try simp only [PU]))
           | ((with_reducible refine at_dst (N := 42) rfl ?_); go_must (refine ev_slice (cs := #[.int .u8 44]) (t := 5) (n := 1) (c := 1) rfl (by first | (go_simp; done) | (go_simp; rfl)) ?_; intro gb wb hgb hlb hbb hk2)
              have Hbb := Lib.hid hbb
              clear hbb hgb hlb
              have hbb1 := hk2.blk Hb1.out id
              have hbb5 := hk2.blk Hb5.out id
              have hkk := HK.out.trans hk2 (fun _ _ h => h)
              have HO := Lib.hid (HO.out.keep hk2 (fun _ _ => id))
              have Hb5 := Lib.hid hbb5
              clear v0 v1 v2 v3 v4 v5 s0 s1 s2 s3 s4 s5
              have HK := Lib.hid (show Keeps Nob W _ from hkk)
              have Hb1 := Lib.hid hbb1
              (try have kc0 := (HW.out.trans HK.out (fun _ _ h => h)).cell Hkcell.out id)
              have v0 := (blk_cell Hb1.out 0).trans rfl
              have v1 := (blk_cell Hb1.out 1).trans rfl
              have v2 := (blk_cell Hb1.out 2).trans rfl
              have v3 := (blk_cell Hb1.out 3).trans rfl
              have v4 := (blk_cell Hb1.out 4).trans rfl
              have v5 := (blk_cell Hb1.out 5).trans rfl
              have s0 := (blk_cell Hb5.out 0).trans rfl
              have s1 := (blk_cell Hb5.out 1).trans rfl
              have s2 := (blk_cell Hb5.out 2).trans rfl
              have s3 := (blk_cell Hb5.out 3).trans rfl
              have s4 := (blk_cell Hb5.out 4).trans rfl
              have s5 := (blk_cell Hb5.out 5).trans rfl
              clear hk2 hbb1 hbb5 hkk
              (try simp only [PU])
              )
           | ((with_reducible refine at_dst (N := 43) rfl ?_); go_must (refine ev_app_sl rfl rfl byteT38 (base := W.heap.size) rfl HO.out rfl (news := [44]) rfl (fun _ => ⟨_, rfl, news_made Hbb.out rfl⟩) (by have := Hol.out; omega) HK.out.size ?_; intro v' wc ho2 ha2; obtain ⟨out1, hq1⟩ : ∃ x, out ++ [44] = x := ⟨_, rfl⟩; rw [hq1] at ho2; obtain ⟨nA, nc, hv'⟩ := ho2.slice; subst hv')
              have Hq1 := Lib.hid hq1
              have Hol1 := Lib.hid (show out1.length ≤ 600000000000 by rw [← hq1, List.length_append]; have := Hol.out; simp only [List.length_cons, List.length_nil]; omega)
              clear hq1
              have hbb1 := ha2.keep.blk Hb1.out (own_ne HO.out (by first | exact Hb1.out) (by decide))
              have hbb5 := ha2.keep.blk Hb5.out (own_ne HO.out Hb5.out (by decide))
              have hkk := HK.out.trans ha2.keep (fun i hi e => by have := (OwnB.lt HO.out i e.symm).1; omega)
              have HO := Lib.hid ho2
              have Hb5 := Lib.hid hbb5
              clear v0 v1 v2 v3 v4 v5 s0 s1 s2 s3 s4 s5
              have HK := Lib.hid (show Keeps Nob W _ from hkk)
              have Hb1 := Lib.hid hbb1
              (try have kc0 := (HW.out.trans HK.out (fun _ _ h => h)).cell Hkcell.out id)
              have v0 := (blk_cell Hb1.out 0).trans rfl
              have v1 := (blk_cell Hb1.out 1).trans rfl
              have v2 := (blk_cell Hb1.out 2).trans rfl
              have v3 := (blk_cell Hb1.out 3).trans rfl
              have v4 := (blk_cell Hb1.out 4).trans rfl
              have v5 := (blk_cell Hb1.out 5).trans rfl
              have s0 := (blk_cell Hb5.out 0).trans rfl
              have s1 := (blk_cell Hb5.out 1).trans rfl
              have s2 := (blk_cell Hb5.out 2).trans rfl
              have s3 := (blk_cell Hb5.out 3).trans rfl
              have s4 := (blk_cell Hb5.out 4).trans rfl
              have s5 := (blk_cell Hb5.out 5).trans rfl
              clear ho2 ha2 hbb1 hbb5 hkk
              (try simp only [PU])
              )
           | (go_at_call 43; go_must (refine (H43.out _).mono ?_; rintro e wd ⟨rfl, hk2⟩)
              have hbb1 := hk2.blk Hb1.out id
              have hbb5 := hk2.blk Hb5.out id
              have hkk := HK.out.trans hk2 (fun _ _ h => h)
              have HO := Lib.hid (HO.out.keep hk2 (fun _ _ => id))
              have Hb5 := Lib.hid hbb5
              clear v0 v1 v2 v3 v4 v5 s0 s1 s2 s3 s4 s5
              have HK := Lib.hid (show Keeps Nob W _ from hkk)
              have Hb1 := Lib.hid hbb1
              (try have kc0 := (HW.out.trans HK.out (fun _ _ h => h)).cell Hkcell.out id)
              have v0 := (blk_cell Hb1.out 0).trans rfl
              have v1 := (blk_cell Hb1.out 1).trans rfl
              have v2 := (blk_cell Hb1.out 2).trans rfl
              have v3 := (blk_cell Hb1.out 3).trans rfl
              have v4 := (blk_cell Hb1.out 4).trans rfl
              have v5 := (blk_cell Hb1.out 5).trans rfl
              have s0 := (blk_cell Hb5.out 0).trans rfl
              have s1 := (blk_cell Hb5.out 1).trans rfl
              have s2 := (blk_cell Hb5.out 2).trans rfl
              have s3 := (blk_cell Hb5.out 3).trans rfl
              have s4 := (blk_cell Hb5.out 4).trans rfl
              have s5 := (blk_cell Hb5.out 5).trans rfl
              clear hk2 hbb1 hbb5 hkk
              (try simp only [PU])
              )
           | ((with_reducible refine at_dst (N := 62) rfl ?_); go_must (refine ev_app_str rfl rfl byteT38 Tryd.underlying9 (base := W.heap.size) rfl HO.out (st := qk ++ ⟨#[58]⟩) rfl (by rw [Hqc.out]; have := Hol1.out; have := Hqb.out; simp only [List.length_append, List.length_cons, List.length_nil]; omega) HK.out.size ?_; rw [Hqc.out]; intro v' wc ho2 ha2; obtain ⟨out2, hq2⟩ : ∃ x, out1 ++ (quoteB (bl key) ++ [58]) = x := ⟨_, rfl⟩; rw [hq2] at ho2; obtain ⟨nA, nc, hv'⟩ := ho2.slice; subst hv')
              have Hq2 := Lib.hid hq2
              have Hol2 := Lib.hid (show out2.length ≤ 2000000000000 by rw [← hq2, List.length_append]; have := Hol1.out; have := Hqb.out; simp only [List.length_append, List.length_cons, List.length_nil]; omega)
              clear hq2
              have hbb1 := ha2.keep.blk Hb1.out (own_ne HO.out (by first | exact Hb1.out) (by decide))
              have hbb5 := ha2.keep.blk Hb5.out (own_ne HO.out Hb5.out (by decide))
              have hkk := HK.out.trans ha2.keep (fun i hi e => by have := (OwnB.lt HO.out i e.symm).1; omega)
              have HO := Lib.hid ho2
              have Hb5 := Lib.hid hbb5
              clear v0 v1 v2 v3 v4 v5 s0 s1 s2 s3 s4 s5
              have HK := Lib.hid (show Keeps Nob W _ from hkk)
              have Hb1 := Lib.hid hbb1
              (try have kc0 := (HW.out.trans HK.out (fun _ _ h => h)).cell Hkcell.out id)
              have v0 := (blk_cell Hb1.out 0).trans rfl
              have v1 := (blk_cell Hb1.out 1).trans rfl
              have v2 := (blk_cell Hb1.out 2).trans rfl
              have v3 := (blk_cell Hb1.out 3).trans rfl
              have v4 := (blk_cell Hb1.out 4).trans rfl
              have v5 := (blk_cell Hb1.out 5).trans rfl
              have s0 := (blk_cell Hb5.out 0).trans rfl
              have s1 := (blk_cell Hb5.out 1).trans rfl
              have s2 := (blk_cell Hb5.out 2).trans rfl
              have s3 := (blk_cell Hb5.out 3).trans rfl
              have s4 := (blk_cell Hb5.out 4).trans rfl
              have s5 := (blk_cell Hb5.out 5).trans rfl
              clear ho2 ha2 hbb1 hbb5 hkk
              (try simp only [PU])
              )
           | (go_at_call 17; go_must (refine (Hrun.out _ HK.out).mono ?_; rintro e wd ⟨rfl, hk2⟩)
              have hbb1 := hk2.blk Hb1.out id
              have hbb5 := hk2.blk Hb5.out id
              have hkk := HK.out.trans hk2 (fun _ _ h => h)
              have HO := Lib.hid (HO.out.keep hk2 (fun _ _ => id))
              have Hb5 := Lib.hid hbb5
              clear v0 v1 v2 v3 v4 v5 s0 s1 s2 s3 s4 s5
              have HK := Lib.hid (show Keeps Nob W _ from hkk)
              have Hb1 := Lib.hid hbb1
              (try have kc0 := (HW.out.trans HK.out (fun _ _ h => h)).cell Hkcell.out id)
              have v0 := (blk_cell Hb1.out 0).trans rfl
              have v1 := (blk_cell Hb1.out 1).trans rfl
              have v2 := (blk_cell Hb1.out 2).trans rfl
              have v3 := (blk_cell Hb1.out 3).trans rfl
              have v4 := (blk_cell Hb1.out 4).trans rfl
              have v5 := (blk_cell Hb1.out 5).trans rfl
              have s0 := (blk_cell Hb5.out 0).trans rfl
              have s1 := (blk_cell Hb5.out 1).trans rfl
              have s2 := (blk_cell Hb5.out 2).trans rfl
              have s3 := (blk_cell Hb5.out 3).trans rfl
              have s4 := (blk_cell Hb5.out 4).trans rfl
              have s5 := (blk_cell Hb5.out 5).trans rfl
              clear hk2 hbb1 hbb5 hkk
              (try simp only [PU])
              )
           | ((with_reducible refine at_dst (N := 66) rfl ?_); go_must (refine ev_app_str rfl rfl byteT38 Tryd.underlying9 (base := W.heap.size) rfl HO.out (st := mkB tx) rfl (by rw [show bl (mkB tx) = tx from rfl]; have := Hol2.out; have := Htb.out; omega) HK.out.size ?_; rw [show bl (mkB tx) = tx from rfl]; intro v' wc ho2 ha2; obtain ⟨out3, hq3⟩ : ∃ x, out2 ++ tx = x := ⟨_, rfl⟩; rw [hq3] at ho2; obtain ⟨nA, nc, hv'⟩ := ho2.slice; subst hv')
              have Hq3 := Lib.hid hq3
              clear hq3
              have hbb1 := ha2.keep.blk Hb1.out (own_ne HO.out (by first | exact Hb1.out) (by decide))
              have hbb5 := ha2.keep.blk Hb5.out (own_ne HO.out Hb5.out (by decide))
              have hkk := HK.out.trans ha2.keep (fun i hi e => by have := (OwnB.lt HO.out i e.symm).1; omega)
              have HO := Lib.hid ho2
              have Hb5 := Lib.hid hbb5
              clear v0 v1 v2 v3 v4 v5 s0 s1 s2 s3 s4 s5
              have HK := Lib.hid (show Keeps Nob W _ from hkk)
              have Hb1 := Lib.hid hbb1
              (try have kc0 := (HW.out.trans HK.out (fun _ _ h => h)).cell Hkcell.out id)
              have v0 := (blk_cell Hb1.out 0).trans rfl
              have v1 := (blk_cell Hb1.out 1).trans rfl
              have v2 := (blk_cell Hb1.out 2).trans rfl
              have v3 := (blk_cell Hb1.out 3).trans rfl
              have v4 := (blk_cell Hb1.out 4).trans rfl
              have v5 := (blk_cell Hb1.out 5).trans rfl
              have s0 := (blk_cell Hb5.out 0).trans rfl
              have s1 := (blk_cell Hb5.out 1).trans rfl
              have s2 := (blk_cell Hb5.out 2).trans rfl
              have s3 := (blk_cell Hb5.out 3).trans rfl
              have s4 := (blk_cell Hb5.out 4).trans rfl
              have s5 := (blk_cell Hb5.out 5).trans rfl
              clear ho2 ha2 hbb1 hbb5 hkk
              (try simp only [PU])
              )
          )
          go_roundg (nv - i - 1)
          case measure => omega
          case rel => exact ⟨i + 1, nA, nc, out3, by first | rfl | (congr 1), rfl, by omega, Hb1, HO, HK, Lib.hid (by rw [HN.out, Hparts.out, ← Hq3.out, ← Hq2.out, ← Hq1.out] <;> simp only [List.append_assoc])⟩
      · have hi' : i = nv := by omega
        subst hi'
        have HR := Lib.hid (show S = out ++ [125] by
         rw [HS.out, HE.out, List.take_of_length_le (by rw [Hpl.out]; exact Nat.le_refl _)])
        go_wp2_with (first
         | ((with_reducible refine at_dst (N := 70) rfl ?_); go_must (refine ev_app_str rfl rfl byteT38 Tryd.underlying9 (base := W.heap.size) rfl HO.out (st := ⟨#[125]⟩) rfl (by have := Hol.out; show out.length + 1 ≤ _; omega) HK.out.size ?_; intro v' wc ho2 ha2; obtain ⟨nA, nc, hv'⟩ := ho2.slice; subst hv')
            have HO2 := Lib.hid (show OwnB wc W.heap.size (.slice nA (out ++ [125]).length nc) (out ++ [125]) from ho2)
            have HKz := Lib.hid (HK.out.trans ha2.keep (fun i hi e => by have := (HO.out.lt i e.symm).1; omega))
            clear ho2 ha2
            (try simp only [PU]))
         | ((with_reducible refine at_dst (N := 71) rfl ?_); go_must (refine ev_conv_bs rfl rfl Tryd.underlying38 Tryd.underlying5 Tryd.underlying9 (bs := out ++ [125]) rfl HO2.out.bytes ?_); (try simp only [PU]))
        )
        go_ret
        rw [HR.out]
        exact ⟨rfl, HKz.out⟩
end Go.Proofs.WV

namespace Go.Proofs.WV
open Go.RowKit Go.Proofs.KL Go.Proofs.WM
set_option maxRecDepth 100000
set_option linter.unusedSimpArgs false
set_option linter.unusedVariables false

set_option maxHeartbeats 4000000 in
theorem check14 {W : World} {X : Nat → Prop} {v : Value} {j : J} (h : JX W X v j) (ht : Tab W W.heap.size) (hb : sizeJ j ≤ 10000000000) : Calls Tryd.prog 14 #[v] W fun e w' => e = .returned (.int .i64 (checkJ j)) ∧ Keeps Nob W w' := by
 obtain ⟨jk, jb, jn, jt, ks, vs, kv, vv, hjj, rfl, hjk, hjv⟩ := h.open
 obtain ⟨kA, kc, rfl, -, -⟩ := id hjk
 obtain ⟨vA, vc, ru, rfl, -, -, -⟩ := id hjv
 generalize ks.length = kl at *
 generalize vs.length = vl at *
 have H35 := Lib.hid (fun W' (hk : Keeps Nob W W') => formed35 h W' hk (by omega))
 have H36 := Lib.hid (fun W' (hk : Keeps Nob W W') => levels36 h W' hk (by omega))
 obtain ⟨C, hC⟩ : ∃ c, checkJ j = c := ⟨_, rfl⟩
 rw [hC]
 unfold checkJ at hC
 rcases hfm : formedJ j with _ | _
 · have HC := Lib.hid (show C = 4 by rw [← hC, if_pos hfm])
   have Hfm := Lib.hid hfm
   have Hlv := Lib.hid True.intro
   have H17 := Lib.hid True.intro
   clear h ht hb hjk hjv hC hfm hjj
   go_enter Tryd.func14, Tryd.ntmps14
   go_wp2_with (first
    | ((with_reducible refine at_dst (N := 1) rfl ?_); go_must (refine ev_box (cs := #[.int .i64 jk, .bool jb, .int .i64 jn, .string jt, .slice kA kl kc, .slice vA vl vc]) rfl rfl rfl ?_; intro g1 w1 hg1 hl1 hb1 hk1)
       have Hb1 := Lib.hid hb1
       have HK := Lib.hid hk1
       have s0 := (blk_cell Hb1.out 0).trans rfl
       have s1 := (blk_cell Hb1.out 1).trans rfl
       have s2 := (blk_cell Hb1.out 2).trans rfl
       have s3 := (blk_cell Hb1.out 3).trans rfl
       have s4 := (blk_cell Hb1.out 4).trans rfl
       have s5 := (blk_cell Hb1.out 5).trans rfl
       clear hb1 hk1 hg1 hl1
       (try simp only [PU]))
    | (go_at_call 35; go_must (refine (H35.out _ HK.out).mono ?_; rintro e w2 ⟨rfl, hk2⟩; rw [Hfm.out])
       have Hb1 := Lib.hid (hk2.blk Hb1.out id)
       have HK := Lib.hid (HK.out.trans hk2 (fun _ _ h => h))
       clear hk2 s0 s1 s2 s3 s4 s5
       have s0 := (blk_cell Hb1.out 0).trans rfl
       have s1 := (blk_cell Hb1.out 1).trans rfl
       have s2 := (blk_cell Hb1.out 2).trans rfl
       have s3 := (blk_cell Hb1.out 3).trans rfl
       have s4 := (blk_cell Hb1.out 4).trans rfl
       have s5 := (blk_cell Hb1.out 5).trans rfl
       (try simp only [PU])
       )
    | (go_at_call 36; go_must (refine (H36.out _ HK.out).mono ?_; rintro e w2 ⟨rfl, hk2⟩; rw [Hlv.out])
       have Hb1 := Lib.hid (hk2.blk Hb1.out id)
       have HK := Lib.hid (HK.out.trans hk2 (fun _ _ h => h))
       clear hk2 s0 s1 s2 s3 s4 s5
       have s0 := (blk_cell Hb1.out 0).trans rfl
       have s1 := (blk_cell Hb1.out 1).trans rfl
       have s2 := (blk_cell Hb1.out 2).trans rfl
       have s3 := (blk_cell Hb1.out 3).trans rfl
       have s4 := (blk_cell Hb1.out 4).trans rfl
       have s5 := (blk_cell Hb1.out 5).trans rfl
       (try simp only [PU])
       )
    | (go_at_call 17; go_must (refine (H17.out _ HK.out).mono ?_; rintro e w2 ⟨rfl, hk2⟩)
       have Hb1 := Lib.hid (hk2.blk Hb1.out id)
       have HK := Lib.hid (HK.out.trans hk2 (fun _ _ h => h))
       clear hk2 s0 s1 s2 s3 s4 s5
       have s0 := (blk_cell Hb1.out 0).trans rfl
       have s1 := (blk_cell Hb1.out 1).trans rfl
       have s2 := (blk_cell Hb1.out 2).trans rfl
       have s3 := (blk_cell Hb1.out 3).trans rfl
       have s4 := (blk_cell Hb1.out 4).trans rfl
       have s5 := (blk_cell Hb1.out 5).trans rfl
       (try simp only [PU])
       )
   )
   go_ret
   rw [HC.out]
   exact ⟨rfl, HK.out⟩
 · have Hfm := Lib.hid hfm
   have H17 := Lib.hid (fun W' (hk : Keeps Nob W W') => text17 h W' hk (tab_after ht hk) hfm hb)
   have hlvb := levels_size j
   have htx := text_size j hfm
   obtain ⟨lv, hlv⟩ : ∃ x, levelsJ j = x := ⟨_, rfl⟩
   have Hlv := Lib.hid hlv
   obtain ⟨S, hS⟩ : ∃ x, mkB (textJ j) = x := ⟨_, rfl⟩
   have hSs : (textJ j).length = S.size := by rw [← hS]; rfl
   rw [hS] at H17
   rw [hlv] at hC
   rw [hSs] at hC htx
   have hSi : (S.size : Int) ≤ 1000000000000 := by omega
   rw [if_neg (by rw [hfm]; decide)] at hC
   clear h ht hjk hjv hfm hjj hS hSs htx hlv hlvb
   by_cases h1 : 40 < lv
   · have HC := Lib.hid (show C = 3 by rw [← hC, if_pos (.inl h1)])
     have hi : (40 : Int) < (lv : Int) := by omega
     clear hC hb
     go_enter Tryd.func14, Tryd.ntmps14
     go_wp2_with (first
      | ((with_reducible refine at_dst (N := 1) rfl ?_); go_must (refine ev_box (cs := #[.int .i64 jk, .bool jb, .int .i64 jn, .string jt, .slice kA kl kc, .slice vA vl vc]) rfl rfl rfl ?_; intro g1 w1 hg1 hl1 hb1 hk1)
         have Hb1 := Lib.hid hb1
         have HK := Lib.hid hk1
         have s0 := (blk_cell Hb1.out 0).trans rfl
         have s1 := (blk_cell Hb1.out 1).trans rfl
         have s2 := (blk_cell Hb1.out 2).trans rfl
         have s3 := (blk_cell Hb1.out 3).trans rfl
         have s4 := (blk_cell Hb1.out 4).trans rfl
         have s5 := (blk_cell Hb1.out 5).trans rfl
         clear hb1 hk1 hg1 hl1
         (try simp only [PU]))
      | (go_at_call 35; go_must (refine (H35.out _ HK.out).mono ?_; rintro e w2 ⟨rfl, hk2⟩; rw [Hfm.out])
         have Hb1 := Lib.hid (hk2.blk Hb1.out id)
         have HK := Lib.hid (HK.out.trans hk2 (fun _ _ h => h))
         clear hk2 s0 s1 s2 s3 s4 s5
         have s0 := (blk_cell Hb1.out 0).trans rfl
         have s1 := (blk_cell Hb1.out 1).trans rfl
         have s2 := (blk_cell Hb1.out 2).trans rfl
         have s3 := (blk_cell Hb1.out 3).trans rfl
         have s4 := (blk_cell Hb1.out 4).trans rfl
         have s5 := (blk_cell Hb1.out 5).trans rfl
         (try simp only [PU])
         )
      | (go_at_call 36; go_must (refine (H36.out _ HK.out).mono ?_; rintro e w2 ⟨rfl, hk2⟩; rw [Hlv.out])
         have Hb1 := Lib.hid (hk2.blk Hb1.out id)
         have HK := Lib.hid (HK.out.trans hk2 (fun _ _ h => h))
         clear hk2 s0 s1 s2 s3 s4 s5
         have s0 := (blk_cell Hb1.out 0).trans rfl
         have s1 := (blk_cell Hb1.out 1).trans rfl
         have s2 := (blk_cell Hb1.out 2).trans rfl
         have s3 := (blk_cell Hb1.out 3).trans rfl
         have s4 := (blk_cell Hb1.out 4).trans rfl
         have s5 := (blk_cell Hb1.out 5).trans rfl
         (try simp only [PU])
         )
      | (go_at_call 17; go_must (refine (H17.out _ HK.out).mono ?_; rintro e w2 ⟨rfl, hk2⟩)
         have Hb1 := Lib.hid (hk2.blk Hb1.out id)
         have HK := Lib.hid (HK.out.trans hk2 (fun _ _ h => h))
         clear hk2 s0 s1 s2 s3 s4 s5
         have s0 := (blk_cell Hb1.out 0).trans rfl
         have s1 := (blk_cell Hb1.out 1).trans rfl
         have s2 := (blk_cell Hb1.out 2).trans rfl
         have s3 := (blk_cell Hb1.out 3).trans rfl
         have s4 := (blk_cell Hb1.out 4).trans rfl
         have s5 := (blk_cell Hb1.out 5).trans rfl
         (try simp only [PU])
         )
     )
     go_ret
     rw [HC.out]
     exact ⟨rfl, HK.out⟩
   · have hi : ¬ (40 : Int) < (lv : Int) := by omega
     by_cases h2 : 1000000 < S.size
     · have HC := Lib.hid (show C = 3 by rw [← hC, if_pos (.inr h2)])
       have hi2 : (1000000 : Int) < (S.size : Int) := by omega
       clear hC hb h1
       go_enter Tryd.func14, Tryd.ntmps14
       go_wp2_with (first
        | ((with_reducible refine at_dst (N := 1) rfl ?_); go_must (refine ev_box (cs := #[.int .i64 jk, .bool jb, .int .i64 jn, .string jt, .slice kA kl kc, .slice vA vl vc]) rfl rfl rfl ?_; intro g1 w1 hg1 hl1 hb1 hk1)
           have Hb1 := Lib.hid hb1
           have HK := Lib.hid hk1
           have s0 := (blk_cell Hb1.out 0).trans rfl
           have s1 := (blk_cell Hb1.out 1).trans rfl
           have s2 := (blk_cell Hb1.out 2).trans rfl
           have s3 := (blk_cell Hb1.out 3).trans rfl
           have s4 := (blk_cell Hb1.out 4).trans rfl
           have s5 := (blk_cell Hb1.out 5).trans rfl
           clear hb1 hk1 hg1 hl1
           (try simp only [PU]))
        | (go_at_call 35; go_must (refine (H35.out _ HK.out).mono ?_; rintro e w2 ⟨rfl, hk2⟩; rw [Hfm.out])
           have Hb1 := Lib.hid (hk2.blk Hb1.out id)
           have HK := Lib.hid (HK.out.trans hk2 (fun _ _ h => h))
           clear hk2 s0 s1 s2 s3 s4 s5
           have s0 := (blk_cell Hb1.out 0).trans rfl
           have s1 := (blk_cell Hb1.out 1).trans rfl
           have s2 := (blk_cell Hb1.out 2).trans rfl
           have s3 := (blk_cell Hb1.out 3).trans rfl
           have s4 := (blk_cell Hb1.out 4).trans rfl
           have s5 := (blk_cell Hb1.out 5).trans rfl
           (try simp only [PU])
           )
        | (go_at_call 36; go_must (refine (H36.out _ HK.out).mono ?_; rintro e w2 ⟨rfl, hk2⟩; rw [Hlv.out])
           have Hb1 := Lib.hid (hk2.blk Hb1.out id)
           have HK := Lib.hid (HK.out.trans hk2 (fun _ _ h => h))
           clear hk2 s0 s1 s2 s3 s4 s5
           have s0 := (blk_cell Hb1.out 0).trans rfl
           have s1 := (blk_cell Hb1.out 1).trans rfl
           have s2 := (blk_cell Hb1.out 2).trans rfl
           have s3 := (blk_cell Hb1.out 3).trans rfl
           have s4 := (blk_cell Hb1.out 4).trans rfl
           have s5 := (blk_cell Hb1.out 5).trans rfl
           (try simp only [PU])
           )
        | (go_at_call 17; go_must (refine (H17.out _ HK.out).mono ?_; rintro e w2 ⟨rfl, hk2⟩)
           have Hb1 := Lib.hid (hk2.blk Hb1.out id)
           have HK := Lib.hid (HK.out.trans hk2 (fun _ _ h => h))
           clear hk2 s0 s1 s2 s3 s4 s5
           have s0 := (blk_cell Hb1.out 0).trans rfl
           have s1 := (blk_cell Hb1.out 1).trans rfl
           have s2 := (blk_cell Hb1.out 2).trans rfl
           have s3 := (blk_cell Hb1.out 3).trans rfl
           have s4 := (blk_cell Hb1.out 4).trans rfl
           have s5 := (blk_cell Hb1.out 5).trans rfl
           (try simp only [PU])
           )
       )
       go_ret
       rw [HC.out]
       exact ⟨rfl, HK.out⟩
     · have HC := Lib.hid (show C = 0 by rw [← hC, if_neg (by omega)])
       have hi2 : ¬ (1000000 : Int) < (S.size : Int) := by omega
       clear hC hb h1
       go_enter Tryd.func14, Tryd.ntmps14
       go_wp2_with (first
        | ((with_reducible refine at_dst (N := 1) rfl ?_); go_must (refine ev_box (cs := #[.int .i64 jk, .bool jb, .int .i64 jn, .string jt, .slice kA kl kc, .slice vA vl vc]) rfl rfl rfl ?_; intro g1 w1 hg1 hl1 hb1 hk1)
           have Hb1 := Lib.hid hb1
           have HK := Lib.hid hk1
           have s0 := (blk_cell Hb1.out 0).trans rfl
           have s1 := (blk_cell Hb1.out 1).trans rfl
           have s2 := (blk_cell Hb1.out 2).trans rfl
           have s3 := (blk_cell Hb1.out 3).trans rfl
           have s4 := (blk_cell Hb1.out 4).trans rfl
           have s5 := (blk_cell Hb1.out 5).trans rfl
           clear hb1 hk1 hg1 hl1
           (try simp only [PU]))
        | (go_at_call 35; go_must (refine (H35.out _ HK.out).mono ?_; rintro e w2 ⟨rfl, hk2⟩; rw [Hfm.out])
           have Hb1 := Lib.hid (hk2.blk Hb1.out id)
           have HK := Lib.hid (HK.out.trans hk2 (fun _ _ h => h))
           clear hk2 s0 s1 s2 s3 s4 s5
           have s0 := (blk_cell Hb1.out 0).trans rfl
           have s1 := (blk_cell Hb1.out 1).trans rfl
           have s2 := (blk_cell Hb1.out 2).trans rfl
           have s3 := (blk_cell Hb1.out 3).trans rfl
           have s4 := (blk_cell Hb1.out 4).trans rfl
           have s5 := (blk_cell Hb1.out 5).trans rfl
           (try simp only [PU])
           )
        | (go_at_call 36; go_must (refine (H36.out _ HK.out).mono ?_; rintro e w2 ⟨rfl, hk2⟩; rw [Hlv.out])
           have Hb1 := Lib.hid (hk2.blk Hb1.out id)
           have HK := Lib.hid (HK.out.trans hk2 (fun _ _ h => h))
           clear hk2 s0 s1 s2 s3 s4 s5
           have s0 := (blk_cell Hb1.out 0).trans rfl
           have s1 := (blk_cell Hb1.out 1).trans rfl
           have s2 := (blk_cell Hb1.out 2).trans rfl
           have s3 := (blk_cell Hb1.out 3).trans rfl
           have s4 := (blk_cell Hb1.out 4).trans rfl
           have s5 := (blk_cell Hb1.out 5).trans rfl
           (try simp only [PU])
           )
        | (go_at_call 17; go_must (refine (H17.out _ HK.out).mono ?_; rintro e w2 ⟨rfl, hk2⟩)
           have Hb1 := Lib.hid (hk2.blk Hb1.out id)
           have HK := Lib.hid (HK.out.trans hk2 (fun _ _ h => h))
           clear hk2 s0 s1 s2 s3 s4 s5
           have s0 := (blk_cell Hb1.out 0).trans rfl
           have s1 := (blk_cell Hb1.out 1).trans rfl
           have s2 := (blk_cell Hb1.out 2).trans rfl
           have s3 := (blk_cell Hb1.out 3).trans rfl
           have s4 := (blk_cell Hb1.out 4).trans rfl
           have s5 := (blk_cell Hb1.out 5).trans rfl
           (try simp only [PU])
           )
       )
       go_ret
       rw [HC.out]
       exact ⟨rfl, HK.out⟩
end Go.Proofs.WV

namespace Go.Proofs.WV
open Go.RowKit Go.Proofs.KL Go.Proofs.WM
set_option maxRecDepth 100000
set_option linter.unusedSimpArgs false
set_option linter.unusedVariables false

set_option maxHeartbeats 4000000 in
theorem find60 {W : World} {X : Nat → Prop} {v : Value} {j : J} {key : ByteArray} (h : JX W X v j) (hl : j.keys.length ≤ 1000000000) :
  Calls Tryd.prog 60 #[v, .string key] W fun e w' => e = .returned (.int .i64 (idxI (idxK key j.keys))) ∧ Keeps Nob W w' := by
 obtain ⟨k, b, n, t, ks, vs, kv, vv, rfl, rfl, hks, hvs⟩ := h.open
 obtain ⟨kA, kc, rfl, -, hx⟩ := id hks
 obtain ⟨vA, vc, u, rfl, -, -, -⟩ := id hvs
 simp only [J.keys] at hl ⊢
 obtain ⟨kl, HN⟩ : ∃ x, Hid (ks.length = x) := ⟨_, Lib.hid rfl⟩
 obtain ⟨nv, hnv⟩ : ∃ x, vs.length = x := ⟨_, rfl⟩
 have HX := Lib.hid hx
 rw [HN.out] at hl ⊢
 rw [hnv]
 have hni : (kl : Int) ≤ 1000000000 := by omega
 obtain ⟨R, hR⟩ : ∃ R, idxK key ks = R := ⟨_, rfl⟩
 rw [hR]
 have HR := Lib.hid (show (idxK key (ks.drop 0)).map (· + 0) = R by rw [← hR, List.drop_zero]; cases idxK key ks <;> rfl)
 clear hks hvs hx hR hnv h
 go_enter Tryd.func60, Tryd.ntmps60
 go_upto_region 1 with (first
  | ((with_reducible refine at_dst (N := 2) rfl ?_); go_must (refine ev_box (cs := #[.int .i64 k, .bool b, .int .i64 n, .string t, .slice kA kl kc, .slice vA nv vc]) rfl rfl rfl ?_; intro g1 w1 hg1 hl1 hb1 hk1)
     have Hb1 := Lib.hid hb1
     have HK := Lib.hid hk1
     clear hg1 hl1 hb1 hk1
     (try simp only [PU]))
 )
 have c4 := (blk_cell Hb1.out 4).trans rfl
 go_wp2
 clear c4
 go_loopg [10] kl (fun K iv wr => ∃ i : Nat, iv = .int .i64 i ∧ i + K = kl ∧ Hid ((idxK key (ks.drop i)).map (· + i) = R) ∧ Hid (w1 = wr))
 case atStart => exact ⟨0, rfl, by omega, HR, Lib.hid rfl⟩
 case round =>
  obtain ⟨i, rfl, hiK, HE, Hw⟩ := hrel
  have hw : w1 = wr := Hw.out
  subst hw
  by_cases hlt : i < kl
  · obtain ⟨bk, o, rfl, -, hcell⟩ := HX.out i (by rw [HN.out]; exact hlt)
    have hE := HE.out
    rw [idxK_step (by rw [HN.out]; exact hlt)] at hE
    have hcell := HK.out.cell hcell id
    obtain ⟨q, hq⟩ : ∃ q, ks.getD i ByteArray.empty = q := ⟨_, rfl⟩
    rw [hq] at hcell hE
    by_cases hkk : key = q
    · have HF := Lib.hid (show some i = R by rw [← hE, if_pos hkk])
      subst hkk
      clear hE hq HE
      go_wp2
      go_ret
      rw [← HF.out]
      exact ⟨rfl, HK.out⟩
    · have HF := Lib.hid (show (idxK key (ks.drop (i + 1))).map (· + (i + 1)) = R by rw [← hE, if_neg hkk])
      have hkb : (q.toList == key.toList) = false := by simpa using str_ne (fun e => hkk e.symm)
      clear hE hq HE
      go_wp2
      go_roundg (kl - i - 1)
      case measure => omega
      case rel => exact ⟨i + 1, by rfl, by omega, HF, by first | exact Lib.hid rfl | exact Lib.hid trivial⟩
  · have HF := Lib.hid (show none = R by rw [← HE.out, List.drop_of_length_le (by rw [HN.out]; omega)]; rfl)
    clear HE
    go_wp2
    go_ret
    rw [← HF.out]
    exact ⟨rfl, HK.out⟩
def GetRef (W : World) (R : J × Int) (e : Ending) (w' : World) : Prop := (∃ v, e = .returned (.tuple #[v, .int .i64 R.2]) ∧ JX w' (fun b => b < w'.heap.size) v R.1) ∧ Keeps Nob W w'
set_option maxHeartbeats 8000000 in
theorem get31 {W : World} {X : Nat → Prop} {v : Value} {j : J} {key : ByteArray} (h : JX W X v j) (ht : Tab W W.heap.size) (hsz : sizeJ j ≤ 1000000000) : Calls Tryd.prog 31 #[v, .string key] W (GetRef W (getJ j key)) := by
 obtain ⟨k, b, n, t, ks, vs, kv, vv, rfl, rfl, hks, hvs⟩ := h.open
 obtain ⟨kA, kc, rfl, -⟩ := id hks
 obtain ⟨vA, vc, u, rfl, hvc, hA, hv⟩ := id hvs
 have hkl : ks.length ≤ 1000000000 := by unfold sizeJ at hsz; omega
 have hvl : vs.length ≤ 1000000000 := by have := size_len vs; unfold sizeJ at hsz; omega
 obtain ⟨kl, hkn⟩ : ∃ x, ks.length = x := ⟨_, rfl⟩
 obtain ⟨nv, hnv⟩ : ∃ x, vs.length = x := ⟨_, rfl⟩
 obtain ⟨z, hz⟩ : ∃ z, checkJ (.mk k b n t ks vs) = z := ⟨_, rfl⟩
 have hg : getJ (.mk k b n t ks vs) key = if z ≠ 0 then (zJ, z) else if k ≠ 6 then (zJ, 2) else match idxK key ks with | none => (zJ, 5) | some i => (vs.getD i default, 0) := by rw [← hz]; rfl
 rw [hg]
 have Hsz := Lib.hid (show sizeJ (.mk k b n t ks vs) ≤ 1000000000 ∧ sizeJ (.mk k b n t ks vs) ≤ 10000000000 from ⟨hsz, by omega⟩)
 have Hz := Lib.hid hz
 have Hx := Lib.hid (h.keep (X' := fun b => b < W.heap.size) (Keeps.refl Nob W) (fun _ _ _ => id) (fun b h _ => h))
 have Hks := Lib.hid (hks.keep (X' := fun b => b < W.heap.size) (Keeps.refl Nob W) (fun _ _ _ => id) (fun b h _ => h))
 have HA := Lib.hid (show ∀ i, i < vs.length → ∃ b o, vA = some ⟨b, o, none⟩ ∧ b < W.heap.size ∧ Six W b (o + i * 6) (u i 0) (u i 1) (u i 2) (u i 3) (u i 4) (u i 5) from fun i hi => by
   obtain ⟨b, o, e, _, h6⟩ := hA i hi
   exact ⟨b, o, e, h6.lt, h6⟩)
 have HV := Lib.hid (show ∀ i, i < vs.length → JX W (fun b => b < W.heap.size) (.agg #[u i 0, u i 1, u i 2, u i 3, u i 4, u i 5]) (vs.getD i default) from fun i hi => (hv i hi).keep (Keeps.refl Nob W) (fun _ _ _ => id) (fun b h _ => h))
 have Hkn := Lib.hid (And.intro hkn hnv)
 rw [hkn] at Hks Hx
 rw [hnv] at Hx HA HV
 have hkli : (kl : Int) ≤ 1000000000 := by omega
 have hnvi : (nv : Int) ≤ 1000000000 := by omega
 have Hkl := Lib.hid (show kl ≤ 1000000000 by omega)
 have HT := Lib.hid ht
 obtain ⟨i25, hi25, hs25⟩ := info25
 have HI := Lib.hid (And.intro hi25 hs25)
 rw [hkn, hnv]
 clear hks hvs hA hv hsz h hi25 hs25 hkl hvl hvc hz hg ht
 by_cases hz0 : z = 0
 · subst hz0
   rw [if_neg (by simp)]
   by_cases hk6 : k = 6
   · rw [if_neg (by simp [hk6])]
     have Hlen := Lib.hid (formed_len (check_formed Hz.out) hk6)
     subst hk6
     rcases hid : idxK key ks with _ | i
     · have Hid2 := Lib.hid (show idxI (idxK key ks) = -1 by rw [hid]; rfl)
       clear hid hkn hnv
       go_enter Tryd.func31, Tryd.ntmps31
       go_wp2_with (first
        | ((with_reducible refine at_dst (N := 2) rfl ?_); go_must (refine ev_box (cs := #[.int .i64 6, .bool b, .int .i64 n, .string t, .slice kA kl kc, .slice vA nv vc]) rfl rfl rfl ?_; intro g1 w1 hg1 hl1 hb1 hk1)
           have Hb1 := Lib.hid hb1
           have Hg1 := Lib.hid (And.intro hg1 hl1)
           have HK := Lib.hid hk1
           (try clear c0 c1 c2 c3 c4 c5)
           have c0 := (blk_cell Hb1.out 0).trans rfl
           have c1 := (blk_cell Hb1.out 1).trans rfl
           have c2 := (blk_cell Hb1.out 2).trans rfl
           have c3 := (blk_cell Hb1.out 3).trans rfl
           have c4 := (blk_cell Hb1.out 4).trans rfl
           have c5 := (blk_cell Hb1.out 5).trans rfl
           clear hg1 hl1 hb1 hk1
           (try simp only [PU]))
        | ((with_reducible refine at_dst (N := 4) rfl ?_); go_must (refine ev_alloc rfl rfl zero25 rfl ?_; intro g2 w2 hg2 hl2 hb2 hk2)
           have Hb1 := Lib.hid (hk2.blk Hb1.out id)
           have Hb2 := Lib.hid hb2
           have Hg2 := Lib.hid (show W.heap.size ≤ g1 ∧ W.heap.size ≤ g2 ∧ g1 < g2 ∧ g2 < w2.heap.size from ⟨Hg1.out.1, Nat.le_trans HK.out.size hg2, Nat.lt_of_lt_of_le Hg1.out.2 hg2, hl2⟩)
           have HK := Lib.hid (HK.out.trans hk2 (fun _ _ h => h))
           (try clear c0 c1 c2 c3 c4 c5)
           have c0 := (blk_cell Hb1.out 0).trans rfl
           have c1 := (blk_cell Hb1.out 1).trans rfl
           have c2 := (blk_cell Hb1.out 2).trans rfl
           have c3 := (blk_cell Hb1.out 3).trans rfl
           have c4 := (blk_cell Hb1.out 4).trans rfl
           have c5 := (blk_cell Hb1.out 5).trans rfl
           clear hg2 hl2 hb2 hk2
           (try simp only [PU]))
        | (go_at_call 14; go_must (refine (check14 (Hx.out.after HK.out) (Tab.up (HT.out.keep HK.out.any) HK.out.size) Hsz.out.2).mono ?_; rintro e w3 ⟨rfl, hk3⟩; rw [Hz.out])
           have Hb1 := Lib.hid (hk3.blk Hb1.out id)
           have Hb2 := Lib.hid (hk3.blk Hb2.out id)
           have HK := Lib.hid (HK.out.trans hk3 (fun _ _ h => h))
           (try clear c0 c1 c2 c3 c4 c5)
           have c0 := (blk_cell Hb1.out 0).trans rfl
           have c1 := (blk_cell Hb1.out 1).trans rfl
           have c2 := (blk_cell Hb1.out 2).trans rfl
           have c3 := (blk_cell Hb1.out 3).trans rfl
           have c4 := (blk_cell Hb1.out 4).trans rfl
           have c5 := (blk_cell Hb1.out 5).trans rfl
           clear hk3
           (try simp only [PU]))
        | (go_at_call 60; go_must (refine (find60 (Hx.out.after HK.out) (by simp only [J.keys]; rw [Hkn.out.1]; exact Hkl.out)).mono ?_; rintro e w4 ⟨rfl, hk4⟩; simp only [J.keys]; rw [Hid2.out])
           have Hb1 := Lib.hid (hk4.blk Hb1.out id)
           have Hb2 := Lib.hid (hk4.blk Hb2.out id)
           have HK := Lib.hid (HK.out.trans hk4 (fun _ _ h => h))
           (try clear c0 c1 c2 c3 c4 c5)
           have c0 := (blk_cell Hb1.out 0).trans rfl
           have c1 := (blk_cell Hb1.out 1).trans rfl
           have c2 := (blk_cell Hb1.out 2).trans rfl
           have c3 := (blk_cell Hb1.out 3).trans rfl
           have c4 := (blk_cell Hb1.out 4).trans rfl
           have c5 := (blk_cell Hb1.out 5).trans rfl
           clear hk4
           (try simp only [PU]))
        | ((with_reducible refine at_store (t := 25) (p := 4) rfl ?_); go_must (refine ev_store (cs' := #[.int .i64 0, .bool false, .int .i64 0, .string ByteArray.empty, .slice none 0 0, .slice none 0 0]) rfl rfl rfl rfl rfl rfl HI.out.1 HI.out.2 rfl Hb2.out (Nat.le_of_ble_eq_true rfl) rfl ?_; intro w9 hb9 hk9)
           have Hb9 := Lib.hid hb9
           have HK9 := Lib.hid (show Keeps Nob W w9 from HK.out.trans hk9 (fun i hi e => by have := Hg2.out; omega))
           clear hb9 hk9 c0 c1 c2 c3 c4 c5
           have d0 := (blk_cell Hb9.out 0).trans rfl
           have d1 := (blk_cell Hb9.out 1).trans rfl
           have d2 := (blk_cell Hb9.out 2).trans rfl
           have d3 := (blk_cell Hb9.out 3).trans rfl
           have d4 := (blk_cell Hb9.out 4).trans rfl
           have d5 := (blk_cell Hb9.out 5).trans rfl
           (try simp only [PU]))
       )
       refine bodyPost_ret (results_ct (x := .agg #[.int .i64 0, .bool false, .int .i64 0, .string ByteArray.empty, .slice none 0 0, .slice none 0 0]) rfl _ _ rfl (by go_simp) rfl) rfl ?_
       (try rw [show (match (none : Option Nat) with | none => (zJ, 5) | some i => (vs.getD i default, 0)) = ((zJ, 5) : J × Int) from rfl])
       exact ⟨⟨_, rfl, zval⟩, HK9.out⟩
     · have Hid2 := Lib.hid (show idxI (idxK key ks) = (i : Int) by rw [hid]; rfl)
       have hin : i < nv := by rw [← hnv, ← Hlen.out]; exact (idxK_some hid).1
       obtain ⟨bv, ov, rfl, -, h6⟩ := HA.out i hin
       have hjx := HV.out i hin
       have hsix := hjx.six
       have Hjs := Lib.hid (show sizeJ (vs.getD i default) ≤ 1000000000 by
        have := size_get (vs := vs) (i := i) (by omega)
        have h2 := Hsz.out.1
        unfold sizeJ at h2
        omega)
       have hini : (i : Int) < (nv : Int) := by omega
       generalize u i 0 = x0 at *
       generalize u i 1 = x1 at *
       generalize u i 2 = x2 at *
       generalize u i 3 = x3 at *
       generalize u i 4 = x4 at *
       generalize u i 5 = x5 at *
       obtain ⟨y0, y1, y2, y3, yA, yn, yc, yB, ym, yd, ⟨rfl, rfl, rfl⟩, rfl, rfl, rfl⟩ := hsix
       have H6 := Lib.hid h6
       have Hjx := Lib.hid hjx
       obtain ⟨vj, hvj⟩ : ∃ y, vs.getD i default = y := ⟨_, rfl⟩
       rw [hvj] at Hjx Hjs
       have Hvj := Lib.hid hvj
       clear hvj
       clear hid hkn hnv h6 hjx
       go_enter Tryd.func31, Tryd.ntmps31
       go_upto_region 9 with (first
        | ((with_reducible refine at_dst (N := 2) rfl ?_); go_must (refine ev_box (cs := #[.int .i64 6, .bool b, .int .i64 n, .string t, .slice kA kl kc, .slice (some ⟨bv, ov, none⟩) nv vc]) rfl rfl rfl ?_; intro g1 w1 hg1 hl1 hb1 hk1)
           have Hb1 := Lib.hid hb1
           have Hg1 := Lib.hid (And.intro hg1 hl1)
           have HK := Lib.hid hk1
           (try clear c0 c1 c2 c3 c4 c5)
           have c0 := (blk_cell Hb1.out 0).trans rfl
           have c1 := (blk_cell Hb1.out 1).trans rfl
           have c2 := (blk_cell Hb1.out 2).trans rfl
           have c3 := (blk_cell Hb1.out 3).trans rfl
           have c4 := (blk_cell Hb1.out 4).trans rfl
           have c5 := (blk_cell Hb1.out 5).trans rfl
           clear hg1 hl1 hb1 hk1
           (try simp only [PU]))
        | ((with_reducible refine at_dst (N := 4) rfl ?_); go_must (refine ev_alloc rfl rfl zero25 rfl ?_; intro g2 w2 hg2 hl2 hb2 hk2)
           have Hb1 := Lib.hid (hk2.blk Hb1.out id)
           have Hb2 := Lib.hid hb2
           have Hg2 := Lib.hid (show W.heap.size ≤ g1 ∧ W.heap.size ≤ g2 ∧ g1 < g2 ∧ g2 < w2.heap.size from ⟨Hg1.out.1, Nat.le_trans HK.out.size hg2, Nat.lt_of_lt_of_le Hg1.out.2 hg2, hl2⟩)
           have HK := Lib.hid (HK.out.trans hk2 (fun _ _ h => h))
           (try clear c0 c1 c2 c3 c4 c5)
           have c0 := (blk_cell Hb1.out 0).trans rfl
           have c1 := (blk_cell Hb1.out 1).trans rfl
           have c2 := (blk_cell Hb1.out 2).trans rfl
           have c3 := (blk_cell Hb1.out 3).trans rfl
           have c4 := (blk_cell Hb1.out 4).trans rfl
           have c5 := (blk_cell Hb1.out 5).trans rfl
           clear hg2 hl2 hb2 hk2
           (try simp only [PU]))
        | (go_at_call 14; go_must (refine (check14 (Hx.out.after HK.out) (Tab.up (HT.out.keep HK.out.any) HK.out.size) Hsz.out.2).mono ?_; rintro e w3 ⟨rfl, hk3⟩; rw [Hz.out])
           have Hb1 := Lib.hid (hk3.blk Hb1.out id)
           have Hb2 := Lib.hid (hk3.blk Hb2.out id)
           have HK := Lib.hid (HK.out.trans hk3 (fun _ _ h => h))
           (try clear c0 c1 c2 c3 c4 c5)
           have c0 := (blk_cell Hb1.out 0).trans rfl
           have c1 := (blk_cell Hb1.out 1).trans rfl
           have c2 := (blk_cell Hb1.out 2).trans rfl
           have c3 := (blk_cell Hb1.out 3).trans rfl
           have c4 := (blk_cell Hb1.out 4).trans rfl
           have c5 := (blk_cell Hb1.out 5).trans rfl
           clear hk3
           (try simp only [PU]))
        | (go_at_call 60; go_must (refine (find60 (Hx.out.after HK.out) (by simp only [J.keys]; rw [Hkn.out.1]; exact Hkl.out)).mono ?_; rintro e w4 ⟨rfl, hk4⟩; simp only [J.keys]; rw [Hid2.out])
           have Hb1 := Lib.hid (hk4.blk Hb1.out id)
           have Hb2 := Lib.hid (hk4.blk Hb2.out id)
           have HK := Lib.hid (HK.out.trans hk4 (fun _ _ h => h))
           (try clear c0 c1 c2 c3 c4 c5)
           have c0 := (blk_cell Hb1.out 0).trans rfl
           have c1 := (blk_cell Hb1.out 1).trans rfl
           have c2 := (blk_cell Hb1.out 2).trans rfl
           have c3 := (blk_cell Hb1.out 3).trans rfl
           have c4 := (blk_cell Hb1.out 4).trans rfl
           have c5 := (blk_cell Hb1.out 5).trans rfl
           clear hk4
           (try simp only [PU]))
       )
       obtain ⟨⟨e0, e1, e2⟩, e3, e4, e5⟩ := H6.out.keep HK.out id
       have Hxo := Lib.hid (Hjx.out.after HK.out)
       go_wp2_with (first
        | ((with_reducible refine at_store (t := 25) (p := 4) rfl ?_); go_must (refine ev_store (cs' := #[.int .i64 y0, .bool y1, .int .i64 y2, .string y3, .slice yA yn yc, .slice yB ym yd]) rfl rfl rfl rfl rfl rfl HI.out.1 HI.out.2 rfl Hb2.out (Nat.le_of_ble_eq_true rfl) rfl ?_; intro w9 hb9 hk9)
           have Hb9 := Lib.hid hb9
           have HV9 := Lib.hid (Hxo.out.keep (X' := fun b => b < w9.heap.size) hk9 (fun b _ hb e => by have := Hg2.out; omega) (fun b hb _ => Nat.lt_of_lt_of_le hb hk9.size))
           have HK9 := Lib.hid (show Keeps Nob W w9 from HK.out.trans hk9 (fun i hi e => by have := Hg2.out; omega))
           clear hb9 hk9
           have d0 := (blk_cell Hb9.out 0).trans rfl
           have d1 := (blk_cell Hb9.out 1).trans rfl
           have d2 := (blk_cell Hb9.out 2).trans rfl
           have d3 := (blk_cell Hb9.out 3).trans rfl
           have d4 := (blk_cell Hb9.out 4).trans rfl
           have d5 := (blk_cell Hb9.out 5).trans rfl
           (try simp only [PU]))
       )
       refine bodyPost_ret (results_ct (x := .agg #[.int .i64 y0, .bool y1, .int .i64 y2, .string y3, .slice yA yn yc, .slice yB ym yd]) rfl _ _ rfl (by go_simp) rfl) rfl ?_
       exact ⟨⟨_, rfl, by show JX w9 _ _ (vs.getD i default); rw [Hvj.out]; exact HV9.out⟩, HK9.out⟩
   · rw [if_pos (by simpa using hk6)]
     have hk6b : (k == 6) = false := beq_eq_false_iff_ne.2 hk6
     clear hkn hnv
     go_enter Tryd.func31, Tryd.ntmps31
     go_wp2_with (first
      | ((with_reducible refine at_dst (N := 2) rfl ?_); go_must (refine ev_box (cs := #[.int .i64 k, .bool b, .int .i64 n, .string t, .slice kA kl kc, .slice vA nv vc]) rfl rfl rfl ?_; intro g1 w1 hg1 hl1 hb1 hk1)
         have Hb1 := Lib.hid hb1
         have Hg1 := Lib.hid (And.intro hg1 hl1)
         have HK := Lib.hid hk1
         (try clear c0 c1 c2 c3 c4 c5)
         have c0 := (blk_cell Hb1.out 0).trans rfl
         have c1 := (blk_cell Hb1.out 1).trans rfl
         have c2 := (blk_cell Hb1.out 2).trans rfl
         have c3 := (blk_cell Hb1.out 3).trans rfl
         have c4 := (blk_cell Hb1.out 4).trans rfl
         have c5 := (blk_cell Hb1.out 5).trans rfl
         clear hg1 hl1 hb1 hk1
         (try simp only [PU]))
      | ((with_reducible refine at_dst (N := 4) rfl ?_); go_must (refine ev_alloc rfl rfl zero25 rfl ?_; intro g2 w2 hg2 hl2 hb2 hk2)
         have Hb1 := Lib.hid (hk2.blk Hb1.out id)
         have Hb2 := Lib.hid hb2
         have Hg2 := Lib.hid (show W.heap.size ≤ g1 ∧ W.heap.size ≤ g2 ∧ g1 < g2 ∧ g2 < w2.heap.size from ⟨Hg1.out.1, Nat.le_trans HK.out.size hg2, Nat.lt_of_lt_of_le Hg1.out.2 hg2, hl2⟩)
         have HK := Lib.hid (HK.out.trans hk2 (fun _ _ h => h))
         (try clear c0 c1 c2 c3 c4 c5)
         have c0 := (blk_cell Hb1.out 0).trans rfl
         have c1 := (blk_cell Hb1.out 1).trans rfl
         have c2 := (blk_cell Hb1.out 2).trans rfl
         have c3 := (blk_cell Hb1.out 3).trans rfl
         have c4 := (blk_cell Hb1.out 4).trans rfl
         have c5 := (blk_cell Hb1.out 5).trans rfl
         clear hg2 hl2 hb2 hk2
         (try simp only [PU]))
      | (go_at_call 14; go_must (refine (check14 (Hx.out.after HK.out) (Tab.up (HT.out.keep HK.out.any) HK.out.size) Hsz.out.2).mono ?_; rintro e w3 ⟨rfl, hk3⟩; rw [Hz.out])
         have Hb1 := Lib.hid (hk3.blk Hb1.out id)
         have Hb2 := Lib.hid (hk3.blk Hb2.out id)
         have HK := Lib.hid (HK.out.trans hk3 (fun _ _ h => h))
         (try clear c0 c1 c2 c3 c4 c5)
         have c0 := (blk_cell Hb1.out 0).trans rfl
         have c1 := (blk_cell Hb1.out 1).trans rfl
         have c2 := (blk_cell Hb1.out 2).trans rfl
         have c3 := (blk_cell Hb1.out 3).trans rfl
         have c4 := (blk_cell Hb1.out 4).trans rfl
         have c5 := (blk_cell Hb1.out 5).trans rfl
         clear hk3
         (try simp only [PU]))
      | (go_at_call 60; go_must (refine (find60 (Hx.out.after HK.out) (by simp only [J.keys]; rw [Hkn.out.1]; exact Hkl.out)).mono ?_; rintro e w4 ⟨rfl, hk4⟩; simp only [J.keys]; rw [Hid2.out])
         have Hb1 := Lib.hid (hk4.blk Hb1.out id)
         have Hb2 := Lib.hid (hk4.blk Hb2.out id)
         have HK := Lib.hid (HK.out.trans hk4 (fun _ _ h => h))
         (try clear c0 c1 c2 c3 c4 c5)
         have c0 := (blk_cell Hb1.out 0).trans rfl
         have c1 := (blk_cell Hb1.out 1).trans rfl
         have c2 := (blk_cell Hb1.out 2).trans rfl
         have c3 := (blk_cell Hb1.out 3).trans rfl
         have c4 := (blk_cell Hb1.out 4).trans rfl
         have c5 := (blk_cell Hb1.out 5).trans rfl
         clear hk4
         (try simp only [PU]))
      | ((with_reducible refine at_store (t := 25) (p := 4) rfl ?_); go_must (refine ev_store (cs' := #[.int .i64 0, .bool false, .int .i64 0, .string ByteArray.empty, .slice none 0 0, .slice none 0 0]) rfl rfl rfl rfl rfl rfl HI.out.1 HI.out.2 rfl Hb2.out (Nat.le_of_ble_eq_true rfl) rfl ?_; intro w9 hb9 hk9)
         have Hb9 := Lib.hid hb9
         have HK9 := Lib.hid (show Keeps Nob W w9 from HK.out.trans hk9 (fun i hi e => by have := Hg2.out; omega))
         clear hb9 hk9 c0 c1 c2 c3 c4 c5
         have d0 := (blk_cell Hb9.out 0).trans rfl
         have d1 := (blk_cell Hb9.out 1).trans rfl
         have d2 := (blk_cell Hb9.out 2).trans rfl
         have d3 := (blk_cell Hb9.out 3).trans rfl
         have d4 := (blk_cell Hb9.out 4).trans rfl
         have d5 := (blk_cell Hb9.out 5).trans rfl
         (try simp only [PU]))
     )
     refine bodyPost_ret (results_ct (x := .agg #[.int .i64 0, .bool false, .int .i64 0, .string ByteArray.empty, .slice none 0 0, .slice none 0 0]) rfl _ _ rfl (by go_simp) rfl) rfl ?_
     (try rw [show ((zJ, 2) : J × Int) = (zJ, 2) from rfl])
     exact ⟨⟨_, rfl, zval⟩, HK9.out⟩
 · rw [if_pos hz0]
   have hz0b : (z == 0) = false := beq_eq_false_iff_ne.2 hz0
   clear hkn hnv
   go_enter Tryd.func31, Tryd.ntmps31
   go_wp2_with (first
    | ((with_reducible refine at_dst (N := 2) rfl ?_); go_must (refine ev_box (cs := #[.int .i64 k, .bool b, .int .i64 n, .string t, .slice kA kl kc, .slice vA nv vc]) rfl rfl rfl ?_; intro g1 w1 hg1 hl1 hb1 hk1)
       have Hb1 := Lib.hid hb1
       have Hg1 := Lib.hid (And.intro hg1 hl1)
       have HK := Lib.hid hk1
       (try clear c0 c1 c2 c3 c4 c5)
       have c0 := (blk_cell Hb1.out 0).trans rfl
       have c1 := (blk_cell Hb1.out 1).trans rfl
       have c2 := (blk_cell Hb1.out 2).trans rfl
       have c3 := (blk_cell Hb1.out 3).trans rfl
       have c4 := (blk_cell Hb1.out 4).trans rfl
       have c5 := (blk_cell Hb1.out 5).trans rfl
       clear hg1 hl1 hb1 hk1
       (try simp only [PU]))
    | ((with_reducible refine at_dst (N := 4) rfl ?_); go_must (refine ev_alloc rfl rfl zero25 rfl ?_; intro g2 w2 hg2 hl2 hb2 hk2)
       have Hb1 := Lib.hid (hk2.blk Hb1.out id)
       have Hb2 := Lib.hid hb2
       have Hg2 := Lib.hid (show W.heap.size ≤ g1 ∧ W.heap.size ≤ g2 ∧ g1 < g2 ∧ g2 < w2.heap.size from ⟨Hg1.out.1, Nat.le_trans HK.out.size hg2, Nat.lt_of_lt_of_le Hg1.out.2 hg2, hl2⟩)
       have HK := Lib.hid (HK.out.trans hk2 (fun _ _ h => h))
       (try clear c0 c1 c2 c3 c4 c5)
       have c0 := (blk_cell Hb1.out 0).trans rfl
       have c1 := (blk_cell Hb1.out 1).trans rfl
       have c2 := (blk_cell Hb1.out 2).trans rfl
       have c3 := (blk_cell Hb1.out 3).trans rfl
       have c4 := (blk_cell Hb1.out 4).trans rfl
       have c5 := (blk_cell Hb1.out 5).trans rfl
       clear hg2 hl2 hb2 hk2
       (try simp only [PU]))
    | (go_at_call 14; go_must (refine (check14 (Hx.out.after HK.out) (Tab.up (HT.out.keep HK.out.any) HK.out.size) Hsz.out.2).mono ?_; rintro e w3 ⟨rfl, hk3⟩; rw [Hz.out])
       have Hb1 := Lib.hid (hk3.blk Hb1.out id)
       have Hb2 := Lib.hid (hk3.blk Hb2.out id)
       have HK := Lib.hid (HK.out.trans hk3 (fun _ _ h => h))
       (try clear c0 c1 c2 c3 c4 c5)
       have c0 := (blk_cell Hb1.out 0).trans rfl
       have c1 := (blk_cell Hb1.out 1).trans rfl
       have c2 := (blk_cell Hb1.out 2).trans rfl
       have c3 := (blk_cell Hb1.out 3).trans rfl
       have c4 := (blk_cell Hb1.out 4).trans rfl
       have c5 := (blk_cell Hb1.out 5).trans rfl
       clear hk3
       (try simp only [PU]))
    | (go_at_call 60; go_must (refine (find60 (Hx.out.after HK.out) (by simp only [J.keys]; rw [Hkn.out.1]; exact Hkl.out)).mono ?_; rintro e w4 ⟨rfl, hk4⟩; simp only [J.keys]; rw [Hid2.out])
       have Hb1 := Lib.hid (hk4.blk Hb1.out id)
       have Hb2 := Lib.hid (hk4.blk Hb2.out id)
       have HK := Lib.hid (HK.out.trans hk4 (fun _ _ h => h))
       (try clear c0 c1 c2 c3 c4 c5)
       have c0 := (blk_cell Hb1.out 0).trans rfl
       have c1 := (blk_cell Hb1.out 1).trans rfl
       have c2 := (blk_cell Hb1.out 2).trans rfl
       have c3 := (blk_cell Hb1.out 3).trans rfl
       have c4 := (blk_cell Hb1.out 4).trans rfl
       have c5 := (blk_cell Hb1.out 5).trans rfl
       clear hk4
       (try simp only [PU]))
    | ((with_reducible refine at_store (t := 25) (p := 4) rfl ?_); go_must (refine ev_store (cs' := #[.int .i64 0, .bool false, .int .i64 0, .string ByteArray.empty, .slice none 0 0, .slice none 0 0]) rfl rfl rfl rfl rfl rfl HI.out.1 HI.out.2 rfl Hb2.out (Nat.le_of_ble_eq_true rfl) rfl ?_; intro w9 hb9 hk9)
       have Hb9 := Lib.hid hb9
       have HK9 := Lib.hid (show Keeps Nob W w9 from HK.out.trans hk9 (fun i hi e => by have := Hg2.out; omega))
       clear hb9 hk9 c0 c1 c2 c3 c4 c5
       have d0 := (blk_cell Hb9.out 0).trans rfl
       have d1 := (blk_cell Hb9.out 1).trans rfl
       have d2 := (blk_cell Hb9.out 2).trans rfl
       have d3 := (blk_cell Hb9.out 3).trans rfl
       have d4 := (blk_cell Hb9.out 4).trans rfl
       have d5 := (blk_cell Hb9.out 5).trans rfl
       (try simp only [PU]))
   )
   refine bodyPost_ret (results_ct (x := .agg #[.int .i64 0, .bool false, .int .i64 0, .string ByteArray.empty, .slice none 0 0, .slice none 0 0]) rfl _ _ rfl (by go_simp) rfl) rfl ?_
   (try rw [show ((zJ, z) : J × Int) = (zJ, z) from rfl])
   exact ⟨⟨_, rfl, zval⟩, HK9.out⟩
end Go.Proofs.WV

namespace Go.Proofs.WV
open Go.RowKit Go.Proofs.KL Go.Proofs.WM

def putOut (key : ByteArray) (x : J) : J → J
 | .mk k b n t ks vs => match idxK key ks with
   | none => .mk k b n t (ks ++ [key]) (vs ++ [x])
   | some i => .mk k b n t ks (vs.set i x)
theorem putOut_mk (key : ByteArray) (x : J) (k : Int) (b : Bool) (n : Int) (t : ByteArray) (ks : List ByteArray) (vs : List J) : putOut key x (.mk k b n t ks vs) = match idxK key ks with
  | none => .mk k b n t (ks ++ [key]) (vs ++ [x])
  | some i => .mk k b n t ks (vs.set i x) := rfl
theorem getJ_mk (key : ByteArray) (k : Int) (b : Bool) (n : Int) (t : ByteArray) (ks : List ByteArray) (vs : List J) : getJ (.mk k b n t ks vs) key = if checkJ (.mk k b n t ks vs) ≠ 0 then (zJ, checkJ (.mk k b n t ks vs)) else if k ≠ 6 then (zJ, 2) else match idxK key ks with
  | none => (zJ, 5)
  | some i => (vs.getD i default, 0) := rfl
def putJ (v : J) (key : ByteArray) (x : J) : J × Int :=
 if checkJ v ≠ 0 then (zJ, checkJ v) else if checkJ x ≠ 0 then (zJ, checkJ x) else if v.kind ≠ 6 then (zJ, 2) else if checkJ (putOut key x v) ≠ 0 then (zJ, 3) else (putOut key x v, 0)
theorem sizeL_set : ∀ (vs : List J) (i : Nat) (x : J), sizeL (vs.set i x) ≤ sizeL vs + sizeJ x
 | [], _, _ => by simp [sizeL]
 | v :: vs, 0, x => by simp only [List.set_cons_zero, sizeL]; omega
 | v :: vs, i + 1, x => by have := sizeL_set vs i x; simp only [List.set_cons_succ, sizeL]; omega
theorem sizeL_app : ∀ (a b : List J), sizeL (a ++ b) = sizeL a + sizeL b
 | [], b => by simp [sizeL]
 | v :: a, b => by have := sizeL_app a b; simp only [List.cons_append, sizeL]; omega
theorem putOut_size (key : ByteArray) (x v : J) : sizeJ (putOut key x v) ≤ sizeJ v + sizeJ x + 1 + key.size := by
 obtain ⟨k, b, n, t, ks, vs⟩ := v
 rw [putOut_mk]
 rcases hid : idxK key ks with _ | i
 · show sizeJ (.mk k b n t (ks ++ [key]) (vs ++ [x])) ≤ _
   simp only [sizeJ, sizeL_app, sizeL, List.length_append, List.length_cons, List.length_nil, List.map_append, List.map_cons, List.map_nil, List.sum_append, List.sum_cons, List.sum_nil]
   omega
 · show sizeJ (.mk k b n t ks (vs.set i x)) ≤ _
   have := sizeL_set vs i x
   simp only [sizeJ]
   omega
end Go.Proofs.WV

namespace Go.Proofs.KL
open Go.RowKit
inductive PC where
 | done : PC
 | q (i : Nat) (r : PC) : PC
 | qf (i : Nat) (r : PC) : PC
 | br (l : List Nat) (f : Nat → PC) : PC
 | brc (l : List Nat) (f : Nat → PC) : PC
section
variable {P : Program} {ops : Array Oper} {Q : Exit → Act → World → Prop} {S : World → Prop}
def waitsB (md : Region.Mode) (ops : Array Oper) (c i : Nat) : Bool := match ops[c]? with
 | none => false
 | some o => o.after.any (fun e => Region.binds md e && e.on == i)
def wpAnyC (P : Program) (md : Region.Mode) (ops : Array Oper) (Q : Exit → Act → World → Prop) (S : World → Prop) (c : Nat) : Nat → Array Bool → Act → World → Prop
 | 0, listed, a, w => Region.ready md ops listed = [] ∧ Q .normal a w
 | fuel + 1, listed, a, w => (Region.ready md ops listed = [] → Q .normal a w) ∧
   ∀ i ∈ Region.ready md ops listed, wpOp P ops Q i (fun a' w' => ((listed.setIfInBounds i true).getD c true = false → S w') ∧ wpAnyC P md ops Q S c fuel (listed.setIfInBounds i true) a' w') a w
theorem wpAnyC_plain {md : Region.Mode} {c : Nat} : ∀ (fuel : Nat) (listed : Array Bool) (a : Act) (w : World), wpAnyC P md ops Q S c fuel listed a w → wpAny P md ops Q fuel listed a w
 | 0, _, _, _, h => h
 | fuel + 1, _, _, _, h => ⟨h.1, fun i hi => wpOp_mono (fun a' w' h' => wpAnyC_plain fuel _ a' w' h'.2) (h.2 i hi)⟩
theorem waits_not {md : Region.Mode} {c i j : Nat} {listed : Array Bool} (hw : waitsB md ops c i = true) (hi : i ∈ Region.ready md ops listed) (hj : j ∈ Region.ready md ops listed) : j ≠ c := by
 rintro rfl
 obtain ⟨_, oj, hoj, hall⟩ := mem_ready.1 hj
 unfold waitsB at hw
 rw [hoj] at hw
 obtain ⟨e, he, hb⟩ := Array.any_eq_true'.1 hw
 simp only [Bool.and_eq_true, beq_iff_eq] at hb
 have h1 := hall e he hb.1
 have h0 := (mem_ready.1 hi).1
 rw [hb.2] at h1
 rcases Nat.lt_or_ge i listed.size with h' | h'
 · simp [h'] at h0 h1; rw [h0] at h1; cases h1
 · simp [Array.getElem?_eq_none h'] at h1
theorem wpAnyC_first {md : Region.Mode} {c i : Nat} {oi : Oper} {v : Value} (hi : ops[i]? = some oi) (hs : Region.noSelect ops = true) (hQ : ∀ c a w, Q (.panic c) (a.put oi.dst v) w → Q (.panic c) a w) (hw : waitsB md ops c i = true) :
  ∀ (fuel : Nat) (listed : Array Bool) (a : Act) (w : World),
   (∀ j oj, ops[j]? = some oj → j ≠ i → listed.getD j true = false → (∀ e ∈ oj.after, Region.binds md e = true → e.on ≠ i) → oi.apart ops oj = true) →
   i ∈ Region.ready md ops listed → YieldsIf P ops S oi v a → listed.getD c true = false → S w →
   wpAnyC P md ops Q S c fuel (listed.setIfInBounds i true) (a.put oi.dst v) w → wpAnyC P md ops Q S c (fuel + 1) listed a w := by
 have hsel := Region.noSelect_spec hs
 intro fuel
 induction fuel with
 | zero =>
   intro listed a w _ hr hy hc hS H
   refine ⟨fun h => (by rw [h] at hr; cases hr), fun j hj => ?_⟩
   by_cases hji : j = i
   · subst hji; exact hy.wpOp hi hS ⟨fun _ => hS, H⟩
   · have := ready_mono hj hji
     rw [H.1] at this
     cases this
 | succ fuel ih =>
   intro listed a w hfree hr hy hc hS H
   refine ⟨fun h => (by rw [h] at hr; cases hr), fun j hj => ?_⟩
   by_cases hji : j = i
   · subst hji; exact hy.wpOp hi hS ⟨fun _ => hS, H⟩
   · have hjc := waits_not hw hr hj
     have hic := waits_not hw hr hr
     have h1 := H.2 j (ready_mono hj hji)
     obtain ⟨hjun, oj, hoj, hall⟩ := mem_ready.1 hj
     have hnot : ∀ e ∈ oj.after, Region.binds md e = true → e.on ≠ i := fun e he hb heq => by
      have h1 := hall e he hb
      have h0 := (mem_ready.1 hr).1
      rw [heq] at h1
      rcases Nat.lt_or_ge i listed.size with h' | h'
      · simp [h'] at h0 h1; rw [h0] at h1; cases h1
      · simp [Array.getElem?_eq_none h'] at h1
     have h2 := wpOp_putIf hoj (hfree j oj hoj hji hjun hnot) (fun cs b => hsel i oi cs b hi) (fun cs b => hsel j oj cs b hoj) hQ hy h1
     have hfree' : ∀ k ok, ops[k]? = some ok → k ≠ i → (listed.setIfInBounds j true).getD k true = false →
       (∀ e ∈ ok.after, Region.binds md e = true → e.on ≠ i) → oi.apart ops ok = true := fun k ok hk hki hun hno => by
      refine hfree k ok hk hki ?_ hno
      by_cases hjk : j = k
      · subst hjk; exact hjun
      · rw [getD_set_ne true hjk] at hun; exact hun
     have hcj : (listed.setIfInBounds j true).getD c true = false := by rw [getD_set_ne true hjc]; exact hc
     have hcij : ((listed.setIfInBounds i true).setIfInBounds j true).getD c true = false := by rw [getD_set_ne true hjc, getD_set_ne true hic]; exact hc
     refine wpOp_mono (fun a' w' h3 => ⟨fun _ => h3.2.1 hcij, ih (listed.setIfInBounds j true) a' w' hfree' (ready_mono hr (Ne.symm hji)) h3.1 hcj (h3.2.1 hcij) ?_⟩) h2
     rw [Array.setIfInBounds_comm _ _ hji]
     exact h3.2.2
theorem wpAnyC_free {md : Region.Mode} {c i : Nat} {oi : Oper} {v : Value} (hi : ops[i]? = some oi) (hs : Region.noSelect ops = true) (hQ : ∀ c a w, Q (.panic c) (a.put oi.dst v) w → Q (.panic c) a w) (hic : i ≠ c) :
  ∀ (fuel : Nat) (listed : Array Bool) (a : Act) (w : World),
   (∀ j oj, ops[j]? = some oj → j ≠ i → listed.getD j true = false → (∀ e ∈ oj.after, Region.binds md e = true → e.on ≠ i) → oi.apart ops oj = true) →
   i ∈ Region.ready md ops listed → YieldsIf P ops (fun _ => True) oi v a → (listed.getD c true = false → S w) →
   wpAnyC P md ops Q S c fuel (listed.setIfInBounds i true) (a.put oi.dst v) w → wpAnyC P md ops Q S c (fuel + 1) listed a w := by
 have hsel := Region.noSelect_spec hs
 intro fuel
 induction fuel with
 | zero =>
   intro listed a w _ hr hy hS H
   refine ⟨fun h => (by rw [h] at hr; cases hr), fun j hj => ?_⟩
   by_cases hji : j = i
   · subst hji; exact hy.wpOp hi trivial ⟨fun e => hS (by rw [getD_set_ne true hic] at e; exact e), H⟩
   · have := ready_mono hj hji
     rw [H.1] at this
     cases this
 | succ fuel ih =>
   intro listed a w hfree hr hy hS H
   refine ⟨fun h => (by rw [h] at hr; cases hr), fun j hj => ?_⟩
   by_cases hji : j = i
   · subst hji; exact hy.wpOp hi trivial ⟨fun e => hS (by rw [getD_set_ne true hic] at e; exact e), H⟩
   · have h1 := H.2 j (ready_mono hj hji)
     obtain ⟨hjun, oj, hoj, hall⟩ := mem_ready.1 hj
     have hnot : ∀ e ∈ oj.after, Region.binds md e = true → e.on ≠ i := fun e he hb heq => by
      have h1 := hall e he hb
      have h0 := (mem_ready.1 hr).1
      rw [heq] at h1
      rcases Nat.lt_or_ge i listed.size with h' | h'
      · simp [h'] at h0 h1; rw [h0] at h1; cases h1
      · simp [Array.getElem?_eq_none h'] at h1
     have h2 := wpOp_putIf hoj (hfree j oj hoj hji hjun hnot) (fun cs b => hsel i oi cs b hi) (fun cs b => hsel j oj cs b hoj) hQ hy h1
     have hfree' : ∀ k ok, ops[k]? = some ok → k ≠ i → (listed.setIfInBounds j true).getD k true = false →
       (∀ e ∈ ok.after, Region.binds md e = true → e.on ≠ i) → oi.apart ops ok = true := fun k ok hk hki hun hno => by
      refine hfree k ok hk hki ?_ hno
      by_cases hjk : j = k
      · subst hjk; exact hjun
      · rw [getD_set_ne true hjk] at hun; exact hun
     have hcm := Array.setIfInBounds_comm (xs := listed) true true (Ne.symm hji)
     have hcc : ((listed.setIfInBounds i true).setIfInBounds j true).getD c true = (listed.setIfInBounds j true).getD c true := by rw [hcm, getD_set_ne true hic]
     refine wpOp_mono (fun a' w' h3 => ⟨fun e => h3.2.1 (by rw [hcc]; exact e), ih (listed.setIfInBounds j true) a' w' hfree' (ready_mono hr (Ne.symm hji)) h3.1 (fun e => h3.2.1 (by rw [hcc]; exact e)) ?_⟩) h2
     rw [Array.setIfInBounds_comm _ _ hji]
     exact h3.2.2
def PC.ok (md : Region.Mode) (ops : Array Oper) (c : Nat) : PC → Nat → Array Bool → Bool
 | .done, _, listed => (Region.ready md ops listed).isEmpty
 | .q _ _, 0, _ => false
 | .q i r, fuel + 1, listed => (!listed.getD c true) && (waitsB md ops c i && (Region.free md ops listed i && ((Region.ready md ops listed).contains i && PC.ok md ops c r fuel (listed.setIfInBounds i true))))
 | .qf _ _, 0, _ => false
 | .qf i r, fuel + 1, listed => (i != c) && (Region.free md ops listed i && ((Region.ready md ops listed).contains i && PC.ok md ops c r fuel (listed.setIfInBounds i true)))
 | .br _ _, 0, _ => false
 | .br l f, fuel + 1, listed => (Region.ready md ops listed == l) && ((!l.isEmpty) && l.all (fun i => PC.ok md ops c (f i) fuel (listed.setIfInBounds i true)))
 | .brc _ _, 0, _ => false
 | .brc l f, fuel + 1, listed => (Region.ready md ops listed == l) && ((!l.isEmpty) && l.all (fun i => (listed.setIfInBounds i true).getD c true && PC.ok md ops c (f i) fuel (listed.setIfInBounds i true)))
def wpTreeC (P : Program) (ops : Array Oper) (Q : Exit → Act → World → Prop) (S : World → Prop) : PC → Act → World → Prop
 | .done, a, w => Q .normal a w
 | .q i r, a, w => ∃ o v, ops[i]? = some o ∧ YieldsIf P ops S o v a ∧ wpTreeC P ops Q S r (a.put o.dst v) w
 | .qf i r, a, w => ∃ o v, ops[i]? = some o ∧ YieldsIf P ops (fun _ => True) o v a ∧ wpTreeC P ops Q S r (a.put o.dst v) w
 | .br l f, a, w => ∀ i ∈ l, ∃ o, ops[i]? = some o ∧ wpList P ops (Exit.then (fun a' w' => S w' ∧ wpTreeC P ops Q S (f i) a' w') Q) [o] a w
 | .brc l f, a, w => ∀ i ∈ l, ∃ o, ops[i]? = some o ∧ wpList P ops (Exit.then (fun a' w' => wpTreeC P ops Q S (f i) a' w') Q) [o] a w
theorem wpAnyC_all {md : Region.Mode} {c fuel : Nat} {listed : Array Bool} {a : Act} {w : World} {rs : List Nat} (hr : Region.ready md ops listed = rs) (hne : rs ≠ [])
  (h : ∀ i ∈ rs, wpOp P ops Q i (fun a' w' => ((listed.setIfInBounds i true).getD c true = false → S w') ∧ wpAnyC P md ops Q S c fuel (listed.setIfInBounds i true) a' w') a w) : wpAnyC P md ops Q S c (fuel + 1) listed a w :=
 ⟨fun h0 => absurd (hr ▸ h0) hne, hr ▸ h⟩
theorem op_list {o : Oper} {j : Nat} {a : Act} {w : World} {K K' : Act → World → Prop} (ho : ops[j]? = some o) (key : ∀ a' w', K a' w' → K' a' w') (h : wpList P ops (Exit.then K Q) [o] a w) : wpOp P ops Q j K' a w := by
 unfold wpOp
 rw [ho]
 unfold wpList at h
 simp only
 split
 · rename_i hw
   rw [if_pos hw] at h
   rcases h with h | ⟨h1, h2⟩
   · refine .inl ?_
     have h' : o.wp P a w (fun a' w' => K a' w') Q := h
     exact Oper.wp_mono key h'
   · exact .inr ⟨h1, h2⟩
 · rename_i hw
   rw [if_neg hw] at h
   exact key _ _ h
theorem treec_sound {md : Region.Mode} {c : Nat} (hs : Region.noSelect ops = true) (hQ : ∀ c a d v w, Q (.panic c) (Act.put a d v) w → Q (.panic c) a w) :
  ∀ (t : PC) (fuel : Nat) (listed : Array Bool) (a : Act) (w : World), PC.ok md ops c t fuel listed = true → (listed.getD c true = false → S w) → wpTreeC P ops Q S t a w → wpAnyC P md ops Q S c fuel listed a w
 | .done, 0, listed, a, w, hB, _, h => ⟨by simpa [PC.ok] using hB, h⟩
 | .done, fuel + 1, listed, a, w, hB, _, h => by
   have hr : Region.ready md ops listed = [] := by simpa [PC.ok] using hB
   exact ⟨fun _ => h, by rw [hr]; simp⟩
 | .q i r, 0, listed, a, w, hB, hS, h => by simp [PC.ok] at hB
 | .q i r, fuel + 1, listed, a, w, hB, hS, h => by
   obtain ⟨o, v, ho, hy, h⟩ := h
   simp only [PC.ok, Bool.and_eq_true] at hB
   obtain ⟨h1, h2, h3, h4, h5⟩ := hB
   have hc : listed.getD c true = false := by
    cases e : listed.getD c true with
    | false => rfl
    | true => rw [e] at h1; cases h1
   have hr : i ∈ Region.ready md ops listed := by simpa using h4
   exact wpAnyC_first ho hs (fun c a w => hQ c a _ _ w) h2 fuel listed a w (Region.free_spec ho h3) hr hy hc (hS hc)
    (treec_sound hs hQ r fuel _ _ _ h5 (fun _ => hS hc) h)
 | .qf i r, 0, listed, a, w, hB, hS, h => by simp [PC.ok] at hB
 | .qf i r, fuel + 1, listed, a, w, hB, hS, h => by
   obtain ⟨o, v, ho, hy, h⟩ := h
   simp only [PC.ok, Bool.and_eq_true, bne_iff_ne] at hB
   obtain ⟨h2, h3, h4, h5⟩ := hB
   have hr : i ∈ Region.ready md ops listed := by simpa using h4
   exact wpAnyC_free ho hs (fun c a w => hQ c a _ _ w) h2 fuel listed a w (Region.free_spec ho h3) hr hy hS
    (treec_sound hs hQ r fuel _ _ _ h5 (fun e => hS (by rw [getD_set_ne true h2] at e; exact e)) h)
 | .br l f, 0, listed, a, w, hB, hS, h => by simp [PC.ok] at hB
 | .br l f, fuel + 1, listed, a, w, hB, hS, h => by
   simp only [PC.ok, Bool.and_eq_true, beq_iff_eq] at hB
   refine wpAnyC_all hB.1 (by intro hn; rw [hn] at hB; simp at hB) (fun j hj => ?_)
   obtain ⟨o, ho, h⟩ := h j hj
   have hBj := List.all_eq_true.1 hB.2.2 j hj
   exact op_list ho (fun a' w' ⟨h1, h2⟩ => ⟨fun _ => h1, treec_sound hs hQ (f j) fuel _ _ _ hBj (fun _ => h1) h2⟩) h
 | .brc l f, 0, listed, a, w, hB, hS, h => by simp [PC.ok] at hB
 | .brc l f, fuel + 1, listed, a, w, hB, hS, h => by
   simp only [PC.ok, Bool.and_eq_true, beq_iff_eq] at hB
   refine wpAnyC_all hB.1 (by intro hn; rw [hn] at hB; simp at hB) (fun j hj => ?_)
   obtain ⟨o, ho, h⟩ := h j hj
   have hBj := List.all_eq_true.1 hB.2.2 j hj
   simp only [Bool.and_eq_true] at hBj
   have hn : (listed.setIfInBounds j true).getD c true = false → S w := fun e => by rw [hBj.1] at e; cases e
   exact op_list ho (fun a' w' h2 => ⟨fun e => by (rw [hBj.1] at e; cases e), treec_sound hs hQ (f j) fuel _ _ _ hBj.2 (fun e => by (rw [hBj.1] at e; cases e)) h2⟩) h
theorem then_normal {K : Act → World → Prop} {a : Act} {w : World} (h : K a w) : Exit.then K Q .normal a w := h
theorem wp_region_treec {id : Nat} {l : List Oper} {a : Act} {w : World} (c : Nat) (t : PC) (S : World → Prop) (hm : P.follows .mixedOrders = true) (hs : Region.noSelect l.toArray = true)
  (hB : PC.ok .any l.toArray c t l.toArray.size (Array.replicate l.toArray.size false) = true) (hQ : ∀ c a d v w, Q (.panic c) (Act.put a d v) w → Q (.panic c) a w)
  (hS : S w.drew) (h : wpTreeC P l.toArray Q S t a w.drew) : (Code.region id l.toArray true).wp P Q a w :=
 wp_region_any hm (wpAnyC_plain _ _ _ _ (treec_sound hs hQ t _ _ _ _ hB (fun _ => hS) h))
theorem treec_nil {a : Act} {w : World} (h : Q .normal a w) : wpTreeC P ops Q S .done a w := h
theorem treec_q {i : Nat} {r : PC} {l : List Oper} {o : Oper} {v : Value} {a : Act} {w : World} (d : Option Tmp) (ho : l[i]? = some o) (hd : o.dst = d) (hw : Region.wanted o (yielded l.toArray a.tmps) = true) (hr : ∀ w', S w' → (execOp a.eval o).run P w' = .ok (.value v) w')
  (h : wpTreeC P l.toArray Q S r (a.put d v) w) : wpTreeC P l.toArray Q S (.q i r) a w := ⟨o, v, by simpa using ho, .inl ⟨hw, hr⟩, hd ▸ h⟩
theorem treec_qf {i : Nat} {r : PC} {l : List Oper} {o : Oper} {v : Value} {a : Act} {w : World} (d : Option Tmp) (ho : l[i]? = some o) (hd : o.dst = d) (hw : Region.wanted o (yielded l.toArray a.tmps) = true) (hr : ∀ w', (execOp a.eval o).run P w' = .ok (.value v) w')
  (h : wpTreeC P l.toArray Q S r (a.put d v) w) : wpTreeC P l.toArray Q S (.qf i r) a w := ⟨o, v, by simpa using ho, .inl ⟨hw, fun w' _ => hr w'⟩, hd ▸ h⟩
theorem treec_e {i : Nat} {r : PC} {f : Nat → PC} {l : List Oper} {o : Oper} {a : Act} {w : World} (ho : l[i]? = some o) (hf : f i = r)
  (h : wpList P l.toArray (Exit.then (fun a' w' => S w' ∧ wpTreeC P l.toArray Q S r a' w') Q) [o] a w) : wpTreeC P l.toArray Q S (.br [i] f) a w := by
 intro j hj
 rw [List.mem_singleton.1 hj]
 exact ⟨o, by simpa using ho, hf ▸ h⟩
theorem treec_b {i : Nat} {r : PC} {m : List Nat} {f : Nat → PC} {l : List Oper} {o : Oper} {a : Act} {w : World} (ho : l[i]? = some o) (hf : f i = r)
  (h : wpList P l.toArray (Exit.then (fun a' w' => S w' ∧ wpTreeC P l.toArray Q S r a' w') Q) [o] a w) (hm : wpTreeC P l.toArray Q S (.br m f) a w) : wpTreeC P l.toArray Q S (.br (i :: m) f) a w := by
 intro j hj
 rcases List.mem_cons.1 hj with rfl | hj
 · exact ⟨o, by simpa using ho, hf ▸ h⟩
 · exact hm j hj
theorem treec_f {i : Nat} {r : PC} {f : Nat → PC} {l : List Oper} {o : Oper} {a : Act} {w : World} (ho : l[i]? = some o) (hf : f i = r)
  (h : wpList P l.toArray (Exit.then (fun a' w' => wpTreeC P l.toArray Q S r a' w') Q) [o] a w) : wpTreeC P l.toArray Q S (.brc [i] f) a w := by
 intro j hj
 rw [List.mem_singleton.1 hj]
 exact ⟨o, by simpa using ho, hf ▸ h⟩
end
end Go.Proofs.KL

namespace Go.Proofs.WV
open Go.RowKit Go.Proofs.KL Go.Proofs.WM
set_option maxRecDepth 100000
set_option linter.unusedSimpArgs false
set_option linter.unusedVariables false

theorem OwnS.cells {W : World} {lo g n c : Nat} {ks : List ByteArray} (h : OwnS W lo (.slice (some ⟨g, 0, none⟩) n c) ks) : ∃ cur, W.heap[g]? = some (.cells cur 9 (0, 0)) := by
 rcases h.2 with ⟨e, _⟩ | ⟨g', cap, cur, e, hb, hg, _⟩
 · cases e
 · injection e with e1 e2 e3
   injection e1 with e1
   injection e1 with e1
   subst e1
   exact ⟨cur, hg⟩
theorem row_neMap {W : World} {lo g : Nat} {v : Value} {n : Nat} {xs : List Value} {es : Array MapEntry} {c : Nat} (h : W.ownsRow lo 25 6 v n xs) (hg : W.heap[g]? = some (.map es c)) : some g ≠ v.ownBlock := fun e => by
 rcases h.2 with ⟨rfl, _⟩ | ⟨g', cap, cur, rfl, hb, hg', _⟩
 · cases e
 · simp only [Value.ownBlock, Option.some.injEq] at e
   subst e
   rw [hg] at hg'
   injection hg' with hg'
   cases hg'
set_option maxHeartbeats 8000000 in
theorem key103o {W : World} {r g2 gS g5 g3 gm base : Nat} {deep : Int} {T : ByteArray} {s t r1 r2 : Bs} {j : J} {s' : Bs} {x : List ByteArray × List J} (hr : Rd W r T s) (hI : PairsInv r g2 gS g5 g3 gm base deep x W)
  (hd : r < base ∧ ¬ g2 = r ∧ ¬ gS = r ∧ ¬ g3 = r ∧ ¬ gm = r ∧ ¬ g5 = r ∧ base ≤ gm ∧ base ≤ g5 ∧ base ≤ W.heap.size) (hn : x.1.length ≤ 1000000 ∧ x.2.length ≤ 1000000) (hs : strB s = .ok (t, r1)) (hk : hasKey x.1 (mkB t) = false) (hw : wordB [58] (blanksB r1) = .ok r2)
  (hin : ∀ W', Rd W' r T (blanksB r2) → Calls Tryd.prog 80 #[.pointer (some ⟨r, 0, none⟩), .int .i64 deep] W' (ValOut W' r T (.ok (j, s')))) :
  Calls Tryd.prog 103 #[.pointer (some ⟨g2, 0, none⟩), .pointer (some ⟨gS, 0, none⟩), .pointer (some ⟨g5, 0, none⟩), .pointer (some ⟨g3, 0, none⟩)] W (PartOut W r T base (PairsInv r g2 gS g5 g3 gm base deep) (.ok ((x.1 ++ [mkB t], x.2 ++ [j]), s'))) := by
 have Hr := Lib.hid hr
 have Hs := Lib.hid hs
 have Hap := Lib.hid hI.apart
 obtain ⟨⟨h2, hS, h3⟩, ⟨es, ec, hmap, hset⟩, kv, vv, h5, hks, hvs⟩ := hI
 obtain ⟨kA, kc, rfl, hkc⟩ := hks.slice
 obtain ⟨vA, vc, rfl, hvc⟩ : ∃ A c, vv = .slice A x.2.length c ∧ x.2.length ≤ c := by obtain ⟨X, xs, hrow⟩ := id hvs; exact row_slice hrow.row
 have H2 := Lib.hid h2
 have HS := Lib.hid hS
 have H3 := Lib.hid h3
 have H5 := Lib.hid h5
 have HKS := Lib.hid hks
 have HVS := Lib.hid hvs
 have Hm := Lib.hid (And.intro hmap hset)
 have Hd := Lib.hid hd
 have c2 := (blk_cell h2 0).trans rfl
 obtain ⟨key, hkey⟩ : ∃ y, mkB t = y := ⟨_, rfl⟩
 have Hkey := Lib.hid hkey
 rw [hkey] at hk
 have Hk := Lib.hid hk
 have Hw := Lib.hid hw
 clear hr hs h2 hS h3 h5 hks hvs hmap hset hd hkey hk hw
 have Hin := Lib.hid hin
 clear hin
 obtain ⟨hn1, hn2⟩ := hn
 rw [Hkey.out]
 go_enter Tryd.func103, Tryd.ntmps103
 go_upto_region 7 with (first
  | (go_at_call 75; go_must (have hc := str75 Hr.out; rw [Hs.out] at hc; refine hc.mono ?_; rintro e w6 ⟨rfl, hr6, hk6⟩)
     simp only [Hkey.out]
     have HK := Lib.hid (show Keeps (fun k => k = r ∨ k = gm) W w6 from hk6.mono (fun _ _ e => .inl e))
     have HR := Lib.hid hr6
     have Hm6 := Lib.hid (hk6.blk Hm.out.1 Hd.out.2.2.2.2.1)
     clear c2 hr6 hk6
     have c2 := (blk_cell (HK.out.blk H2.out (fun e => e.elim Hd.out.2.1 Hap.out.1.1)) 0).trans rfl
     have cS := (blk_cell (HK.out.blk HS.out (fun e => e.elim Hd.out.2.2.1 Hap.out.1.2.1)) 0).trans rfl
     (try simp only [PU]))
  | ((with_reducible refine at_dst (N := 9) rfl ?_); go_must (refine ev_lookup_set (q := key) rfl rfl Tryd.underlying98 Tryd.underlying9 zero98 rfl rfl Hm6.out Hm.out.2 ?_; rw [Hk.out]); (try simp only [PU]))
  | (refine at_update rfl ?_; go_must (refine ev_mapUpdate_set (q := key) rfl rfl rfl Tryd.underlying98 Tryd.underlying9 rfl rfl rfl Hm6.out Hm.out.2 Hk.out ?_; intro es7 c7 w7 hb7 hs7 hk7)
     have HM7 := Lib.hid (And.intro hb7 hs7)
     have HR := Lib.hid (HR.out.keep hk7 (fun e : r = gm => Hd.out.2.2.2.2.1 e.symm))
     have HK := Lib.hid (HK.out.trans hk7 (fun _ _ e => .inr e))
     clear c2 cS hb7 hs7 hk7
     have c2 := (blk_cell (HK.out.blk H2.out (fun e => e.elim Hd.out.2.1 Hap.out.1.1)) 0).trans rfl
     (try simp only [PU]))
  | (go_at_call 45; go_must (refine (blanks45 HR.out).mono ?_; rintro e w8 ⟨⟨y8, rfl⟩, hr8, hk8⟩)
     have HR := Lib.hid hr8
     have HM7 := Lib.hid (And.intro (hk8.blk HM7.out.1 Hd.out.2.2.2.2.1) HM7.out.2)
     have HK := Lib.hid (HK.out.trans hk8 (fun _ _ e => .inl e))
     clear c2 hr8 hk8
     have c2 := (blk_cell (HK.out.blk H2.out (fun e => e.elim Hd.out.2.1 Hap.out.1.1)) 0).trans rfl
     have c5 := (blk_cell (HK.out.blk H5.out (fun e => e.elim Hd.out.2.2.2.2.2.1 Hap.out.1.2.2.2)) 4).trans rfl
     (try simp only [PU]))
  | (go_at_call 74; go_must (have h74 := word74 HR.out ⟨#[58]⟩ (by decide) (nz1 58 (by decide)); rw [show bl ⟨#[58]⟩ = [58] from rfl, Hw.out] at h74; refine h74.mono ?_; rintro e w9 ⟨⟨y9, rfl⟩, hr9, hk9⟩)
     have HR := Lib.hid hr9
     have HM7 := Lib.hid (And.intro (hk9.blk HM7.out.1 Hd.out.2.2.2.2.1) HM7.out.2)
     have HK := Lib.hid (HK.out.trans hk9 (fun _ _ e => .inl e))
     clear c2 hr9 hk9
     have c2 := (blk_cell (HK.out.blk H2.out (fun e => e.elim Hd.out.2.1 Hap.out.1.1)) 0).trans rfl
     (try simp only [PU]))
 )
 obtain ⟨i22, hi22, hs22⟩ := info22
 have HI22 := Lib.hid (And.intro hi22 hs22)
 clear hi22 hs22
 go_upto_region 8 with (first
  | ((with_reducible refine at_dst (N := 28) rfl ?_); go_must (refine ev_slice (cs := #[.string key]) (t := 9) (n := 1) (c := 1) rfl (by first | (go_simp; done) | (go_simp; rfl)) ?_; intro gk w10 hgk hlk hbk hkk)
     have Hbk := Lib.hid hbk
     have HKS1 := Lib.hid ((HKS.out.keep HK.out (fun k hk' e => e.elim (fun e => by have h1 := (HKS.out.lt k hk').1; have := Hd.out.1; omega) (fun e => by rw [e] at hk'; exact HKS.out.neMap Hm.out.1 hk'.symm))).keep hkk (fun _ _ => id))
     have HR1 := Lib.hid (HR.out.keep hkk id)
     have HM7 := Lib.hid (And.intro (hkk.blk HM7.out.1 id) HM7.out.2)
     have HK1 := Lib.hid (HK.out.then hkk)
     clear hbk hkk
     (try simp only [PU]))
  | ((with_reducible refine at_dst (N := 29) rfl ?_); go_must (refine ev_append rfl rfl Tryd.underlying22 info9b rfl (by decide) (base := base) rfl HKS1.out rfl (news := [Value.string key]) rfl (fun _ => ⟨_, rfl, World.news_of_block Hbk.out⟩) (by simp [Value.oneCell']) (by omega) (by decide) (by have := HK1.out.size; have := Hd.out.2.2.2.2.2.2.2.2; omega) ?_; intro v9 w11 hown9 hk11 hr11 hf11; obtain ⟨gq, cq, rfl⟩ := hf11 (by decide))
     have Hown := Lib.hid hown9
     have Hk11 := Lib.hid hk11
     have Hr11 := Lib.hid hr11
     have H5a := Lib.hid (hk11.blk (HK1.out.blk H5.out (fun e => e.elim Hd.out.2.2.2.2.2.1 Hap.out.1.2.2.2)) (HKS1.out.ne (HK1.out.blk H5.out (fun e => e.elim Hd.out.2.2.2.2.2.1 Hap.out.1.2.2.2)) (by decide)))
     clear hown9 hk11 hr11 hf11 c5
     (try simp only [PU]))
  | ((with_reducible refine at_store (t := 22) rfl ?_); go_must (refine ev_store (cs' := #[.int .i64 6, .bool false, .int .i64 0, .string ByteArray.empty, .slice (some ⟨gq, 0, none⟩) (x.1.length + 1) cq, .slice vA x.2.length vc]) rfl rfl rfl rfl rfl rfl HI22.out.1 HI22.out.2 rfl H5a.out (Nat.le_of_ble_eq_true rfl) rfl ?_; intro w12 hb12 hk12)
     have H5b := Lib.hid hb12
     have Hk12 := Lib.hid hk12
     clear hb12 hk12
     (try simp only [PU]))
 )
 have hbg : base ≤ W.heap.size := Hd.out.2.2.2.2.2.2.2.2
 have H2c := Lib.hid (Hk12.out.blk (Hk11.out.blk (HK1.out.blk H2.out (fun e => e.elim Hd.out.2.1 Hap.out.1.1)) (HKS1.out.ne (HK1.out.blk H2.out (fun e => e.elim Hd.out.2.1 Hap.out.1.1)) (by decide))) Hap.out.2.1)
 have H3c := Lib.hid (Hk12.out.blk (Hk11.out.blk (HK1.out.blk H3.out (fun e => e.elim Hd.out.2.2.2.1 Hap.out.1.2.2.1)) (HKS1.out.ne (HK1.out.blk H3.out (fun e => e.elim Hd.out.2.2.2.1 Hap.out.1.2.2.1)) (by decide))) Hap.out.2.2.2)
 have HSc := Lib.hid (Hk12.out.blk (Hk11.out.blk (HK1.out.blk HS.out (fun e => e.elim Hd.out.2.2.1 Hap.out.1.2.1)) (HKS1.out.ne (HK1.out.blk HS.out (fun e => e.elim Hd.out.2.2.1 Hap.out.1.2.1)) (by decide))) Hap.out.2.2.1)
 have HRc := Lib.hid ((HR1.out.keep Hk11.out (HKS1.out.ne HR1.out.blk (by decide))).keep Hk12.out (fun e => Hd.out.2.2.2.2.2.1 e.symm))
 have HMc := Lib.hid (And.intro (Hk12.out.blk (Hk11.out.blk HM7.out.1 (HKS1.out.neMap HM7.out.1)) (fun e => Hap.out.1.2.2.2 e.symm)) HM7.out.2)
 have hos : OwnS w11 base (.slice (some ⟨gq, 0, none⟩) (x.1.length + 1) cq) (x.1 ++ [key]) := by
  have h := Hown.out
  unfold OwnS
  rw [List.length_append, List.map_append]
  exact h
 have HOS := Lib.hid (hos.keep Hk12.out (fun k hk e => by rw [e] at hk; exact hos.ne H5a.out (by decide) hk.symm))
 have hkt : Keeps (fun k => k = r ∨ k = gm ∨ some k = (Value.slice kA x.1.length kc).ownBlock ∨ k = g5) W w12 := ((HK1.out.mono (M' := fun k => k = r ∨ k = gm ∨ some k = (Value.slice kA x.1.length kc).ownBlock ∨ k = g5) (fun _ _ e => e.elim .inl (fun e => .inr (.inl e)))).trans Hk11.out (fun _ _ e => .inr (.inr (.inl e)))).trans Hk12.out (fun _ _ e => .inr (.inr (.inr e)))
 have HOJ := Lib.hid (HVS.out.swap (E' := fun b => b = g5 ∨ b = gm ∨ some b = (Value.slice (some ⟨gq, 0, none⟩) (x.1.length + 1) cq).ownBlock) hkt (fun b _ e => by
   rcases e with e | e | e | e
   · exact .inl (by rw [e]; exact Hd.out.1)
   · exact .inr (.inr (.inl e))
   · exact .inr (.inr (.inr e))
   · exact .inr (.inl e)) (fun b e => by
   rcases e with e | e | e
   · exact .inl (.inl e)
   · exact .inl (.inr (.inl e))
   · rcases Hr11.out with h | ⟨k, h, hk⟩
     · exact .inl (.inr (.inr (e.trans h)))
     · rw [h] at e; injection e with e; exact .inr (by have := HK1.out.size; omega)))
 have HKT := Lib.hid hkt
 clear hkt hos
 obtain ⟨X, xs, HJ⟩ : ∃ X xs, Hid (RowJ w12 base (fun b => b = g5 ∨ b = gm ∨ some b = (Value.slice (some ⟨gq, 0, none⟩) (x.1.length + 1) cq).ownBlock) (.slice vA x.2.length vc) x.2 X xs) := by
  obtain ⟨X, xs, h⟩ := HOJ.out
  exact ⟨X, xs, Lib.hid h⟩
 have HE := Lib.hid (show ∀ b, (b = g5 ∨ b = gm ∨ some b = (Value.slice (some ⟨gq, 0, none⟩) (x.1.length + 1) cq).ownBlock) → b < w12.heap.size from fun b e => by
  rcases e with e | e | e
  · rw [e]; exact blk_lt H5b.out
  · rw [e]; exact blk_lt HMc.out.1
  · exact (HOS.out.lt b e.symm).2)
 clear HVS HOJ HKS1 HK1 HR1
 obtain ⟨n, hnn⟩ : ∃ y, x.2.length = y := ⟨_, rfl⟩
 have Hnn := Lib.hid hnn
 rw [hnn] at hn2 H5b HJ
 have HDD := Lib.hid (show r < base ∧ base ≤ w12.heap.size ∧ base ≤ g5 from ⟨Hd.out.1, Nat.le_trans hbg HKT.out.size, Hd.out.2.2.2.2.2.2.2.1⟩)
 have HKM := Lib.hid (HKT.out.mono (M' := MR r base) (fun i _ e => by
   rcases e with e | e | e | e
   · exact .inl e
   · exact .inr (by rw [e]; exact Hd.out.2.2.2.2.2.2.1)
   · exact .inr (HKS.out.lt i e.symm).1
   · exact .inr (by rw [e]; exact Hd.out.2.2.2.2.2.2.2.1)))
 clear HKT HKS hnn hbg
 have c2 := (blk_cell H2c.out 0).trans rfl
 have c3 := (blk_cell H3c.out 0).trans rfl
 have c5' : w12.cell? ⟨g5, 5, none⟩ = some (.slice vA n vc) := (blk_cell H5b.out 5).trans rfl
 have N := Lib.hid (show ¬ g2 = r ∧ ¬ g3 = r ∧ ¬ g5 = r from ⟨Hd.out.2.1, Hd.out.2.2.2.1, Hd.out.2.2.2.2.2.1⟩)
 have NS := Lib.hid (show ¬ gS = r ∧ ¬ gm = r from ⟨Hd.out.2.2.1, Hd.out.2.2.2.2.1⟩)
 have HKr := Lib.hid ((Keeps.refl (· = r) w12).drew)
 have Hr0 := Lib.hid (HRc.out.keep (Keeps.refl Nob w12).drew id)
 obtain ⟨i25, hi25, hs25⟩ := info25
 obtain ⟨i23, hi23, hs23⟩ := info23
 have HI := Lib.hid (And.intro (And.intro hi25 hs25) (And.intro hi23 hs23))
 clear hi25 hs25 hi23 hs23
 refine wp_region_tree (.q 0 (.q 2 (.q 3 (.br [1, 4, 6] (fun k => bif Nat.beq k 1 then .q 5 (.br [4, 6] (fun k => bif Nat.beq k 4 then .br [6] (fun k => .br [7] (fun k => .q 8 (.q 10 (.br [9, 11] (fun k => bif Nat.beq k 9 then .br [11] (fun k => .done) else .br [9] (fun k => .done)))))) else .br [4] (fun k => .br [7] (fun k => .q 8 (.q 10 (.br [9, 11] (fun k => bif Nat.beq k 9 then .br [11] (fun k => .done) else .br [9] (fun k => .done)))))))) else bif Nat.beq k 4 then .br [1, 6] (fun k => bif Nat.beq k 1 then .q 5 (.br [6] (fun k => .br [7] (fun k => .q 8 (.q 10 (.br [9, 11] (fun k => bif Nat.beq k 9 then .br [11] (fun k => .done) else .br [9] (fun k => .done))))))) else .br [1] (fun k => .q 5 (.br [7] (fun k => .q 8 (.q 10 (.br [9, 11] (fun k => bif Nat.beq k 9 then .br [11] (fun k => .done) else .br [9] (fun k => .done)))))))) else .br [1, 4] (fun k => bif Nat.beq k 1 then .q 5 (.br [4] (fun k => .br [7] (fun k => .q 8 (.q 10 (.br [9, 11] (fun k => bif Nat.beq k 9 then .br [11] (fun k => .done) else .br [9] (fun k => .done))))))) else .br [1] (fun k => .q 5 (.br [7] (fun k => .q 8 (.q 10 (.br [9, 11] (fun k => bif Nat.beq k 9 then .br [11] (fun k => .done) else .br [9] (fun k => .done))))))))))))) (fun w' => w'.cell? ⟨g2, 0, none⟩ = some (.pointer (some ⟨r, 0, none⟩)) ∧ w'.cell? ⟨g3, 0, none⟩ = some (.int .i64 deep)) rfl (by kernel_rfl) (by kernel_rfl) (fun c a d v w h => by cases d <;> exact h) ⟨c2, c3⟩ ?_
 refine tq (some 31) ?_; (try simp only [PU])
 refine tq (some 33) ?_; (try simp only [PU])
 refine tq (some 34) ?_; (try simp only [PU])
 refine tree_b rfl rfl ?b1_12 ?nb1_12
 case' b1_12 =>
  have c6 := HKr.out.cell c5' N.out.2.2
  go_wp2_with fail
  clear c6
  (try refine ⟨⟨HKr.out.cell c2 N.out.1, HKr.out.cell c3 N.out.2.1⟩, ?_⟩)
  refine tq (some 36) ?_; (try simp only [PU])
  refine tree_b rfl rfl ?b1_5 ?nb1_5
  case' b1_5 =>
   go_wp2_with (go_at_call 80; go_must (refine (Hin.out _ Hr0.out).mono ?_; rintro e w1 ⟨⟨v1, rfl, hv1⟩, hr1, hk1⟩; obtain ⟨jk, jb, jn, jt, jks, jvs, jkv, jvv, hjj, rfl, hjk, hjv⟩ := hv1.open; obtain ⟨kA', kc', rfl, -, -⟩ := hjk; obtain ⟨jA, jc, ju, rfl, -, -, -⟩ := hjv); have hw0 := HKr.out.size; have HV := Lib.hid (hv1.keep (X' := fun b => w12.heap.size ≤ b ∧ b < w1.heap.size) (Keeps.refl Nob w1) (fun _ _ _ => id) (fun b hb hx => ⟨Nat.le_trans hw0 hx, hb⟩)); have Hr1 := Lib.hid hr1; have Hk1 := Lib.hid hk1; have HKr := Lib.hid (HKr.out.trans hk1 (fun _ _ h => h)); clear hv1 hr1 hjj hw0 hk1; generalize jks.length = kl at *; generalize jvs.length = vl at *; (try simp only [PU]))
   (try have Hbz := Lib.hid (Hk1.out.blk Hbz.out (fun e : gz = r => by have h1 : w12.heap.size ≤ gz := Hgz.out; have h2 := HDD.out; omega)))
   refine ⟨⟨HKr.out.cell c2 N.out.1, HKr.out.cell c3 N.out.2.1⟩, ?_⟩
   refine tree_e rfl rfl ?_
   go_must (refine ev_slice (cs := #[.int .i64 0, .bool false, .int .i64 0, .string ByteArray.empty, .slice none 0 0, .slice none 0 0]) (t := 25) (n := 1) (c := 1) rfl (by first | (go_simp; done) | (go_simp; rfl)) ?_; intro gz wz hgz hlz hbz hkz)
   (try simp only [PU])
   have Hgz := Lib.hid (Nat.le_trans HKr.out.size hgz)
   have Hbz := Lib.hid hbz
   (try have Hr1 := Lib.hid (Hr1.out.keep hkz id))
   (try have HV := Lib.hid (HV.out.keep (X' := fun b => w12.heap.size ≤ b ∧ b < wz.heap.size) hkz (fun _ _ _ => id) (fun b hb h => ⟨h.1, Nat.lt_of_lt_of_le h.2 hkz.size⟩)))
   (try have Hr0 := Lib.hid (Rd.keep (M := Nob) Hr0.out hkz id))
   have HKr := Lib.hid (HKr.out.then hkz)
   clear hbz hkz hgz
   refine wpList_nil ⟨⟨HKr.out.cell c2 N.out.1, HKr.out.cell c3 N.out.2.1⟩, ?_⟩
   refine tree_e rfl rfl ?_
   have HJc := Lib.hid (HJ.out.keep HKr.out (fun b _ e => .inl (by have := HDD.out; omega)))
   have hrow7 := HJc.out.row
   rw [Hnn.out] at hrow7
   have Hrow7 := Lib.hid hrow7
   clear hrow7
   go_must (refine ev_append rfl rfl Tryd.underlying23 info25b rfl (by decide) (base := base) rfl Hrow7.out rfl (news := [.int .i64 0, .bool false, .int .i64 0, .string ByteArray.empty, .slice none 0 0, .slice none 0 0]) rfl (fun _ => ⟨_, rfl, World.news_of_block Hbz.out⟩) (by simp [Value.oneCell']) (by omega) (by decide) (by have := HKr.out.size; have := HDD.out; omega) ?_; intro v6 w6 hown6 hk6 hr6 hf6; obtain ⟨gr, cap, rfl⟩ := hf6 (by decide))
   have Hr6 := Lib.hid hr6
   (try simp only [PU])
   have b2 := HKr.out.blk H2c.out N.out.1
   have b3 := HKr.out.blk H3c.out N.out.2.1
   have b6 := HKr.out.blk H5b.out N.out.2.2
   have bS := HKr.out.blk HSc.out NS.out.1
   have bm := HKr.out.blk HMc.out.1 NS.out.2
   have bk := HOS.out.keep HKr.out (fun k hk' e => by have h1 := (HOS.out.lt k hk').1; have := HDD.out; omega)
   have H2k := Lib.hid (hk6.blk b2 (row_ne Hrow7.out b2 (by decide)))
   have H3k := Lib.hid (hk6.blk b3 (row_ne Hrow7.out b3 (by decide)))
   have HSk := Lib.hid (hk6.blk bS (row_ne Hrow7.out bS (by decide)))
   have HMk := Lib.hid (hk6.blk bm (row_neMap Hrow7.out bm))
   have HOk := Lib.hid (bk.keep hk6 (fun k hk' e => HJc.out.ne k e.symm (.inr (.inr hk'.symm))))
   have H6k := Lib.hid (hk6.blk b6 (fun e => HJc.out.ne g5 e.symm (.inl rfl)))
   have Hrk := Lib.hid (Hr1.out.keep hk6 (row_ne Hrow7.out Hr1.out.blk (by decide)))
   obtain ⟨cur, hcur⟩ : ∃ cur, w6.heap[gr]? = some (.cells cur 25 (0, 0)) ∧ n + 1 ≤ cap ∧ cur.size = cap * 6 ∧ base ≤ gr := by
    rcases hown6.2 with ⟨e, _⟩ | ⟨g', cap', cur, e, hb, hg', hc, hm, hs, ht⟩
    · cases e
    · injection e with e1 e2 e3
      injection e1 with e1
      injection e1 with e1
      subst e1; subst e3
      exact ⟨cur, hg', hc, hs, hb⟩
   have Hcf := Lib.hid hcur.2
   have Hcur := Lib.hid hcur.1
   have Hg6r := Lib.hid (row_notin (fun e => HJc.out.ne g5 e (.inl rfl)) (blk_lt H5b.out) HKr.out.size hr6)
   have Hrowk := Lib.hid hown6
   have HKo := Lib.hid (hk6.mono (M' := fun k => some k = (Value.slice vA n vc).ownBlock ∨ (k = g5 ∨ k = gm ∨ some k = (Value.slice (some ⟨gq, 0, none⟩) (x.1.length + 1) cq).ownBlock)) (fun _ _ e => .inl e))
   have HKall := Lib.hid ((HKM.out.trans (keepsMR HKr.out) (fun _ _ h => h)).trans hk6 (fun i hi e => .inr (row_lt HJ.out.row i e.symm).1))
   have HWc := Lib.hid HKr.out.size
   have hlt1 : (n : Int) < (n : Int) + 1 := by omega
   clear hown6 hk6 hr6 hf6 b2 b3 b6 bS bm bk hcur
   refine wpList_nil ⟨⟨(blk_cell H2k.out 0).trans rfl, (blk_cell H3k.out 0).trans rfl⟩, ?_⟩
   refine tq (some 39) ?_; (try simp only [PU])
   refine tq (some 40) ?_; (try simp only [PU])
   refine tree_b rfl rfl ?b1_1 ?nb1_1
   case' b1_1 =>
    have hfit : n * 6 + 6 ≤ cur.size := by have h1 := Hcf.out.1; have h2 := Hcf.out.2.1; omega
    go_must (refine ev_store (x := .agg #[.int .i64 jk, .bool jb, .int .i64 jn, .string jt, .slice kA' kl kc', .slice jA vl jc]) (vs := [.int .i64 jk, .bool jb, .int .i64 jn, .string jt, .slice kA' kl kc', .slice jA vl jc]) (off := n * 6) (cs' := List.toArray (cur.toList.take (n * 6) ++ ([Value.int .i64 jk, Value.bool jb, Value.int .i64 jn, Value.string jt, Value.slice kA' kl kc', Value.slice jA vl jc] : List Value) ++ cur.toList.drop (n * 6 + 6))) rfl rfl rfl rfl rfl rfl HI.out.1.1 HI.out.1.2 rfl Hcur.out hfit rfl ?_; intro w7 hb7 hk7)
    (try simp only [PU])
    have Hown9 := Lib.hid (RowJ.push HJc.out HV.out (fun b hb => ⟨by have := HDD.out; have := hb.1; omega, fun e => by have := HE.out b e; have := hb.1; omega, fun e => by have := (row_lt HJ.out.row b e.symm).2; have := hb.1; omega, hb.2⟩) (fun b e => Nat.lt_of_lt_of_le (HE.out b e) HWc.out) rfl (by rw [Hnn.out]; exact Hrowk.out) HKo.out Hr6.out (by rw [Hnn.out]) Hcur.out (by rw [Hnn.out]; exact hb7) hk7)
    have H2k := Lib.hid (hk7.blk H2k.out (blk_type H2k.out Hcur.out (by decide)))
    have H3k := Lib.hid (hk7.blk H3k.out (blk_type H3k.out Hcur.out (by decide)))
    have HSk := Lib.hid (hk7.blk HSk.out (blk_type HSk.out Hcur.out (by decide)))
    have HMk := Lib.hid (hk7.blk HMk.out (fun e => map_ne Hcur.out HMk.out e.symm))
    have HOk := Lib.hid (HOk.out.keep hk7 (fun k hk' e => HOk.out.ne Hcur.out (by decide) (by rw [hk', e])))
    have H6k := Lib.hid (hk7.blk H6k.out Hg6r.out)
    have Hrk := Lib.hid (Hrk.out.keep hk7 (blk_type Hrk.out.blk Hcur.out (by decide)))
    have HKall := Lib.hid (HKall.out.trans hk7 (fun i _ e => .inr (by rw [e]; exact Hcf.out.2.2)))
    clear hb7 hk7 hfit
    refine wpList_nil ⟨⟨(blk_cell H2k.out 0).trans rfl, (blk_cell H3k.out 0).trans rfl⟩, ?_⟩
    refine tree_e rfl rfl ?_
    go_must (refine ev_store (cs' := #[.int .i64 6, .bool false, .int .i64 0, .string ByteArray.empty, .slice (some ⟨gq, 0, none⟩) (x.1.length + 1) cq, .slice (some ⟨gr, 0, none⟩) (n + 1) cap]) rfl rfl rfl rfl rfl rfl HI.out.2.1 HI.out.2.2 rfl H6k.out (Nat.le_of_ble_eq_true rfl) rfl ?_; intro w8 hb8 hk8)
    (try simp only [PU])
    have Hb8 := Lib.hid hb8
    (try have Hown9 := Lib.hid (Hown9.out.keep hk8 (fun b _ e => .inr (.inl e))))
    (try have HKo := Lib.hid (HKo.out.trans hk8 (fun _ _ e => .inr (.inl e))))
    (try have Hrowk := Lib.hid (row_keep Hrowk.out hk8 (fun k hk e => Hg6r.out (by rw [← e]; exact (Option.some.inj hk).symm))))
    (try have Hcur := Lib.hid (hk8.blk Hcur.out (fun e => Hg6r.out e.symm)))
    have H2k := Lib.hid (hk8.blk H2k.out (blk_type H2k.out H6k.out (by decide)))
    have H3k := Lib.hid (hk8.blk H3k.out (blk_type H3k.out H6k.out (by decide)))
    have HSk := Lib.hid (hk8.blk HSk.out (blk_type HSk.out H6k.out (by decide)))
    have HMk := Lib.hid (hk8.blk HMk.out (fun e => map_ne H6k.out HMk.out e.symm))
    have HOk := Lib.hid (HOk.out.keep hk8 (fun k hk' e => HOk.out.ne H6k.out (by decide) (by rw [hk', e])))
    have Hrk := Lib.hid (Hrk.out.keep hk8 (fun e => N.out.2.2 e.symm))
    have HKall := Lib.hid (HKall.out.trans hk8 (fun i _ e => .inr (by rw [e]; exact HDD.out.2.2)))
    have H6k := Hb8
    clear hb8 hk8
    refine wpList_nil ⟨⟨(blk_cell H2k.out 0).trans rfl, (blk_cell H3k.out 0).trans rfl⟩, ?_⟩
    refine tree_nil ?_
   case' nb1_1 =>
    refine tree_e rfl rfl ?b1_2
    case' b1_2 =>
     go_must (refine ev_store (cs' := #[.int .i64 6, .bool false, .int .i64 0, .string ByteArray.empty, .slice (some ⟨gq, 0, none⟩) (x.1.length + 1) cq, .slice (some ⟨gr, 0, none⟩) (n + 1) cap]) rfl rfl rfl rfl rfl rfl HI.out.2.1 HI.out.2.2 rfl H6k.out (Nat.le_of_ble_eq_true rfl) rfl ?_; intro w8 hb8 hk8)
     (try simp only [PU])
     have Hb8 := Lib.hid hb8
     (try have Hown9 := Lib.hid (Hown9.out.keep hk8 (fun b _ e => .inr (.inl e))))
     (try have HKo := Lib.hid (HKo.out.trans hk8 (fun _ _ e => .inr (.inl e))))
     (try have Hrowk := Lib.hid (row_keep Hrowk.out hk8 (fun k hk e => Hg6r.out (by rw [← e]; exact (Option.some.inj hk).symm))))
     (try have Hcur := Lib.hid (hk8.blk Hcur.out (fun e => Hg6r.out e.symm)))
     have H2k := Lib.hid (hk8.blk H2k.out (blk_type H2k.out H6k.out (by decide)))
     have H3k := Lib.hid (hk8.blk H3k.out (blk_type H3k.out H6k.out (by decide)))
     have HSk := Lib.hid (hk8.blk HSk.out (blk_type HSk.out H6k.out (by decide)))
     have HMk := Lib.hid (hk8.blk HMk.out (fun e => map_ne H6k.out HMk.out e.symm))
     have HOk := Lib.hid (HOk.out.keep hk8 (fun k hk' e => HOk.out.ne H6k.out (by decide) (by rw [hk', e])))
     have Hrk := Lib.hid (Hrk.out.keep hk8 (fun e => N.out.2.2 e.symm))
     have HKall := Lib.hid (HKall.out.trans hk8 (fun i _ e => .inr (by rw [e]; exact HDD.out.2.2)))
     have H6k := Hb8
     clear hb8 hk8
     refine wpList_nil ⟨⟨(blk_cell H2k.out 0).trans rfl, (blk_cell H3k.out 0).trans rfl⟩, ?_⟩
     refine tree_e rfl rfl ?_
     have hfit : n * 6 + 6 ≤ cur.size := by have h1 := Hcf.out.1; have h2 := Hcf.out.2.1; omega
     go_must (refine ev_store (x := .agg #[.int .i64 jk, .bool jb, .int .i64 jn, .string jt, .slice kA' kl kc', .slice jA vl jc]) (vs := [.int .i64 jk, .bool jb, .int .i64 jn, .string jt, .slice kA' kl kc', .slice jA vl jc]) (off := n * 6) (cs' := List.toArray (cur.toList.take (n * 6) ++ ([Value.int .i64 jk, Value.bool jb, Value.int .i64 jn, Value.string jt, Value.slice kA' kl kc', Value.slice jA vl jc] : List Value) ++ cur.toList.drop (n * 6 + 6))) rfl rfl rfl rfl rfl rfl HI.out.1.1 HI.out.1.2 rfl Hcur.out hfit rfl ?_; intro w7 hb7 hk7)
     (try simp only [PU])
     have Hown9 := Lib.hid (RowJ.push HJc.out HV.out (fun b hb => ⟨by have := HDD.out; have := hb.1; omega, fun e => by have := HE.out b e; have := hb.1; omega, fun e => by have := (row_lt HJ.out.row b e.symm).2; have := hb.1; omega, hb.2⟩) (fun b e => Nat.lt_of_lt_of_le (HE.out b e) HWc.out) rfl (by rw [Hnn.out]; exact Hrowk.out) HKo.out Hr6.out (by rw [Hnn.out]) Hcur.out (by rw [Hnn.out]; exact hb7) hk7)
     have H2k := Lib.hid (hk7.blk H2k.out (blk_type H2k.out Hcur.out (by decide)))
     have H3k := Lib.hid (hk7.blk H3k.out (blk_type H3k.out Hcur.out (by decide)))
     have HSk := Lib.hid (hk7.blk HSk.out (blk_type HSk.out Hcur.out (by decide)))
     have HMk := Lib.hid (hk7.blk HMk.out (fun e => map_ne Hcur.out HMk.out e.symm))
     have HOk := Lib.hid (HOk.out.keep hk7 (fun k hk' e => HOk.out.ne Hcur.out (by decide) (by rw [hk', e])))
     have H6k := Lib.hid (hk7.blk H6k.out Hg6r.out)
     have Hrk := Lib.hid (Hrk.out.keep hk7 (blk_type Hrk.out.blk Hcur.out (by decide)))
     have HKall := Lib.hid (HKall.out.trans hk7 (fun i _ e => .inr (by rw [e]; exact Hcf.out.2.2)))
     clear hb7 hk7 hfit
     refine wpList_nil ⟨⟨(blk_cell H2k.out 0).trans rfl, (blk_cell H3k.out 0).trans rfl⟩, ?_⟩
     refine tree_nil ?_
  case' nb1_5 =>
   refine tree_e rfl rfl ?b1_10
   case' b1_10 =>
    go_must (refine ev_slice (cs := #[.int .i64 0, .bool false, .int .i64 0, .string ByteArray.empty, .slice none 0 0, .slice none 0 0]) (t := 25) (n := 1) (c := 1) rfl (by first | (go_simp; done) | (go_simp; rfl)) ?_; intro gz wz hgz hlz hbz hkz)
    (try simp only [PU])
    have Hgz := Lib.hid (Nat.le_trans HKr.out.size hgz)
    have Hbz := Lib.hid hbz
    (try have Hr1 := Lib.hid (Hr1.out.keep hkz id))
    (try have HV := Lib.hid (HV.out.keep (X' := fun b => w12.heap.size ≤ b ∧ b < wz.heap.size) hkz (fun _ _ _ => id) (fun b hb h => ⟨h.1, Nat.lt_of_lt_of_le h.2 hkz.size⟩)))
    (try have Hr0 := Lib.hid (Rd.keep (M := Nob) Hr0.out hkz id))
    have HKr := Lib.hid (HKr.out.then hkz)
    clear hbz hkz hgz
    refine wpList_nil ⟨⟨HKr.out.cell c2 N.out.1, HKr.out.cell c3 N.out.2.1⟩, ?_⟩
    refine tree_e rfl rfl ?_
    go_wp2_with (go_at_call 80; go_must (refine (Hin.out _ Hr0.out).mono ?_; rintro e w1 ⟨⟨v1, rfl, hv1⟩, hr1, hk1⟩; obtain ⟨jk, jb, jn, jt, jks, jvs, jkv, jvv, hjj, rfl, hjk, hjv⟩ := hv1.open; obtain ⟨kA', kc', rfl, -, -⟩ := hjk; obtain ⟨jA, jc, ju, rfl, -, -, -⟩ := hjv); have hw0 := HKr.out.size; have HV := Lib.hid (hv1.keep (X' := fun b => w12.heap.size ≤ b ∧ b < w1.heap.size) (Keeps.refl Nob w1) (fun _ _ _ => id) (fun b hb hx => ⟨Nat.le_trans hw0 hx, hb⟩)); have Hr1 := Lib.hid hr1; have Hk1 := Lib.hid hk1; have HKr := Lib.hid (HKr.out.trans hk1 (fun _ _ h => h)); clear hv1 hr1 hjj hw0 hk1; generalize jks.length = kl at *; generalize jvs.length = vl at *; (try simp only [PU]))
    (try have Hbz := Lib.hid (Hk1.out.blk Hbz.out (fun e : gz = r => by have h1 : w12.heap.size ≤ gz := Hgz.out; have h2 := HDD.out; omega)))
    refine ⟨⟨HKr.out.cell c2 N.out.1, HKr.out.cell c3 N.out.2.1⟩, ?_⟩
    refine tree_e rfl rfl ?_
    have HJc := Lib.hid (HJ.out.keep HKr.out (fun b _ e => .inl (by have := HDD.out; omega)))
    have hrow7 := HJc.out.row
    rw [Hnn.out] at hrow7
    have Hrow7 := Lib.hid hrow7
    clear hrow7
    go_must (refine ev_append rfl rfl Tryd.underlying23 info25b rfl (by decide) (base := base) rfl Hrow7.out rfl (news := [.int .i64 0, .bool false, .int .i64 0, .string ByteArray.empty, .slice none 0 0, .slice none 0 0]) rfl (fun _ => ⟨_, rfl, World.news_of_block Hbz.out⟩) (by simp [Value.oneCell']) (by omega) (by decide) (by have := HKr.out.size; have := HDD.out; omega) ?_; intro v6 w6 hown6 hk6 hr6 hf6; obtain ⟨gr, cap, rfl⟩ := hf6 (by decide))
    have Hr6 := Lib.hid hr6
    (try simp only [PU])
    have b2 := HKr.out.blk H2c.out N.out.1
    have b3 := HKr.out.blk H3c.out N.out.2.1
    have b6 := HKr.out.blk H5b.out N.out.2.2
    have bS := HKr.out.blk HSc.out NS.out.1
    have bm := HKr.out.blk HMc.out.1 NS.out.2
    have bk := HOS.out.keep HKr.out (fun k hk' e => by have h1 := (HOS.out.lt k hk').1; have := HDD.out; omega)
    have H2k := Lib.hid (hk6.blk b2 (row_ne Hrow7.out b2 (by decide)))
    have H3k := Lib.hid (hk6.blk b3 (row_ne Hrow7.out b3 (by decide)))
    have HSk := Lib.hid (hk6.blk bS (row_ne Hrow7.out bS (by decide)))
    have HMk := Lib.hid (hk6.blk bm (row_neMap Hrow7.out bm))
    have HOk := Lib.hid (bk.keep hk6 (fun k hk' e => HJc.out.ne k e.symm (.inr (.inr hk'.symm))))
    have H6k := Lib.hid (hk6.blk b6 (fun e => HJc.out.ne g5 e.symm (.inl rfl)))
    have Hrk := Lib.hid (Hr1.out.keep hk6 (row_ne Hrow7.out Hr1.out.blk (by decide)))
    obtain ⟨cur, hcur⟩ : ∃ cur, w6.heap[gr]? = some (.cells cur 25 (0, 0)) ∧ n + 1 ≤ cap ∧ cur.size = cap * 6 ∧ base ≤ gr := by
     rcases hown6.2 with ⟨e, _⟩ | ⟨g', cap', cur, e, hb, hg', hc, hm, hs, ht⟩
     · cases e
     · injection e with e1 e2 e3
       injection e1 with e1
       injection e1 with e1
       subst e1; subst e3
       exact ⟨cur, hg', hc, hs, hb⟩
    have Hcf := Lib.hid hcur.2
    have Hcur := Lib.hid hcur.1
    have Hg6r := Lib.hid (row_notin (fun e => HJc.out.ne g5 e (.inl rfl)) (blk_lt H5b.out) HKr.out.size hr6)
    have Hrowk := Lib.hid hown6
    have HKo := Lib.hid (hk6.mono (M' := fun k => some k = (Value.slice vA n vc).ownBlock ∨ (k = g5 ∨ k = gm ∨ some k = (Value.slice (some ⟨gq, 0, none⟩) (x.1.length + 1) cq).ownBlock)) (fun _ _ e => .inl e))
    have HKall := Lib.hid ((HKM.out.trans (keepsMR HKr.out) (fun _ _ h => h)).trans hk6 (fun i hi e => .inr (row_lt HJ.out.row i e.symm).1))
    have HWc := Lib.hid HKr.out.size
    have hlt1 : (n : Int) < (n : Int) + 1 := by omega
    clear hown6 hk6 hr6 hf6 b2 b3 b6 bS bm bk hcur
    refine wpList_nil ⟨⟨(blk_cell H2k.out 0).trans rfl, (blk_cell H3k.out 0).trans rfl⟩, ?_⟩
    refine tq (some 39) ?_; (try simp only [PU])
    refine tq (some 40) ?_; (try simp only [PU])
    refine tree_b rfl rfl ?b1_6 ?nb1_6
    case' b1_6 =>
     have hfit : n * 6 + 6 ≤ cur.size := by have h1 := Hcf.out.1; have h2 := Hcf.out.2.1; omega
     go_must (refine ev_store (x := .agg #[.int .i64 jk, .bool jb, .int .i64 jn, .string jt, .slice kA' kl kc', .slice jA vl jc]) (vs := [.int .i64 jk, .bool jb, .int .i64 jn, .string jt, .slice kA' kl kc', .slice jA vl jc]) (off := n * 6) (cs' := List.toArray (cur.toList.take (n * 6) ++ ([Value.int .i64 jk, Value.bool jb, Value.int .i64 jn, Value.string jt, Value.slice kA' kl kc', Value.slice jA vl jc] : List Value) ++ cur.toList.drop (n * 6 + 6))) rfl rfl rfl rfl rfl rfl HI.out.1.1 HI.out.1.2 rfl Hcur.out hfit rfl ?_; intro w7 hb7 hk7)
     (try simp only [PU])
     have Hown9 := Lib.hid (RowJ.push HJc.out HV.out (fun b hb => ⟨by have := HDD.out; have := hb.1; omega, fun e => by have := HE.out b e; have := hb.1; omega, fun e => by have := (row_lt HJ.out.row b e.symm).2; have := hb.1; omega, hb.2⟩) (fun b e => Nat.lt_of_lt_of_le (HE.out b e) HWc.out) rfl (by rw [Hnn.out]; exact Hrowk.out) HKo.out Hr6.out (by rw [Hnn.out]) Hcur.out (by rw [Hnn.out]; exact hb7) hk7)
     have H2k := Lib.hid (hk7.blk H2k.out (blk_type H2k.out Hcur.out (by decide)))
     have H3k := Lib.hid (hk7.blk H3k.out (blk_type H3k.out Hcur.out (by decide)))
     have HSk := Lib.hid (hk7.blk HSk.out (blk_type HSk.out Hcur.out (by decide)))
     have HMk := Lib.hid (hk7.blk HMk.out (fun e => map_ne Hcur.out HMk.out e.symm))
     have HOk := Lib.hid (HOk.out.keep hk7 (fun k hk' e => HOk.out.ne Hcur.out (by decide) (by rw [hk', e])))
     have H6k := Lib.hid (hk7.blk H6k.out Hg6r.out)
     have Hrk := Lib.hid (Hrk.out.keep hk7 (blk_type Hrk.out.blk Hcur.out (by decide)))
     have HKall := Lib.hid (HKall.out.trans hk7 (fun i _ e => .inr (by rw [e]; exact Hcf.out.2.2)))
     clear hb7 hk7 hfit
     refine wpList_nil ⟨⟨(blk_cell H2k.out 0).trans rfl, (blk_cell H3k.out 0).trans rfl⟩, ?_⟩
     refine tree_e rfl rfl ?_
     go_must (refine ev_store (cs' := #[.int .i64 6, .bool false, .int .i64 0, .string ByteArray.empty, .slice (some ⟨gq, 0, none⟩) (x.1.length + 1) cq, .slice (some ⟨gr, 0, none⟩) (n + 1) cap]) rfl rfl rfl rfl rfl rfl HI.out.2.1 HI.out.2.2 rfl H6k.out (Nat.le_of_ble_eq_true rfl) rfl ?_; intro w8 hb8 hk8)
     (try simp only [PU])
     have Hb8 := Lib.hid hb8
     (try have Hown9 := Lib.hid (Hown9.out.keep hk8 (fun b _ e => .inr (.inl e))))
     (try have HKo := Lib.hid (HKo.out.trans hk8 (fun _ _ e => .inr (.inl e))))
     (try have Hrowk := Lib.hid (row_keep Hrowk.out hk8 (fun k hk e => Hg6r.out (by rw [← e]; exact (Option.some.inj hk).symm))))
     (try have Hcur := Lib.hid (hk8.blk Hcur.out (fun e => Hg6r.out e.symm)))
     have H2k := Lib.hid (hk8.blk H2k.out (blk_type H2k.out H6k.out (by decide)))
     have H3k := Lib.hid (hk8.blk H3k.out (blk_type H3k.out H6k.out (by decide)))
     have HSk := Lib.hid (hk8.blk HSk.out (blk_type HSk.out H6k.out (by decide)))
     have HMk := Lib.hid (hk8.blk HMk.out (fun e => map_ne H6k.out HMk.out e.symm))
     have HOk := Lib.hid (HOk.out.keep hk8 (fun k hk' e => HOk.out.ne H6k.out (by decide) (by rw [hk', e])))
     have Hrk := Lib.hid (Hrk.out.keep hk8 (fun e => N.out.2.2 e.symm))
     have HKall := Lib.hid (HKall.out.trans hk8 (fun i _ e => .inr (by rw [e]; exact HDD.out.2.2)))
     have H6k := Hb8
     clear hb8 hk8
     refine wpList_nil ⟨⟨(blk_cell H2k.out 0).trans rfl, (blk_cell H3k.out 0).trans rfl⟩, ?_⟩
     refine tree_nil ?_
    case' nb1_6 =>
     refine tree_e rfl rfl ?b1_7
     case' b1_7 =>
      go_must (refine ev_store (cs' := #[.int .i64 6, .bool false, .int .i64 0, .string ByteArray.empty, .slice (some ⟨gq, 0, none⟩) (x.1.length + 1) cq, .slice (some ⟨gr, 0, none⟩) (n + 1) cap]) rfl rfl rfl rfl rfl rfl HI.out.2.1 HI.out.2.2 rfl H6k.out (Nat.le_of_ble_eq_true rfl) rfl ?_; intro w8 hb8 hk8)
      (try simp only [PU])
      have Hb8 := Lib.hid hb8
      (try have Hown9 := Lib.hid (Hown9.out.keep hk8 (fun b _ e => .inr (.inl e))))
      (try have HKo := Lib.hid (HKo.out.trans hk8 (fun _ _ e => .inr (.inl e))))
      (try have Hrowk := Lib.hid (row_keep Hrowk.out hk8 (fun k hk e => Hg6r.out (by rw [← e]; exact (Option.some.inj hk).symm))))
      (try have Hcur := Lib.hid (hk8.blk Hcur.out (fun e => Hg6r.out e.symm)))
      have H2k := Lib.hid (hk8.blk H2k.out (blk_type H2k.out H6k.out (by decide)))
      have H3k := Lib.hid (hk8.blk H3k.out (blk_type H3k.out H6k.out (by decide)))
      have HSk := Lib.hid (hk8.blk HSk.out (blk_type HSk.out H6k.out (by decide)))
      have HMk := Lib.hid (hk8.blk HMk.out (fun e => map_ne H6k.out HMk.out e.symm))
      have HOk := Lib.hid (HOk.out.keep hk8 (fun k hk' e => HOk.out.ne H6k.out (by decide) (by rw [hk', e])))
      have Hrk := Lib.hid (Hrk.out.keep hk8 (fun e => N.out.2.2 e.symm))
      have HKall := Lib.hid (HKall.out.trans hk8 (fun i _ e => .inr (by rw [e]; exact HDD.out.2.2)))
      have H6k := Hb8
      clear hb8 hk8
      refine wpList_nil ⟨⟨(blk_cell H2k.out 0).trans rfl, (blk_cell H3k.out 0).trans rfl⟩, ?_⟩
      refine tree_e rfl rfl ?_
      have hfit : n * 6 + 6 ≤ cur.size := by have h1 := Hcf.out.1; have h2 := Hcf.out.2.1; omega
      go_must (refine ev_store (x := .agg #[.int .i64 jk, .bool jb, .int .i64 jn, .string jt, .slice kA' kl kc', .slice jA vl jc]) (vs := [.int .i64 jk, .bool jb, .int .i64 jn, .string jt, .slice kA' kl kc', .slice jA vl jc]) (off := n * 6) (cs' := List.toArray (cur.toList.take (n * 6) ++ ([Value.int .i64 jk, Value.bool jb, Value.int .i64 jn, Value.string jt, Value.slice kA' kl kc', Value.slice jA vl jc] : List Value) ++ cur.toList.drop (n * 6 + 6))) rfl rfl rfl rfl rfl rfl HI.out.1.1 HI.out.1.2 rfl Hcur.out hfit rfl ?_; intro w7 hb7 hk7)
      (try simp only [PU])
      have Hown9 := Lib.hid (RowJ.push HJc.out HV.out (fun b hb => ⟨by have := HDD.out; have := hb.1; omega, fun e => by have := HE.out b e; have := hb.1; omega, fun e => by have := (row_lt HJ.out.row b e.symm).2; have := hb.1; omega, hb.2⟩) (fun b e => Nat.lt_of_lt_of_le (HE.out b e) HWc.out) rfl (by rw [Hnn.out]; exact Hrowk.out) HKo.out Hr6.out (by rw [Hnn.out]) Hcur.out (by rw [Hnn.out]; exact hb7) hk7)
      have H2k := Lib.hid (hk7.blk H2k.out (blk_type H2k.out Hcur.out (by decide)))
      have H3k := Lib.hid (hk7.blk H3k.out (blk_type H3k.out Hcur.out (by decide)))
      have HSk := Lib.hid (hk7.blk HSk.out (blk_type HSk.out Hcur.out (by decide)))
      have HMk := Lib.hid (hk7.blk HMk.out (fun e => map_ne Hcur.out HMk.out e.symm))
      have HOk := Lib.hid (HOk.out.keep hk7 (fun k hk' e => HOk.out.ne Hcur.out (by decide) (by rw [hk', e])))
      have H6k := Lib.hid (hk7.blk H6k.out Hg6r.out)
      have Hrk := Lib.hid (Hrk.out.keep hk7 (blk_type Hrk.out.blk Hcur.out (by decide)))
      have HKall := Lib.hid (HKall.out.trans hk7 (fun i _ e => .inr (by rw [e]; exact Hcf.out.2.2)))
      clear hb7 hk7 hfit
      refine wpList_nil ⟨⟨(blk_cell H2k.out 0).trans rfl, (blk_cell H3k.out 0).trans rfl⟩, ?_⟩
      refine tree_nil ?_
 case' nb1_12 =>
  refine tree_b rfl rfl ?b1_25 ?nb1_25
  case' b1_25 =>
   go_wp2_with (go_at_call 80; go_must (refine (Hin.out _ Hr0.out).mono ?_; rintro e w1 ⟨⟨v1, rfl, hv1⟩, hr1, hk1⟩; obtain ⟨jk, jb, jn, jt, jks, jvs, jkv, jvv, hjj, rfl, hjk, hjv⟩ := hv1.open; obtain ⟨kA', kc', rfl, -, -⟩ := hjk; obtain ⟨jA, jc, ju, rfl, -, -, -⟩ := hjv); have hw0 := HKr.out.size; have HV := Lib.hid (hv1.keep (X' := fun b => w12.heap.size ≤ b ∧ b < w1.heap.size) (Keeps.refl Nob w1) (fun _ _ _ => id) (fun b hb hx => ⟨Nat.le_trans hw0 hx, hb⟩)); have Hr1 := Lib.hid hr1; have Hk1 := Lib.hid hk1; have HKr := Lib.hid (HKr.out.trans hk1 (fun _ _ h => h)); clear hv1 hr1 hjj hw0 hk1; generalize jks.length = kl at *; generalize jvs.length = vl at *; (try simp only [PU]))
   (try have Hbz := Lib.hid (Hk1.out.blk Hbz.out (fun e : gz = r => by have h1 : w12.heap.size ≤ gz := Hgz.out; have h2 := HDD.out; omega)))
   refine ⟨⟨HKr.out.cell c2 N.out.1, HKr.out.cell c3 N.out.2.1⟩, ?_⟩
   refine tree_b rfl rfl ?b1_18 ?nb1_18
   case' b1_18 =>
    have c6 := HKr.out.cell c5' N.out.2.2
    go_wp2_with fail
    clear c6
    (try refine ⟨⟨HKr.out.cell c2 N.out.1, HKr.out.cell c3 N.out.2.1⟩, ?_⟩)
    refine tq (some 36) ?_; (try simp only [PU])
    refine tree_e rfl rfl ?_
    go_must (refine ev_slice (cs := #[.int .i64 0, .bool false, .int .i64 0, .string ByteArray.empty, .slice none 0 0, .slice none 0 0]) (t := 25) (n := 1) (c := 1) rfl (by first | (go_simp; done) | (go_simp; rfl)) ?_; intro gz wz hgz hlz hbz hkz)
    (try simp only [PU])
    have Hgz := Lib.hid (Nat.le_trans HKr.out.size hgz)
    have Hbz := Lib.hid hbz
    (try have Hr1 := Lib.hid (Hr1.out.keep hkz id))
    (try have HV := Lib.hid (HV.out.keep (X' := fun b => w12.heap.size ≤ b ∧ b < wz.heap.size) hkz (fun _ _ _ => id) (fun b hb h => ⟨h.1, Nat.lt_of_lt_of_le h.2 hkz.size⟩)))
    (try have Hr0 := Lib.hid (Rd.keep (M := Nob) Hr0.out hkz id))
    have HKr := Lib.hid (HKr.out.then hkz)
    clear hbz hkz hgz
    refine wpList_nil ⟨⟨HKr.out.cell c2 N.out.1, HKr.out.cell c3 N.out.2.1⟩, ?_⟩
    refine tree_e rfl rfl ?_
    have HJc := Lib.hid (HJ.out.keep HKr.out (fun b _ e => .inl (by have := HDD.out; omega)))
    have hrow7 := HJc.out.row
    rw [Hnn.out] at hrow7
    have Hrow7 := Lib.hid hrow7
    clear hrow7
    go_must (refine ev_append rfl rfl Tryd.underlying23 info25b rfl (by decide) (base := base) rfl Hrow7.out rfl (news := [.int .i64 0, .bool false, .int .i64 0, .string ByteArray.empty, .slice none 0 0, .slice none 0 0]) rfl (fun _ => ⟨_, rfl, World.news_of_block Hbz.out⟩) (by simp [Value.oneCell']) (by omega) (by decide) (by have := HKr.out.size; have := HDD.out; omega) ?_; intro v6 w6 hown6 hk6 hr6 hf6; obtain ⟨gr, cap, rfl⟩ := hf6 (by decide))
    have Hr6 := Lib.hid hr6
    (try simp only [PU])
    have b2 := HKr.out.blk H2c.out N.out.1
    have b3 := HKr.out.blk H3c.out N.out.2.1
    have b6 := HKr.out.blk H5b.out N.out.2.2
    have bS := HKr.out.blk HSc.out NS.out.1
    have bm := HKr.out.blk HMc.out.1 NS.out.2
    have bk := HOS.out.keep HKr.out (fun k hk' e => by have h1 := (HOS.out.lt k hk').1; have := HDD.out; omega)
    have H2k := Lib.hid (hk6.blk b2 (row_ne Hrow7.out b2 (by decide)))
    have H3k := Lib.hid (hk6.blk b3 (row_ne Hrow7.out b3 (by decide)))
    have HSk := Lib.hid (hk6.blk bS (row_ne Hrow7.out bS (by decide)))
    have HMk := Lib.hid (hk6.blk bm (row_neMap Hrow7.out bm))
    have HOk := Lib.hid (bk.keep hk6 (fun k hk' e => HJc.out.ne k e.symm (.inr (.inr hk'.symm))))
    have H6k := Lib.hid (hk6.blk b6 (fun e => HJc.out.ne g5 e.symm (.inl rfl)))
    have Hrk := Lib.hid (Hr1.out.keep hk6 (row_ne Hrow7.out Hr1.out.blk (by decide)))
    obtain ⟨cur, hcur⟩ : ∃ cur, w6.heap[gr]? = some (.cells cur 25 (0, 0)) ∧ n + 1 ≤ cap ∧ cur.size = cap * 6 ∧ base ≤ gr := by
     rcases hown6.2 with ⟨e, _⟩ | ⟨g', cap', cur, e, hb, hg', hc, hm, hs, ht⟩
     · cases e
     · injection e with e1 e2 e3
       injection e1 with e1
       injection e1 with e1
       subst e1; subst e3
       exact ⟨cur, hg', hc, hs, hb⟩
    have Hcf := Lib.hid hcur.2
    have Hcur := Lib.hid hcur.1
    have Hg6r := Lib.hid (row_notin (fun e => HJc.out.ne g5 e (.inl rfl)) (blk_lt H5b.out) HKr.out.size hr6)
    have Hrowk := Lib.hid hown6
    have HKo := Lib.hid (hk6.mono (M' := fun k => some k = (Value.slice vA n vc).ownBlock ∨ (k = g5 ∨ k = gm ∨ some k = (Value.slice (some ⟨gq, 0, none⟩) (x.1.length + 1) cq).ownBlock)) (fun _ _ e => .inl e))
    have HKall := Lib.hid ((HKM.out.trans (keepsMR HKr.out) (fun _ _ h => h)).trans hk6 (fun i hi e => .inr (row_lt HJ.out.row i e.symm).1))
    have HWc := Lib.hid HKr.out.size
    have hlt1 : (n : Int) < (n : Int) + 1 := by omega
    clear hown6 hk6 hr6 hf6 b2 b3 b6 bS bm bk hcur
    refine wpList_nil ⟨⟨(blk_cell H2k.out 0).trans rfl, (blk_cell H3k.out 0).trans rfl⟩, ?_⟩
    refine tq (some 39) ?_; (try simp only [PU])
    refine tq (some 40) ?_; (try simp only [PU])
    refine tree_b rfl rfl ?b1_13 ?nb1_13
    case' b1_13 =>
     have hfit : n * 6 + 6 ≤ cur.size := by have h1 := Hcf.out.1; have h2 := Hcf.out.2.1; omega
     go_must (refine ev_store (x := .agg #[.int .i64 jk, .bool jb, .int .i64 jn, .string jt, .slice kA' kl kc', .slice jA vl jc]) (vs := [.int .i64 jk, .bool jb, .int .i64 jn, .string jt, .slice kA' kl kc', .slice jA vl jc]) (off := n * 6) (cs' := List.toArray (cur.toList.take (n * 6) ++ ([Value.int .i64 jk, Value.bool jb, Value.int .i64 jn, Value.string jt, Value.slice kA' kl kc', Value.slice jA vl jc] : List Value) ++ cur.toList.drop (n * 6 + 6))) rfl rfl rfl rfl rfl rfl HI.out.1.1 HI.out.1.2 rfl Hcur.out hfit rfl ?_; intro w7 hb7 hk7)
     (try simp only [PU])
     have Hown9 := Lib.hid (RowJ.push HJc.out HV.out (fun b hb => ⟨by have := HDD.out; have := hb.1; omega, fun e => by have := HE.out b e; have := hb.1; omega, fun e => by have := (row_lt HJ.out.row b e.symm).2; have := hb.1; omega, hb.2⟩) (fun b e => Nat.lt_of_lt_of_le (HE.out b e) HWc.out) rfl (by rw [Hnn.out]; exact Hrowk.out) HKo.out Hr6.out (by rw [Hnn.out]) Hcur.out (by rw [Hnn.out]; exact hb7) hk7)
     have H2k := Lib.hid (hk7.blk H2k.out (blk_type H2k.out Hcur.out (by decide)))
     have H3k := Lib.hid (hk7.blk H3k.out (blk_type H3k.out Hcur.out (by decide)))
     have HSk := Lib.hid (hk7.blk HSk.out (blk_type HSk.out Hcur.out (by decide)))
     have HMk := Lib.hid (hk7.blk HMk.out (fun e => map_ne Hcur.out HMk.out e.symm))
     have HOk := Lib.hid (HOk.out.keep hk7 (fun k hk' e => HOk.out.ne Hcur.out (by decide) (by rw [hk', e])))
     have H6k := Lib.hid (hk7.blk H6k.out Hg6r.out)
     have Hrk := Lib.hid (Hrk.out.keep hk7 (blk_type Hrk.out.blk Hcur.out (by decide)))
     have HKall := Lib.hid (HKall.out.trans hk7 (fun i _ e => .inr (by rw [e]; exact Hcf.out.2.2)))
     clear hb7 hk7 hfit
     refine wpList_nil ⟨⟨(blk_cell H2k.out 0).trans rfl, (blk_cell H3k.out 0).trans rfl⟩, ?_⟩
     refine tree_e rfl rfl ?_
     go_must (refine ev_store (cs' := #[.int .i64 6, .bool false, .int .i64 0, .string ByteArray.empty, .slice (some ⟨gq, 0, none⟩) (x.1.length + 1) cq, .slice (some ⟨gr, 0, none⟩) (n + 1) cap]) rfl rfl rfl rfl rfl rfl HI.out.2.1 HI.out.2.2 rfl H6k.out (Nat.le_of_ble_eq_true rfl) rfl ?_; intro w8 hb8 hk8)
     (try simp only [PU])
     have Hb8 := Lib.hid hb8
     (try have Hown9 := Lib.hid (Hown9.out.keep hk8 (fun b _ e => .inr (.inl e))))
     (try have HKo := Lib.hid (HKo.out.trans hk8 (fun _ _ e => .inr (.inl e))))
     (try have Hrowk := Lib.hid (row_keep Hrowk.out hk8 (fun k hk e => Hg6r.out (by rw [← e]; exact (Option.some.inj hk).symm))))
     (try have Hcur := Lib.hid (hk8.blk Hcur.out (fun e => Hg6r.out e.symm)))
     have H2k := Lib.hid (hk8.blk H2k.out (blk_type H2k.out H6k.out (by decide)))
     have H3k := Lib.hid (hk8.blk H3k.out (blk_type H3k.out H6k.out (by decide)))
     have HSk := Lib.hid (hk8.blk HSk.out (blk_type HSk.out H6k.out (by decide)))
     have HMk := Lib.hid (hk8.blk HMk.out (fun e => map_ne H6k.out HMk.out e.symm))
     have HOk := Lib.hid (HOk.out.keep hk8 (fun k hk' e => HOk.out.ne H6k.out (by decide) (by rw [hk', e])))
     have Hrk := Lib.hid (Hrk.out.keep hk8 (fun e => N.out.2.2 e.symm))
     have HKall := Lib.hid (HKall.out.trans hk8 (fun i _ e => .inr (by rw [e]; exact HDD.out.2.2)))
     have H6k := Hb8
     clear hb8 hk8
     refine wpList_nil ⟨⟨(blk_cell H2k.out 0).trans rfl, (blk_cell H3k.out 0).trans rfl⟩, ?_⟩
     refine tree_nil ?_
    case' nb1_13 =>
     refine tree_e rfl rfl ?b1_14
     case' b1_14 =>
      go_must (refine ev_store (cs' := #[.int .i64 6, .bool false, .int .i64 0, .string ByteArray.empty, .slice (some ⟨gq, 0, none⟩) (x.1.length + 1) cq, .slice (some ⟨gr, 0, none⟩) (n + 1) cap]) rfl rfl rfl rfl rfl rfl HI.out.2.1 HI.out.2.2 rfl H6k.out (Nat.le_of_ble_eq_true rfl) rfl ?_; intro w8 hb8 hk8)
      (try simp only [PU])
      have Hb8 := Lib.hid hb8
      (try have Hown9 := Lib.hid (Hown9.out.keep hk8 (fun b _ e => .inr (.inl e))))
      (try have HKo := Lib.hid (HKo.out.trans hk8 (fun _ _ e => .inr (.inl e))))
      (try have Hrowk := Lib.hid (row_keep Hrowk.out hk8 (fun k hk e => Hg6r.out (by rw [← e]; exact (Option.some.inj hk).symm))))
      (try have Hcur := Lib.hid (hk8.blk Hcur.out (fun e => Hg6r.out e.symm)))
      have H2k := Lib.hid (hk8.blk H2k.out (blk_type H2k.out H6k.out (by decide)))
      have H3k := Lib.hid (hk8.blk H3k.out (blk_type H3k.out H6k.out (by decide)))
      have HSk := Lib.hid (hk8.blk HSk.out (blk_type HSk.out H6k.out (by decide)))
      have HMk := Lib.hid (hk8.blk HMk.out (fun e => map_ne H6k.out HMk.out e.symm))
      have HOk := Lib.hid (HOk.out.keep hk8 (fun k hk' e => HOk.out.ne H6k.out (by decide) (by rw [hk', e])))
      have Hrk := Lib.hid (Hrk.out.keep hk8 (fun e => N.out.2.2 e.symm))
      have HKall := Lib.hid (HKall.out.trans hk8 (fun i _ e => .inr (by rw [e]; exact HDD.out.2.2)))
      have H6k := Hb8
      clear hb8 hk8
      refine wpList_nil ⟨⟨(blk_cell H2k.out 0).trans rfl, (blk_cell H3k.out 0).trans rfl⟩, ?_⟩
      refine tree_e rfl rfl ?_
      have hfit : n * 6 + 6 ≤ cur.size := by have h1 := Hcf.out.1; have h2 := Hcf.out.2.1; omega
      go_must (refine ev_store (x := .agg #[.int .i64 jk, .bool jb, .int .i64 jn, .string jt, .slice kA' kl kc', .slice jA vl jc]) (vs := [.int .i64 jk, .bool jb, .int .i64 jn, .string jt, .slice kA' kl kc', .slice jA vl jc]) (off := n * 6) (cs' := List.toArray (cur.toList.take (n * 6) ++ ([Value.int .i64 jk, Value.bool jb, Value.int .i64 jn, Value.string jt, Value.slice kA' kl kc', Value.slice jA vl jc] : List Value) ++ cur.toList.drop (n * 6 + 6))) rfl rfl rfl rfl rfl rfl HI.out.1.1 HI.out.1.2 rfl Hcur.out hfit rfl ?_; intro w7 hb7 hk7)
      (try simp only [PU])
      have Hown9 := Lib.hid (RowJ.push HJc.out HV.out (fun b hb => ⟨by have := HDD.out; have := hb.1; omega, fun e => by have := HE.out b e; have := hb.1; omega, fun e => by have := (row_lt HJ.out.row b e.symm).2; have := hb.1; omega, hb.2⟩) (fun b e => Nat.lt_of_lt_of_le (HE.out b e) HWc.out) rfl (by rw [Hnn.out]; exact Hrowk.out) HKo.out Hr6.out (by rw [Hnn.out]) Hcur.out (by rw [Hnn.out]; exact hb7) hk7)
      have H2k := Lib.hid (hk7.blk H2k.out (blk_type H2k.out Hcur.out (by decide)))
      have H3k := Lib.hid (hk7.blk H3k.out (blk_type H3k.out Hcur.out (by decide)))
      have HSk := Lib.hid (hk7.blk HSk.out (blk_type HSk.out Hcur.out (by decide)))
      have HMk := Lib.hid (hk7.blk HMk.out (fun e => map_ne Hcur.out HMk.out e.symm))
      have HOk := Lib.hid (HOk.out.keep hk7 (fun k hk' e => HOk.out.ne Hcur.out (by decide) (by rw [hk', e])))
      have H6k := Lib.hid (hk7.blk H6k.out Hg6r.out)
      have Hrk := Lib.hid (Hrk.out.keep hk7 (blk_type Hrk.out.blk Hcur.out (by decide)))
      have HKall := Lib.hid (HKall.out.trans hk7 (fun i _ e => .inr (by rw [e]; exact Hcf.out.2.2)))
      clear hb7 hk7 hfit
      refine wpList_nil ⟨⟨(blk_cell H2k.out 0).trans rfl, (blk_cell H3k.out 0).trans rfl⟩, ?_⟩
      refine tree_nil ?_
   case' nb1_18 =>
    refine tree_e rfl rfl ?b1_24
    case' b1_24 =>
     go_must (refine ev_slice (cs := #[.int .i64 0, .bool false, .int .i64 0, .string ByteArray.empty, .slice none 0 0, .slice none 0 0]) (t := 25) (n := 1) (c := 1) rfl (by first | (go_simp; done) | (go_simp; rfl)) ?_; intro gz wz hgz hlz hbz hkz)
     (try simp only [PU])
     have Hgz := Lib.hid (Nat.le_trans HKr.out.size hgz)
     have Hbz := Lib.hid hbz
     (try have Hr1 := Lib.hid (Hr1.out.keep hkz id))
     (try have HV := Lib.hid (HV.out.keep (X' := fun b => w12.heap.size ≤ b ∧ b < wz.heap.size) hkz (fun _ _ _ => id) (fun b hb h => ⟨h.1, Nat.lt_of_lt_of_le h.2 hkz.size⟩)))
     (try have Hr0 := Lib.hid (Rd.keep (M := Nob) Hr0.out hkz id))
     have HKr := Lib.hid (HKr.out.then hkz)
     clear hbz hkz hgz
     refine wpList_nil ⟨⟨HKr.out.cell c2 N.out.1, HKr.out.cell c3 N.out.2.1⟩, ?_⟩
     refine tree_e rfl rfl ?_
     have c6 := HKr.out.cell c5' N.out.2.2
     go_wp2_with fail
     clear c6
     (try refine ⟨⟨HKr.out.cell c2 N.out.1, HKr.out.cell c3 N.out.2.1⟩, ?_⟩)
     refine tq (some 36) ?_; (try simp only [PU])
     refine tree_e rfl rfl ?_
     have HJc := Lib.hid (HJ.out.keep HKr.out (fun b _ e => .inl (by have := HDD.out; omega)))
     have hrow7 := HJc.out.row
     rw [Hnn.out] at hrow7
     have Hrow7 := Lib.hid hrow7
     clear hrow7
     go_must (refine ev_append rfl rfl Tryd.underlying23 info25b rfl (by decide) (base := base) rfl Hrow7.out rfl (news := [.int .i64 0, .bool false, .int .i64 0, .string ByteArray.empty, .slice none 0 0, .slice none 0 0]) rfl (fun _ => ⟨_, rfl, World.news_of_block Hbz.out⟩) (by simp [Value.oneCell']) (by omega) (by decide) (by have := HKr.out.size; have := HDD.out; omega) ?_; intro v6 w6 hown6 hk6 hr6 hf6; obtain ⟨gr, cap, rfl⟩ := hf6 (by decide))
     have Hr6 := Lib.hid hr6
     (try simp only [PU])
     have b2 := HKr.out.blk H2c.out N.out.1
     have b3 := HKr.out.blk H3c.out N.out.2.1
     have b6 := HKr.out.blk H5b.out N.out.2.2
     have bS := HKr.out.blk HSc.out NS.out.1
     have bm := HKr.out.blk HMc.out.1 NS.out.2
     have bk := HOS.out.keep HKr.out (fun k hk' e => by have h1 := (HOS.out.lt k hk').1; have := HDD.out; omega)
     have H2k := Lib.hid (hk6.blk b2 (row_ne Hrow7.out b2 (by decide)))
     have H3k := Lib.hid (hk6.blk b3 (row_ne Hrow7.out b3 (by decide)))
     have HSk := Lib.hid (hk6.blk bS (row_ne Hrow7.out bS (by decide)))
     have HMk := Lib.hid (hk6.blk bm (row_neMap Hrow7.out bm))
     have HOk := Lib.hid (bk.keep hk6 (fun k hk' e => HJc.out.ne k e.symm (.inr (.inr hk'.symm))))
     have H6k := Lib.hid (hk6.blk b6 (fun e => HJc.out.ne g5 e.symm (.inl rfl)))
     have Hrk := Lib.hid (Hr1.out.keep hk6 (row_ne Hrow7.out Hr1.out.blk (by decide)))
     obtain ⟨cur, hcur⟩ : ∃ cur, w6.heap[gr]? = some (.cells cur 25 (0, 0)) ∧ n + 1 ≤ cap ∧ cur.size = cap * 6 ∧ base ≤ gr := by
      rcases hown6.2 with ⟨e, _⟩ | ⟨g', cap', cur, e, hb, hg', hc, hm, hs, ht⟩
      · cases e
      · injection e with e1 e2 e3
        injection e1 with e1
        injection e1 with e1
        subst e1; subst e3
        exact ⟨cur, hg', hc, hs, hb⟩
     have Hcf := Lib.hid hcur.2
     have Hcur := Lib.hid hcur.1
     have Hg6r := Lib.hid (row_notin (fun e => HJc.out.ne g5 e (.inl rfl)) (blk_lt H5b.out) HKr.out.size hr6)
     have Hrowk := Lib.hid hown6
     have HKo := Lib.hid (hk6.mono (M' := fun k => some k = (Value.slice vA n vc).ownBlock ∨ (k = g5 ∨ k = gm ∨ some k = (Value.slice (some ⟨gq, 0, none⟩) (x.1.length + 1) cq).ownBlock)) (fun _ _ e => .inl e))
     have HKall := Lib.hid ((HKM.out.trans (keepsMR HKr.out) (fun _ _ h => h)).trans hk6 (fun i hi e => .inr (row_lt HJ.out.row i e.symm).1))
     have HWc := Lib.hid HKr.out.size
     have hlt1 : (n : Int) < (n : Int) + 1 := by omega
     clear hown6 hk6 hr6 hf6 b2 b3 b6 bS bm bk hcur
     refine wpList_nil ⟨⟨(blk_cell H2k.out 0).trans rfl, (blk_cell H3k.out 0).trans rfl⟩, ?_⟩
     refine tq (some 39) ?_; (try simp only [PU])
     refine tq (some 40) ?_; (try simp only [PU])
     refine tree_b rfl rfl ?b1_19 ?nb1_19
     case' b1_19 =>
      have hfit : n * 6 + 6 ≤ cur.size := by have h1 := Hcf.out.1; have h2 := Hcf.out.2.1; omega
      go_must (refine ev_store (x := .agg #[.int .i64 jk, .bool jb, .int .i64 jn, .string jt, .slice kA' kl kc', .slice jA vl jc]) (vs := [.int .i64 jk, .bool jb, .int .i64 jn, .string jt, .slice kA' kl kc', .slice jA vl jc]) (off := n * 6) (cs' := List.toArray (cur.toList.take (n * 6) ++ ([Value.int .i64 jk, Value.bool jb, Value.int .i64 jn, Value.string jt, Value.slice kA' kl kc', Value.slice jA vl jc] : List Value) ++ cur.toList.drop (n * 6 + 6))) rfl rfl rfl rfl rfl rfl HI.out.1.1 HI.out.1.2 rfl Hcur.out hfit rfl ?_; intro w7 hb7 hk7)
      (try simp only [PU])
      have Hown9 := Lib.hid (RowJ.push HJc.out HV.out (fun b hb => ⟨by have := HDD.out; have := hb.1; omega, fun e => by have := HE.out b e; have := hb.1; omega, fun e => by have := (row_lt HJ.out.row b e.symm).2; have := hb.1; omega, hb.2⟩) (fun b e => Nat.lt_of_lt_of_le (HE.out b e) HWc.out) rfl (by rw [Hnn.out]; exact Hrowk.out) HKo.out Hr6.out (by rw [Hnn.out]) Hcur.out (by rw [Hnn.out]; exact hb7) hk7)
      have H2k := Lib.hid (hk7.blk H2k.out (blk_type H2k.out Hcur.out (by decide)))
      have H3k := Lib.hid (hk7.blk H3k.out (blk_type H3k.out Hcur.out (by decide)))
      have HSk := Lib.hid (hk7.blk HSk.out (blk_type HSk.out Hcur.out (by decide)))
      have HMk := Lib.hid (hk7.blk HMk.out (fun e => map_ne Hcur.out HMk.out e.symm))
      have HOk := Lib.hid (HOk.out.keep hk7 (fun k hk' e => HOk.out.ne Hcur.out (by decide) (by rw [hk', e])))
      have H6k := Lib.hid (hk7.blk H6k.out Hg6r.out)
      have Hrk := Lib.hid (Hrk.out.keep hk7 (blk_type Hrk.out.blk Hcur.out (by decide)))
      have HKall := Lib.hid (HKall.out.trans hk7 (fun i _ e => .inr (by rw [e]; exact Hcf.out.2.2)))
      clear hb7 hk7 hfit
      refine wpList_nil ⟨⟨(blk_cell H2k.out 0).trans rfl, (blk_cell H3k.out 0).trans rfl⟩, ?_⟩
      refine tree_e rfl rfl ?_
      go_must (refine ev_store (cs' := #[.int .i64 6, .bool false, .int .i64 0, .string ByteArray.empty, .slice (some ⟨gq, 0, none⟩) (x.1.length + 1) cq, .slice (some ⟨gr, 0, none⟩) (n + 1) cap]) rfl rfl rfl rfl rfl rfl HI.out.2.1 HI.out.2.2 rfl H6k.out (Nat.le_of_ble_eq_true rfl) rfl ?_; intro w8 hb8 hk8)
      (try simp only [PU])
      have Hb8 := Lib.hid hb8
      (try have Hown9 := Lib.hid (Hown9.out.keep hk8 (fun b _ e => .inr (.inl e))))
      (try have HKo := Lib.hid (HKo.out.trans hk8 (fun _ _ e => .inr (.inl e))))
      (try have Hrowk := Lib.hid (row_keep Hrowk.out hk8 (fun k hk e => Hg6r.out (by rw [← e]; exact (Option.some.inj hk).symm))))
      (try have Hcur := Lib.hid (hk8.blk Hcur.out (fun e => Hg6r.out e.symm)))
      have H2k := Lib.hid (hk8.blk H2k.out (blk_type H2k.out H6k.out (by decide)))
      have H3k := Lib.hid (hk8.blk H3k.out (blk_type H3k.out H6k.out (by decide)))
      have HSk := Lib.hid (hk8.blk HSk.out (blk_type HSk.out H6k.out (by decide)))
      have HMk := Lib.hid (hk8.blk HMk.out (fun e => map_ne H6k.out HMk.out e.symm))
      have HOk := Lib.hid (HOk.out.keep hk8 (fun k hk' e => HOk.out.ne H6k.out (by decide) (by rw [hk', e])))
      have Hrk := Lib.hid (Hrk.out.keep hk8 (fun e => N.out.2.2 e.symm))
      have HKall := Lib.hid (HKall.out.trans hk8 (fun i _ e => .inr (by rw [e]; exact HDD.out.2.2)))
      have H6k := Hb8
      clear hb8 hk8
      refine wpList_nil ⟨⟨(blk_cell H2k.out 0).trans rfl, (blk_cell H3k.out 0).trans rfl⟩, ?_⟩
      refine tree_nil ?_
     case' nb1_19 =>
      refine tree_e rfl rfl ?b1_20
      case' b1_20 =>
       go_must (refine ev_store (cs' := #[.int .i64 6, .bool false, .int .i64 0, .string ByteArray.empty, .slice (some ⟨gq, 0, none⟩) (x.1.length + 1) cq, .slice (some ⟨gr, 0, none⟩) (n + 1) cap]) rfl rfl rfl rfl rfl rfl HI.out.2.1 HI.out.2.2 rfl H6k.out (Nat.le_of_ble_eq_true rfl) rfl ?_; intro w8 hb8 hk8)
       (try simp only [PU])
       have Hb8 := Lib.hid hb8
       (try have Hown9 := Lib.hid (Hown9.out.keep hk8 (fun b _ e => .inr (.inl e))))
       (try have HKo := Lib.hid (HKo.out.trans hk8 (fun _ _ e => .inr (.inl e))))
       (try have Hrowk := Lib.hid (row_keep Hrowk.out hk8 (fun k hk e => Hg6r.out (by rw [← e]; exact (Option.some.inj hk).symm))))
       (try have Hcur := Lib.hid (hk8.blk Hcur.out (fun e => Hg6r.out e.symm)))
       have H2k := Lib.hid (hk8.blk H2k.out (blk_type H2k.out H6k.out (by decide)))
       have H3k := Lib.hid (hk8.blk H3k.out (blk_type H3k.out H6k.out (by decide)))
       have HSk := Lib.hid (hk8.blk HSk.out (blk_type HSk.out H6k.out (by decide)))
       have HMk := Lib.hid (hk8.blk HMk.out (fun e => map_ne H6k.out HMk.out e.symm))
       have HOk := Lib.hid (HOk.out.keep hk8 (fun k hk' e => HOk.out.ne H6k.out (by decide) (by rw [hk', e])))
       have Hrk := Lib.hid (Hrk.out.keep hk8 (fun e => N.out.2.2 e.symm))
       have HKall := Lib.hid (HKall.out.trans hk8 (fun i _ e => .inr (by rw [e]; exact HDD.out.2.2)))
       have H6k := Hb8
       clear hb8 hk8
       refine wpList_nil ⟨⟨(blk_cell H2k.out 0).trans rfl, (blk_cell H3k.out 0).trans rfl⟩, ?_⟩
       refine tree_e rfl rfl ?_
       have hfit : n * 6 + 6 ≤ cur.size := by have h1 := Hcf.out.1; have h2 := Hcf.out.2.1; omega
       go_must (refine ev_store (x := .agg #[.int .i64 jk, .bool jb, .int .i64 jn, .string jt, .slice kA' kl kc', .slice jA vl jc]) (vs := [.int .i64 jk, .bool jb, .int .i64 jn, .string jt, .slice kA' kl kc', .slice jA vl jc]) (off := n * 6) (cs' := List.toArray (cur.toList.take (n * 6) ++ ([Value.int .i64 jk, Value.bool jb, Value.int .i64 jn, Value.string jt, Value.slice kA' kl kc', Value.slice jA vl jc] : List Value) ++ cur.toList.drop (n * 6 + 6))) rfl rfl rfl rfl rfl rfl HI.out.1.1 HI.out.1.2 rfl Hcur.out hfit rfl ?_; intro w7 hb7 hk7)
       (try simp only [PU])
       have Hown9 := Lib.hid (RowJ.push HJc.out HV.out (fun b hb => ⟨by have := HDD.out; have := hb.1; omega, fun e => by have := HE.out b e; have := hb.1; omega, fun e => by have := (row_lt HJ.out.row b e.symm).2; have := hb.1; omega, hb.2⟩) (fun b e => Nat.lt_of_lt_of_le (HE.out b e) HWc.out) rfl (by rw [Hnn.out]; exact Hrowk.out) HKo.out Hr6.out (by rw [Hnn.out]) Hcur.out (by rw [Hnn.out]; exact hb7) hk7)
       have H2k := Lib.hid (hk7.blk H2k.out (blk_type H2k.out Hcur.out (by decide)))
       have H3k := Lib.hid (hk7.blk H3k.out (blk_type H3k.out Hcur.out (by decide)))
       have HSk := Lib.hid (hk7.blk HSk.out (blk_type HSk.out Hcur.out (by decide)))
       have HMk := Lib.hid (hk7.blk HMk.out (fun e => map_ne Hcur.out HMk.out e.symm))
       have HOk := Lib.hid (HOk.out.keep hk7 (fun k hk' e => HOk.out.ne Hcur.out (by decide) (by rw [hk', e])))
       have H6k := Lib.hid (hk7.blk H6k.out Hg6r.out)
       have Hrk := Lib.hid (Hrk.out.keep hk7 (blk_type Hrk.out.blk Hcur.out (by decide)))
       have HKall := Lib.hid (HKall.out.trans hk7 (fun i _ e => .inr (by rw [e]; exact Hcf.out.2.2)))
       clear hb7 hk7 hfit
       refine wpList_nil ⟨⟨(blk_cell H2k.out 0).trans rfl, (blk_cell H3k.out 0).trans rfl⟩, ?_⟩
       refine tree_nil ?_
  case' nb1_25 =>
   refine tree_e rfl rfl ?b1_38
   case' b1_38 =>
    go_must (refine ev_slice (cs := #[.int .i64 0, .bool false, .int .i64 0, .string ByteArray.empty, .slice none 0 0, .slice none 0 0]) (t := 25) (n := 1) (c := 1) rfl (by first | (go_simp; done) | (go_simp; rfl)) ?_; intro gz wz hgz hlz hbz hkz)
    (try simp only [PU])
    have Hgz := Lib.hid (Nat.le_trans HKr.out.size hgz)
    have Hbz := Lib.hid hbz
    (try have Hr1 := Lib.hid (Hr1.out.keep hkz id))
    (try have HV := Lib.hid (HV.out.keep (X' := fun b => w12.heap.size ≤ b ∧ b < wz.heap.size) hkz (fun _ _ _ => id) (fun b hb h => ⟨h.1, Nat.lt_of_lt_of_le h.2 hkz.size⟩)))
    (try have Hr0 := Lib.hid (Rd.keep (M := Nob) Hr0.out hkz id))
    have HKr := Lib.hid (HKr.out.then hkz)
    clear hbz hkz hgz
    refine wpList_nil ⟨⟨HKr.out.cell c2 N.out.1, HKr.out.cell c3 N.out.2.1⟩, ?_⟩
    refine tree_b rfl rfl ?b1_31 ?nb1_31
    case' b1_31 =>
     have c6 := HKr.out.cell c5' N.out.2.2
     go_wp2_with fail
     clear c6
     (try refine ⟨⟨HKr.out.cell c2 N.out.1, HKr.out.cell c3 N.out.2.1⟩, ?_⟩)
     refine tq (some 36) ?_; (try simp only [PU])
     refine tree_e rfl rfl ?_
     go_wp2_with (go_at_call 80; go_must (refine (Hin.out _ Hr0.out).mono ?_; rintro e w1 ⟨⟨v1, rfl, hv1⟩, hr1, hk1⟩; obtain ⟨jk, jb, jn, jt, jks, jvs, jkv, jvv, hjj, rfl, hjk, hjv⟩ := hv1.open; obtain ⟨kA', kc', rfl, -, -⟩ := hjk; obtain ⟨jA, jc, ju, rfl, -, -, -⟩ := hjv); have hw0 := HKr.out.size; have HV := Lib.hid (hv1.keep (X' := fun b => w12.heap.size ≤ b ∧ b < w1.heap.size) (Keeps.refl Nob w1) (fun _ _ _ => id) (fun b hb hx => ⟨Nat.le_trans hw0 hx, hb⟩)); have Hr1 := Lib.hid hr1; have Hk1 := Lib.hid hk1; have HKr := Lib.hid (HKr.out.trans hk1 (fun _ _ h => h)); clear hv1 hr1 hjj hw0 hk1; generalize jks.length = kl at *; generalize jvs.length = vl at *; (try simp only [PU]))
     (try have Hbz := Lib.hid (Hk1.out.blk Hbz.out (fun e : gz = r => by have h1 : w12.heap.size ≤ gz := Hgz.out; have h2 := HDD.out; omega)))
     refine ⟨⟨HKr.out.cell c2 N.out.1, HKr.out.cell c3 N.out.2.1⟩, ?_⟩
     refine tree_e rfl rfl ?_
     have HJc := Lib.hid (HJ.out.keep HKr.out (fun b _ e => .inl (by have := HDD.out; omega)))
     have hrow7 := HJc.out.row
     rw [Hnn.out] at hrow7
     have Hrow7 := Lib.hid hrow7
     clear hrow7
     go_must (refine ev_append rfl rfl Tryd.underlying23 info25b rfl (by decide) (base := base) rfl Hrow7.out rfl (news := [.int .i64 0, .bool false, .int .i64 0, .string ByteArray.empty, .slice none 0 0, .slice none 0 0]) rfl (fun _ => ⟨_, rfl, World.news_of_block Hbz.out⟩) (by simp [Value.oneCell']) (by omega) (by decide) (by have := HKr.out.size; have := HDD.out; omega) ?_; intro v6 w6 hown6 hk6 hr6 hf6; obtain ⟨gr, cap, rfl⟩ := hf6 (by decide))
     have Hr6 := Lib.hid hr6
     (try simp only [PU])
     have b2 := HKr.out.blk H2c.out N.out.1
     have b3 := HKr.out.blk H3c.out N.out.2.1
     have b6 := HKr.out.blk H5b.out N.out.2.2
     have bS := HKr.out.blk HSc.out NS.out.1
     have bm := HKr.out.blk HMc.out.1 NS.out.2
     have bk := HOS.out.keep HKr.out (fun k hk' e => by have h1 := (HOS.out.lt k hk').1; have := HDD.out; omega)
     have H2k := Lib.hid (hk6.blk b2 (row_ne Hrow7.out b2 (by decide)))
     have H3k := Lib.hid (hk6.blk b3 (row_ne Hrow7.out b3 (by decide)))
     have HSk := Lib.hid (hk6.blk bS (row_ne Hrow7.out bS (by decide)))
     have HMk := Lib.hid (hk6.blk bm (row_neMap Hrow7.out bm))
     have HOk := Lib.hid (bk.keep hk6 (fun k hk' e => HJc.out.ne k e.symm (.inr (.inr hk'.symm))))
     have H6k := Lib.hid (hk6.blk b6 (fun e => HJc.out.ne g5 e.symm (.inl rfl)))
     have Hrk := Lib.hid (Hr1.out.keep hk6 (row_ne Hrow7.out Hr1.out.blk (by decide)))
     obtain ⟨cur, hcur⟩ : ∃ cur, w6.heap[gr]? = some (.cells cur 25 (0, 0)) ∧ n + 1 ≤ cap ∧ cur.size = cap * 6 ∧ base ≤ gr := by
      rcases hown6.2 with ⟨e, _⟩ | ⟨g', cap', cur, e, hb, hg', hc, hm, hs, ht⟩
      · cases e
      · injection e with e1 e2 e3
        injection e1 with e1
        injection e1 with e1
        subst e1; subst e3
        exact ⟨cur, hg', hc, hs, hb⟩
     have Hcf := Lib.hid hcur.2
     have Hcur := Lib.hid hcur.1
     have Hg6r := Lib.hid (row_notin (fun e => HJc.out.ne g5 e (.inl rfl)) (blk_lt H5b.out) HKr.out.size hr6)
     have Hrowk := Lib.hid hown6
     have HKo := Lib.hid (hk6.mono (M' := fun k => some k = (Value.slice vA n vc).ownBlock ∨ (k = g5 ∨ k = gm ∨ some k = (Value.slice (some ⟨gq, 0, none⟩) (x.1.length + 1) cq).ownBlock)) (fun _ _ e => .inl e))
     have HKall := Lib.hid ((HKM.out.trans (keepsMR HKr.out) (fun _ _ h => h)).trans hk6 (fun i hi e => .inr (row_lt HJ.out.row i e.symm).1))
     have HWc := Lib.hid HKr.out.size
     have hlt1 : (n : Int) < (n : Int) + 1 := by omega
     clear hown6 hk6 hr6 hf6 b2 b3 b6 bS bm bk hcur
     refine wpList_nil ⟨⟨(blk_cell H2k.out 0).trans rfl, (blk_cell H3k.out 0).trans rfl⟩, ?_⟩
     refine tq (some 39) ?_; (try simp only [PU])
     refine tq (some 40) ?_; (try simp only [PU])
     refine tree_b rfl rfl ?b1_26 ?nb1_26
     case' b1_26 =>
      have hfit : n * 6 + 6 ≤ cur.size := by have h1 := Hcf.out.1; have h2 := Hcf.out.2.1; omega
      go_must (refine ev_store (x := .agg #[.int .i64 jk, .bool jb, .int .i64 jn, .string jt, .slice kA' kl kc', .slice jA vl jc]) (vs := [.int .i64 jk, .bool jb, .int .i64 jn, .string jt, .slice kA' kl kc', .slice jA vl jc]) (off := n * 6) (cs' := List.toArray (cur.toList.take (n * 6) ++ ([Value.int .i64 jk, Value.bool jb, Value.int .i64 jn, Value.string jt, Value.slice kA' kl kc', Value.slice jA vl jc] : List Value) ++ cur.toList.drop (n * 6 + 6))) rfl rfl rfl rfl rfl rfl HI.out.1.1 HI.out.1.2 rfl Hcur.out hfit rfl ?_; intro w7 hb7 hk7)
      (try simp only [PU])
      have Hown9 := Lib.hid (RowJ.push HJc.out HV.out (fun b hb => ⟨by have := HDD.out; have := hb.1; omega, fun e => by have := HE.out b e; have := hb.1; omega, fun e => by have := (row_lt HJ.out.row b e.symm).2; have := hb.1; omega, hb.2⟩) (fun b e => Nat.lt_of_lt_of_le (HE.out b e) HWc.out) rfl (by rw [Hnn.out]; exact Hrowk.out) HKo.out Hr6.out (by rw [Hnn.out]) Hcur.out (by rw [Hnn.out]; exact hb7) hk7)
      have H2k := Lib.hid (hk7.blk H2k.out (blk_type H2k.out Hcur.out (by decide)))
      have H3k := Lib.hid (hk7.blk H3k.out (blk_type H3k.out Hcur.out (by decide)))
      have HSk := Lib.hid (hk7.blk HSk.out (blk_type HSk.out Hcur.out (by decide)))
      have HMk := Lib.hid (hk7.blk HMk.out (fun e => map_ne Hcur.out HMk.out e.symm))
      have HOk := Lib.hid (HOk.out.keep hk7 (fun k hk' e => HOk.out.ne Hcur.out (by decide) (by rw [hk', e])))
      have H6k := Lib.hid (hk7.blk H6k.out Hg6r.out)
      have Hrk := Lib.hid (Hrk.out.keep hk7 (blk_type Hrk.out.blk Hcur.out (by decide)))
      have HKall := Lib.hid (HKall.out.trans hk7 (fun i _ e => .inr (by rw [e]; exact Hcf.out.2.2)))
      clear hb7 hk7 hfit
      refine wpList_nil ⟨⟨(blk_cell H2k.out 0).trans rfl, (blk_cell H3k.out 0).trans rfl⟩, ?_⟩
      refine tree_e rfl rfl ?_
      go_must (refine ev_store (cs' := #[.int .i64 6, .bool false, .int .i64 0, .string ByteArray.empty, .slice (some ⟨gq, 0, none⟩) (x.1.length + 1) cq, .slice (some ⟨gr, 0, none⟩) (n + 1) cap]) rfl rfl rfl rfl rfl rfl HI.out.2.1 HI.out.2.2 rfl H6k.out (Nat.le_of_ble_eq_true rfl) rfl ?_; intro w8 hb8 hk8)
      (try simp only [PU])
      have Hb8 := Lib.hid hb8
      (try have Hown9 := Lib.hid (Hown9.out.keep hk8 (fun b _ e => .inr (.inl e))))
      (try have HKo := Lib.hid (HKo.out.trans hk8 (fun _ _ e => .inr (.inl e))))
      (try have Hrowk := Lib.hid (row_keep Hrowk.out hk8 (fun k hk e => Hg6r.out (by rw [← e]; exact (Option.some.inj hk).symm))))
      (try have Hcur := Lib.hid (hk8.blk Hcur.out (fun e => Hg6r.out e.symm)))
      have H2k := Lib.hid (hk8.blk H2k.out (blk_type H2k.out H6k.out (by decide)))
      have H3k := Lib.hid (hk8.blk H3k.out (blk_type H3k.out H6k.out (by decide)))
      have HSk := Lib.hid (hk8.blk HSk.out (blk_type HSk.out H6k.out (by decide)))
      have HMk := Lib.hid (hk8.blk HMk.out (fun e => map_ne H6k.out HMk.out e.symm))
      have HOk := Lib.hid (HOk.out.keep hk8 (fun k hk' e => HOk.out.ne H6k.out (by decide) (by rw [hk', e])))
      have Hrk := Lib.hid (Hrk.out.keep hk8 (fun e => N.out.2.2 e.symm))
      have HKall := Lib.hid (HKall.out.trans hk8 (fun i _ e => .inr (by rw [e]; exact HDD.out.2.2)))
      have H6k := Hb8
      clear hb8 hk8
      refine wpList_nil ⟨⟨(blk_cell H2k.out 0).trans rfl, (blk_cell H3k.out 0).trans rfl⟩, ?_⟩
      refine tree_nil ?_
     case' nb1_26 =>
      refine tree_e rfl rfl ?b1_27
      case' b1_27 =>
       go_must (refine ev_store (cs' := #[.int .i64 6, .bool false, .int .i64 0, .string ByteArray.empty, .slice (some ⟨gq, 0, none⟩) (x.1.length + 1) cq, .slice (some ⟨gr, 0, none⟩) (n + 1) cap]) rfl rfl rfl rfl rfl rfl HI.out.2.1 HI.out.2.2 rfl H6k.out (Nat.le_of_ble_eq_true rfl) rfl ?_; intro w8 hb8 hk8)
       (try simp only [PU])
       have Hb8 := Lib.hid hb8
       (try have Hown9 := Lib.hid (Hown9.out.keep hk8 (fun b _ e => .inr (.inl e))))
       (try have HKo := Lib.hid (HKo.out.trans hk8 (fun _ _ e => .inr (.inl e))))
       (try have Hrowk := Lib.hid (row_keep Hrowk.out hk8 (fun k hk e => Hg6r.out (by rw [← e]; exact (Option.some.inj hk).symm))))
       (try have Hcur := Lib.hid (hk8.blk Hcur.out (fun e => Hg6r.out e.symm)))
       have H2k := Lib.hid (hk8.blk H2k.out (blk_type H2k.out H6k.out (by decide)))
       have H3k := Lib.hid (hk8.blk H3k.out (blk_type H3k.out H6k.out (by decide)))
       have HSk := Lib.hid (hk8.blk HSk.out (blk_type HSk.out H6k.out (by decide)))
       have HMk := Lib.hid (hk8.blk HMk.out (fun e => map_ne H6k.out HMk.out e.symm))
       have HOk := Lib.hid (HOk.out.keep hk8 (fun k hk' e => HOk.out.ne H6k.out (by decide) (by rw [hk', e])))
       have Hrk := Lib.hid (Hrk.out.keep hk8 (fun e => N.out.2.2 e.symm))
       have HKall := Lib.hid (HKall.out.trans hk8 (fun i _ e => .inr (by rw [e]; exact HDD.out.2.2)))
       have H6k := Hb8
       clear hb8 hk8
       refine wpList_nil ⟨⟨(blk_cell H2k.out 0).trans rfl, (blk_cell H3k.out 0).trans rfl⟩, ?_⟩
       refine tree_e rfl rfl ?_
       have hfit : n * 6 + 6 ≤ cur.size := by have h1 := Hcf.out.1; have h2 := Hcf.out.2.1; omega
       go_must (refine ev_store (x := .agg #[.int .i64 jk, .bool jb, .int .i64 jn, .string jt, .slice kA' kl kc', .slice jA vl jc]) (vs := [.int .i64 jk, .bool jb, .int .i64 jn, .string jt, .slice kA' kl kc', .slice jA vl jc]) (off := n * 6) (cs' := List.toArray (cur.toList.take (n * 6) ++ ([Value.int .i64 jk, Value.bool jb, Value.int .i64 jn, Value.string jt, Value.slice kA' kl kc', Value.slice jA vl jc] : List Value) ++ cur.toList.drop (n * 6 + 6))) rfl rfl rfl rfl rfl rfl HI.out.1.1 HI.out.1.2 rfl Hcur.out hfit rfl ?_; intro w7 hb7 hk7)
       (try simp only [PU])
       have Hown9 := Lib.hid (RowJ.push HJc.out HV.out (fun b hb => ⟨by have := HDD.out; have := hb.1; omega, fun e => by have := HE.out b e; have := hb.1; omega, fun e => by have := (row_lt HJ.out.row b e.symm).2; have := hb.1; omega, hb.2⟩) (fun b e => Nat.lt_of_lt_of_le (HE.out b e) HWc.out) rfl (by rw [Hnn.out]; exact Hrowk.out) HKo.out Hr6.out (by rw [Hnn.out]) Hcur.out (by rw [Hnn.out]; exact hb7) hk7)
       have H2k := Lib.hid (hk7.blk H2k.out (blk_type H2k.out Hcur.out (by decide)))
       have H3k := Lib.hid (hk7.blk H3k.out (blk_type H3k.out Hcur.out (by decide)))
       have HSk := Lib.hid (hk7.blk HSk.out (blk_type HSk.out Hcur.out (by decide)))
       have HMk := Lib.hid (hk7.blk HMk.out (fun e => map_ne Hcur.out HMk.out e.symm))
       have HOk := Lib.hid (HOk.out.keep hk7 (fun k hk' e => HOk.out.ne Hcur.out (by decide) (by rw [hk', e])))
       have H6k := Lib.hid (hk7.blk H6k.out Hg6r.out)
       have Hrk := Lib.hid (Hrk.out.keep hk7 (blk_type Hrk.out.blk Hcur.out (by decide)))
       have HKall := Lib.hid (HKall.out.trans hk7 (fun i _ e => .inr (by rw [e]; exact Hcf.out.2.2)))
       clear hb7 hk7 hfit
       refine wpList_nil ⟨⟨(blk_cell H2k.out 0).trans rfl, (blk_cell H3k.out 0).trans rfl⟩, ?_⟩
       refine tree_nil ?_
    case' nb1_31 =>
     refine tree_e rfl rfl ?b1_37
     case' b1_37 =>
      go_wp2_with (go_at_call 80; go_must (refine (Hin.out _ Hr0.out).mono ?_; rintro e w1 ⟨⟨v1, rfl, hv1⟩, hr1, hk1⟩; obtain ⟨jk, jb, jn, jt, jks, jvs, jkv, jvv, hjj, rfl, hjk, hjv⟩ := hv1.open; obtain ⟨kA', kc', rfl, -, -⟩ := hjk; obtain ⟨jA, jc, ju, rfl, -, -, -⟩ := hjv); have hw0 := HKr.out.size; have HV := Lib.hid (hv1.keep (X' := fun b => w12.heap.size ≤ b ∧ b < w1.heap.size) (Keeps.refl Nob w1) (fun _ _ _ => id) (fun b hb hx => ⟨Nat.le_trans hw0 hx, hb⟩)); have Hr1 := Lib.hid hr1; have Hk1 := Lib.hid hk1; have HKr := Lib.hid (HKr.out.trans hk1 (fun _ _ h => h)); clear hv1 hr1 hjj hw0 hk1; generalize jks.length = kl at *; generalize jvs.length = vl at *; (try simp only [PU]))
      (try have Hbz := Lib.hid (Hk1.out.blk Hbz.out (fun e : gz = r => by have h1 : w12.heap.size ≤ gz := Hgz.out; have h2 := HDD.out; omega)))
      refine ⟨⟨HKr.out.cell c2 N.out.1, HKr.out.cell c3 N.out.2.1⟩, ?_⟩
      refine tree_e rfl rfl ?_
      have c6 := HKr.out.cell c5' N.out.2.2
      go_wp2_with fail
      clear c6
      (try refine ⟨⟨HKr.out.cell c2 N.out.1, HKr.out.cell c3 N.out.2.1⟩, ?_⟩)
      refine tq (some 36) ?_; (try simp only [PU])
      refine tree_e rfl rfl ?_
      have HJc := Lib.hid (HJ.out.keep HKr.out (fun b _ e => .inl (by have := HDD.out; omega)))
      have hrow7 := HJc.out.row
      rw [Hnn.out] at hrow7
      have Hrow7 := Lib.hid hrow7
      clear hrow7
      go_must (refine ev_append rfl rfl Tryd.underlying23 info25b rfl (by decide) (base := base) rfl Hrow7.out rfl (news := [.int .i64 0, .bool false, .int .i64 0, .string ByteArray.empty, .slice none 0 0, .slice none 0 0]) rfl (fun _ => ⟨_, rfl, World.news_of_block Hbz.out⟩) (by simp [Value.oneCell']) (by omega) (by decide) (by have := HKr.out.size; have := HDD.out; omega) ?_; intro v6 w6 hown6 hk6 hr6 hf6; obtain ⟨gr, cap, rfl⟩ := hf6 (by decide))
      have Hr6 := Lib.hid hr6
      (try simp only [PU])
      have b2 := HKr.out.blk H2c.out N.out.1
      have b3 := HKr.out.blk H3c.out N.out.2.1
      have b6 := HKr.out.blk H5b.out N.out.2.2
      have bS := HKr.out.blk HSc.out NS.out.1
      have bm := HKr.out.blk HMc.out.1 NS.out.2
      have bk := HOS.out.keep HKr.out (fun k hk' e => by have h1 := (HOS.out.lt k hk').1; have := HDD.out; omega)
      have H2k := Lib.hid (hk6.blk b2 (row_ne Hrow7.out b2 (by decide)))
      have H3k := Lib.hid (hk6.blk b3 (row_ne Hrow7.out b3 (by decide)))
      have HSk := Lib.hid (hk6.blk bS (row_ne Hrow7.out bS (by decide)))
      have HMk := Lib.hid (hk6.blk bm (row_neMap Hrow7.out bm))
      have HOk := Lib.hid (bk.keep hk6 (fun k hk' e => HJc.out.ne k e.symm (.inr (.inr hk'.symm))))
      have H6k := Lib.hid (hk6.blk b6 (fun e => HJc.out.ne g5 e.symm (.inl rfl)))
      have Hrk := Lib.hid (Hr1.out.keep hk6 (row_ne Hrow7.out Hr1.out.blk (by decide)))
      obtain ⟨cur, hcur⟩ : ∃ cur, w6.heap[gr]? = some (.cells cur 25 (0, 0)) ∧ n + 1 ≤ cap ∧ cur.size = cap * 6 ∧ base ≤ gr := by
       rcases hown6.2 with ⟨e, _⟩ | ⟨g', cap', cur, e, hb, hg', hc, hm, hs, ht⟩
       · cases e
       · injection e with e1 e2 e3
         injection e1 with e1
         injection e1 with e1
         subst e1; subst e3
         exact ⟨cur, hg', hc, hs, hb⟩
      have Hcf := Lib.hid hcur.2
      have Hcur := Lib.hid hcur.1
      have Hg6r := Lib.hid (row_notin (fun e => HJc.out.ne g5 e (.inl rfl)) (blk_lt H5b.out) HKr.out.size hr6)
      have Hrowk := Lib.hid hown6
      have HKo := Lib.hid (hk6.mono (M' := fun k => some k = (Value.slice vA n vc).ownBlock ∨ (k = g5 ∨ k = gm ∨ some k = (Value.slice (some ⟨gq, 0, none⟩) (x.1.length + 1) cq).ownBlock)) (fun _ _ e => .inl e))
      have HKall := Lib.hid ((HKM.out.trans (keepsMR HKr.out) (fun _ _ h => h)).trans hk6 (fun i hi e => .inr (row_lt HJ.out.row i e.symm).1))
      have HWc := Lib.hid HKr.out.size
      have hlt1 : (n : Int) < (n : Int) + 1 := by omega
      clear hown6 hk6 hr6 hf6 b2 b3 b6 bS bm bk hcur
      refine wpList_nil ⟨⟨(blk_cell H2k.out 0).trans rfl, (blk_cell H3k.out 0).trans rfl⟩, ?_⟩
      refine tq (some 39) ?_; (try simp only [PU])
      refine tq (some 40) ?_; (try simp only [PU])
      refine tree_b rfl rfl ?b1_32 ?nb1_32
      case' b1_32 =>
       have hfit : n * 6 + 6 ≤ cur.size := by have h1 := Hcf.out.1; have h2 := Hcf.out.2.1; omega
       go_must (refine ev_store (x := .agg #[.int .i64 jk, .bool jb, .int .i64 jn, .string jt, .slice kA' kl kc', .slice jA vl jc]) (vs := [.int .i64 jk, .bool jb, .int .i64 jn, .string jt, .slice kA' kl kc', .slice jA vl jc]) (off := n * 6) (cs' := List.toArray (cur.toList.take (n * 6) ++ ([Value.int .i64 jk, Value.bool jb, Value.int .i64 jn, Value.string jt, Value.slice kA' kl kc', Value.slice jA vl jc] : List Value) ++ cur.toList.drop (n * 6 + 6))) rfl rfl rfl rfl rfl rfl HI.out.1.1 HI.out.1.2 rfl Hcur.out hfit rfl ?_; intro w7 hb7 hk7)
       (try simp only [PU])
       have Hown9 := Lib.hid (RowJ.push HJc.out HV.out (fun b hb => ⟨by have := HDD.out; have := hb.1; omega, fun e => by have := HE.out b e; have := hb.1; omega, fun e => by have := (row_lt HJ.out.row b e.symm).2; have := hb.1; omega, hb.2⟩) (fun b e => Nat.lt_of_lt_of_le (HE.out b e) HWc.out) rfl (by rw [Hnn.out]; exact Hrowk.out) HKo.out Hr6.out (by rw [Hnn.out]) Hcur.out (by rw [Hnn.out]; exact hb7) hk7)
       have H2k := Lib.hid (hk7.blk H2k.out (blk_type H2k.out Hcur.out (by decide)))
       have H3k := Lib.hid (hk7.blk H3k.out (blk_type H3k.out Hcur.out (by decide)))
       have HSk := Lib.hid (hk7.blk HSk.out (blk_type HSk.out Hcur.out (by decide)))
       have HMk := Lib.hid (hk7.blk HMk.out (fun e => map_ne Hcur.out HMk.out e.symm))
       have HOk := Lib.hid (HOk.out.keep hk7 (fun k hk' e => HOk.out.ne Hcur.out (by decide) (by rw [hk', e])))
       have H6k := Lib.hid (hk7.blk H6k.out Hg6r.out)
       have Hrk := Lib.hid (Hrk.out.keep hk7 (blk_type Hrk.out.blk Hcur.out (by decide)))
       have HKall := Lib.hid (HKall.out.trans hk7 (fun i _ e => .inr (by rw [e]; exact Hcf.out.2.2)))
       clear hb7 hk7 hfit
       refine wpList_nil ⟨⟨(blk_cell H2k.out 0).trans rfl, (blk_cell H3k.out 0).trans rfl⟩, ?_⟩
       refine tree_e rfl rfl ?_
       go_must (refine ev_store (cs' := #[.int .i64 6, .bool false, .int .i64 0, .string ByteArray.empty, .slice (some ⟨gq, 0, none⟩) (x.1.length + 1) cq, .slice (some ⟨gr, 0, none⟩) (n + 1) cap]) rfl rfl rfl rfl rfl rfl HI.out.2.1 HI.out.2.2 rfl H6k.out (Nat.le_of_ble_eq_true rfl) rfl ?_; intro w8 hb8 hk8)
       (try simp only [PU])
       have Hb8 := Lib.hid hb8
       (try have Hown9 := Lib.hid (Hown9.out.keep hk8 (fun b _ e => .inr (.inl e))))
       (try have HKo := Lib.hid (HKo.out.trans hk8 (fun _ _ e => .inr (.inl e))))
       (try have Hrowk := Lib.hid (row_keep Hrowk.out hk8 (fun k hk e => Hg6r.out (by rw [← e]; exact (Option.some.inj hk).symm))))
       (try have Hcur := Lib.hid (hk8.blk Hcur.out (fun e => Hg6r.out e.symm)))
       have H2k := Lib.hid (hk8.blk H2k.out (blk_type H2k.out H6k.out (by decide)))
       have H3k := Lib.hid (hk8.blk H3k.out (blk_type H3k.out H6k.out (by decide)))
       have HSk := Lib.hid (hk8.blk HSk.out (blk_type HSk.out H6k.out (by decide)))
       have HMk := Lib.hid (hk8.blk HMk.out (fun e => map_ne H6k.out HMk.out e.symm))
       have HOk := Lib.hid (HOk.out.keep hk8 (fun k hk' e => HOk.out.ne H6k.out (by decide) (by rw [hk', e])))
       have Hrk := Lib.hid (Hrk.out.keep hk8 (fun e => N.out.2.2 e.symm))
       have HKall := Lib.hid (HKall.out.trans hk8 (fun i _ e => .inr (by rw [e]; exact HDD.out.2.2)))
       have H6k := Hb8
       clear hb8 hk8
       refine wpList_nil ⟨⟨(blk_cell H2k.out 0).trans rfl, (blk_cell H3k.out 0).trans rfl⟩, ?_⟩
       refine tree_nil ?_
      case' nb1_32 =>
       refine tree_e rfl rfl ?b1_33
       case' b1_33 =>
        go_must (refine ev_store (cs' := #[.int .i64 6, .bool false, .int .i64 0, .string ByteArray.empty, .slice (some ⟨gq, 0, none⟩) (x.1.length + 1) cq, .slice (some ⟨gr, 0, none⟩) (n + 1) cap]) rfl rfl rfl rfl rfl rfl HI.out.2.1 HI.out.2.2 rfl H6k.out (Nat.le_of_ble_eq_true rfl) rfl ?_; intro w8 hb8 hk8)
        (try simp only [PU])
        have Hb8 := Lib.hid hb8
        (try have Hown9 := Lib.hid (Hown9.out.keep hk8 (fun b _ e => .inr (.inl e))))
        (try have HKo := Lib.hid (HKo.out.trans hk8 (fun _ _ e => .inr (.inl e))))
        (try have Hrowk := Lib.hid (row_keep Hrowk.out hk8 (fun k hk e => Hg6r.out (by rw [← e]; exact (Option.some.inj hk).symm))))
        (try have Hcur := Lib.hid (hk8.blk Hcur.out (fun e => Hg6r.out e.symm)))
        have H2k := Lib.hid (hk8.blk H2k.out (blk_type H2k.out H6k.out (by decide)))
        have H3k := Lib.hid (hk8.blk H3k.out (blk_type H3k.out H6k.out (by decide)))
        have HSk := Lib.hid (hk8.blk HSk.out (blk_type HSk.out H6k.out (by decide)))
        have HMk := Lib.hid (hk8.blk HMk.out (fun e => map_ne H6k.out HMk.out e.symm))
        have HOk := Lib.hid (HOk.out.keep hk8 (fun k hk' e => HOk.out.ne H6k.out (by decide) (by rw [hk', e])))
        have Hrk := Lib.hid (Hrk.out.keep hk8 (fun e => N.out.2.2 e.symm))
        have HKall := Lib.hid (HKall.out.trans hk8 (fun i _ e => .inr (by rw [e]; exact HDD.out.2.2)))
        have H6k := Hb8
        clear hb8 hk8
        refine wpList_nil ⟨⟨(blk_cell H2k.out 0).trans rfl, (blk_cell H3k.out 0).trans rfl⟩, ?_⟩
        refine tree_e rfl rfl ?_
        have hfit : n * 6 + 6 ≤ cur.size := by have h1 := Hcf.out.1; have h2 := Hcf.out.2.1; omega
        go_must (refine ev_store (x := .agg #[.int .i64 jk, .bool jb, .int .i64 jn, .string jt, .slice kA' kl kc', .slice jA vl jc]) (vs := [.int .i64 jk, .bool jb, .int .i64 jn, .string jt, .slice kA' kl kc', .slice jA vl jc]) (off := n * 6) (cs' := List.toArray (cur.toList.take (n * 6) ++ ([Value.int .i64 jk, Value.bool jb, Value.int .i64 jn, Value.string jt, Value.slice kA' kl kc', Value.slice jA vl jc] : List Value) ++ cur.toList.drop (n * 6 + 6))) rfl rfl rfl rfl rfl rfl HI.out.1.1 HI.out.1.2 rfl Hcur.out hfit rfl ?_; intro w7 hb7 hk7)
        (try simp only [PU])
        have Hown9 := Lib.hid (RowJ.push HJc.out HV.out (fun b hb => ⟨by have := HDD.out; have := hb.1; omega, fun e => by have := HE.out b e; have := hb.1; omega, fun e => by have := (row_lt HJ.out.row b e.symm).2; have := hb.1; omega, hb.2⟩) (fun b e => Nat.lt_of_lt_of_le (HE.out b e) HWc.out) rfl (by rw [Hnn.out]; exact Hrowk.out) HKo.out Hr6.out (by rw [Hnn.out]) Hcur.out (by rw [Hnn.out]; exact hb7) hk7)
        have H2k := Lib.hid (hk7.blk H2k.out (blk_type H2k.out Hcur.out (by decide)))
        have H3k := Lib.hid (hk7.blk H3k.out (blk_type H3k.out Hcur.out (by decide)))
        have HSk := Lib.hid (hk7.blk HSk.out (blk_type HSk.out Hcur.out (by decide)))
        have HMk := Lib.hid (hk7.blk HMk.out (fun e => map_ne Hcur.out HMk.out e.symm))
        have HOk := Lib.hid (HOk.out.keep hk7 (fun k hk' e => HOk.out.ne Hcur.out (by decide) (by rw [hk', e])))
        have H6k := Lib.hid (hk7.blk H6k.out Hg6r.out)
        have Hrk := Lib.hid (Hrk.out.keep hk7 (blk_type Hrk.out.blk Hcur.out (by decide)))
        have HKall := Lib.hid (HKall.out.trans hk7 (fun i _ e => .inr (by rw [e]; exact Hcf.out.2.2)))
        clear hb7 hk7 hfit
        refine wpList_nil ⟨⟨(blk_cell H2k.out 0).trans rfl, (blk_cell H3k.out 0).trans rfl⟩, ?_⟩
        refine tree_nil ?_
 all_goals
  go_wp2
  go_end0
  exact ⟨⟨_, rfl⟩, Hrk.out, ⟨⟨H2k.out, HSk.out, H3k.out⟩, ⟨_, _, HMk.out, HMc.out.2⟩, _, _, H6k.out, HOk.out, Hown9.out⟩, HKall.out⟩
end Go.Proofs.WV
