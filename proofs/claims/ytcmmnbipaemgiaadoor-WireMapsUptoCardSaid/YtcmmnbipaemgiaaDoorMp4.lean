/-
 A value's own copy (own), in memory. Condition: it is not larger than a thousand million.
-/
import Derived.Test.YtcmmnbipaemgiaaDoorMp3
import Derived.Shelf.Bytes.SlSmallAll
namespace Go.Proofs.WV
open Go.RowKit Go.Proofs.KL Go.Proofs.WM
set_option maxRecDepth 100000
set_option linter.unusedSimpArgs false
set_option linter.unusedVariables false

def setSix (xs : List Value) (i : Nat) (l : List Value) : List Value := xs.take (i * 6) ++ l ++ xs.drop (i * 6 + 6)
theorem setSix_len {xs l : List Value} {i n : Nat} (hx : xs.length = n * 6) (hi : i < n) (hl : l.length = 6) : (setSix xs i l).length = n * 6 := by
 unfold setSix
 simp only [List.length_append, List.length_take, List.length_drop, hl]
 omega
theorem setSix_get {xs l : List Value} {i n : Nat} (hx : xs.length = n * 6) (hi : i < n) (hl : l.length = 6) (k : Nat) : (setSix xs i l).getD k vz = if i * 6 ≤ k ∧ k < i * 6 + 6 then l.getD (k - i * 6) vz else xs.getD k vz := by
 unfold setSix
 have h1 : (xs.take (i * 6)).length = i * 6 := by rw [List.length_take]; omega
 rw [List.getD_eq_getElem?_getD, List.append_assoc]
 by_cases a : k < i * 6
 · rw [List.getElem?_append_left (by omega), List.getElem?_take, if_pos a, if_neg (by omega), ← List.getD_eq_getElem?_getD]
 · rw [List.getElem?_append_right (by omega), h1]
   by_cases b : k < i * 6 + 6
   · rw [List.getElem?_append_left (by omega), if_pos (by omega), ← List.getD_eq_getElem?_getD]
   · rw [List.getElem?_append_right (by omega), List.getElem?_drop, if_neg (by omega), ← List.getD_eq_getElem?_getD, hl]
     congr 1
     omega
theorem setSix_same {xs : List Value} {i n : Nat} {x0 x1 x2 x3 x4 x5 : Value} (hx : xs.length = n * 6) (hi : i < n) : sixAt (setSix xs i [x0, x1, x2, x3, x4, x5]) i = .agg #[x0, x1, x2, x3, x4, x5] := by
 unfold sixAt
 rw [setSix_get hx hi rfl, setSix_get hx hi rfl, setSix_get hx hi rfl, setSix_get hx hi rfl, setSix_get hx hi rfl, setSix_get hx hi rfl]
 rw [if_pos (by omega), if_pos (by omega), if_pos (by omega), if_pos (by omega), if_pos (by omega), if_pos (by omega)]
 rw [Nat.sub_self, Nat.add_sub_cancel_left, Nat.add_sub_cancel_left, Nat.add_sub_cancel_left, Nat.add_sub_cancel_left, Nat.add_sub_cancel_left]
 rfl
theorem setSix_other {xs l : List Value} {i n k : Nat} (hx : xs.length = n * 6) (hi : i < n) (hl : l.length = 6) (hk : k ≠ i) : sixAt (setSix xs i l) k = sixAt xs k := by
 unfold sixAt
 rw [setSix_get hx hi hl, setSix_get hx hi hl, setSix_get hx hi hl, setSix_get hx hi hl, setSix_get hx hi hl, setSix_get hx hi hl]
 rw [if_neg (by omega), if_neg (by omega), if_neg (by omega), if_neg (by omega), if_neg (by omega), if_neg (by omega)]
theorem row_set {W : World} {lo : Nat} {v : Value} {n i : Nat} {xs : List Value} (h : W.ownsRow lo 25 6 v n xs) (hi : i < n) : ∃ g c cur, v = .slice (some ⟨g, 0, none⟩) n c ∧ lo ≤ g ∧ W.heap[g]? = some (.cells cur 25 (0, 0)) ∧ i * 6 + 6 ≤ cur.size ∧
  ∀ (W2 : World) (l : List Value), l.length = 6 → W2.heap[g]? = some (.cells (cur.toList.take (i * 6) ++ l ++ cur.toList.drop (i * 6 + 6)).toArray 25 (0, 0)) → W2.ownsRow lo 25 6 v n (setSix xs i l) := by
 obtain ⟨hl, h⟩ := h
 rcases h with ⟨_, h0⟩ | ⟨g, cap, cur, rfl, hb, hg, hc, hm, hs, ht⟩
 · omega
 · refine ⟨g, cap, cur, rfl, hb, hg, by omega, fun W2 l hl6 h2 => ⟨setSix_len hl hi hl6, .inr ⟨g, cap, _, rfl, hb, h2, hc, hm, ?_, ?_⟩⟩⟩
   · simp only [List.size_toArray, List.length_append, List.length_take, List.length_drop, hl6, Array.length_toList]
     omega
   · show List.take (n * 6) (cur.toList.take (i * 6) ++ l ++ cur.toList.drop (i * 6 + 6)) = setSix xs i l
     unfold setSix
     rw [← ht]
     apply List.ext_getElem?
     intro k
     have hcl : cur.toList.length = cap * 6 := by rw [Array.length_toList]; exact hs
     have e1 : (cur.toList.take (i * 6)).length = i * 6 := by rw [List.length_take]; omega
     have e2 : ((cur.toList.take (n * 6)).take (i * 6)).length = i * 6 := by rw [List.length_take, List.length_take]; omega
     rw [List.getElem?_take]
     simp only [List.append_assoc]
     by_cases a : k < i * 6
     · rw [if_pos (by omega), List.getElem?_append_left (by omega), List.getElem?_append_left (by omega), List.getElem?_take, List.getElem?_take, List.getElem?_take, if_pos a, if_pos a, if_pos (by omega)]
     · rw [List.getElem?_append_right (l₁ := cur.toList.take (i * 6)) (by omega), List.getElem?_append_right (l₁ := (cur.toList.take (n * 6)).take (i * 6)) (by omega), e1, e2]
       by_cases b : k < i * 6 + 6
       · rw [if_pos (by omega), List.getElem?_append_left (by omega), List.getElem?_append_left (by omega)]
       · rw [List.getElem?_append_right (by omega), List.getElem?_append_right (by omega), List.getElem?_drop, List.getElem?_drop, List.getElem?_take, hl6]
         by_cases d : k < n * 6
         · rw [if_pos d, if_pos (by omega)]
         · rw [if_neg d, if_neg (by omega)]
theorem row_weaken {W : World} {lo lo' sz n : Nat} {t : TypeId} {v : Value} {xs : List Value} (h : W.ownsRow lo t sz v n xs) (hl : lo' ≤ lo) : W.ownsRow lo' t sz v n xs := by
 refine ⟨h.1, ?_⟩
 rcases h.2 with h | ⟨g, cap, cur, e, hb, h⟩
 · exact .inl h
 · exact .inr ⟨g, cap, cur, e, Nat.le_trans hl hb, h⟩
def OwnT (W : World) (lo : Nat) (v : Value) : J → Prop
 | .mk k b n t ks vs => ∃ kv vv, v = .agg #[.int .i64 k, .bool b, .int .i64 n, .string t, kv, vv] ∧ OwnS W lo kv ks ∧ OwnJ W lo (fun b => some b = kv.ownBlock) vv vs
theorem OwnT.val {W : World} {lo : Nat} {v : Value} {j : J} (h : OwnT W lo v j) : JX W (fun b => lo ≤ b ∧ b < W.heap.size) v j := by
 obtain ⟨k, b, n, t, ks, vs⟩ := j
 obtain ⟨kv, vv, rfl, h1, h2⟩ := h
 refine JX.keep (M := Nob) (X := fun b => lo ≤ b) ?_ (Keeps.refl Nob W) (fun _ _ _ => id) (fun b h1 h2 => ⟨h2, h1⟩)
 exact JX.close h1.strs h2.js
def OwnEnd (W : World) (j : J) (e : Ending) (w' : World) : Prop := (∃ v, e = .returned v ∧ OwnT w' W.heap.size v j) ∧ Keeps Nob W w'
theorem info22b : ∃ i, Tryd.prog.info? 22 = some i ∧ i.size = 1 := by
 have h : (Tryd.prog.info? 22).map (·.size) = some 1 := by kernel_rfl
 obtain ⟨i, hi, hs⟩ := Option.map_eq_some_iff.1 h
 exact ⟨i, hi, hs⟩
set_option maxHeartbeats 8000000 in
theorem own_step {lv : Nat} (ih : ∀ (W : World) (X : Nat → Prop) (v : Value) (j : J), JX W X v j → levelsJ j < lv → sizeJ j ≤ 1000000000 → Calls Tryd.prog 59 #[v] W (OwnEnd W j)) (W : World) (X : Nat → Prop) (v : Value) (j : J) (h : JX W X v j) (hlv : levelsJ j < lv + 1) (hsz : sizeJ j ≤ 1000000000) : Calls Tryd.prog 59 #[v] W (OwnEnd W j) := by
 obtain ⟨k, b, n, t, ks, vs, kv, vv, rfl, rfl, hks, hvs⟩ := h.open
 obtain ⟨kA, kc, rfl, -⟩ := id hks
 obtain ⟨vA, vc, u, rfl, hvc, hA, hv⟩ := id hvs
 have hkl : ks.length ≤ 1000000000 := by unfold sizeJ at hsz; omega
 have hvl : vs.length ≤ 1000000000 := by have := size_len vs; unfold sizeJ at hsz; omega
 obtain ⟨kl, hkn⟩ : ∃ x, ks.length = x := ⟨_, rfl⟩
 obtain ⟨nv, hnv⟩ : ∃ x, vs.length = x := ⟨_, rfl⟩
 rw [hkn] at hks hkl ⊢
 rw [hnv] at hvl hA hv hvc ⊢
 have Hin := Lib.hid (show ∀ W' p u, p < nv → JX W' (fun b => b < W.heap.size) u (vs.getD p default) → Calls Tryd.prog 59 #[u] W' (OwnEnd W' (vs.getD p default)) from fun W' p u hp hu => ih W' _ u _ hu (by
   have := levels_get (vs := vs) (i := p) (by omega)
   unfold levelsJ at hlv
   omega) (by
   have := size_get (vs := vs) (i := p) (by omega)
   unfold sizeJ at hsz
   omega))
 have HKs := Lib.hid (hks.keep (X' := fun b => b < W.heap.size) (Keeps.refl Nob W) (fun _ _ _ => id) (fun b h _ => h))
 have HA := Lib.hid (show ∀ i, i < nv → ∃ b o, vA = some ⟨b, o, none⟩ ∧ b < W.heap.size ∧ Six W b (o + i * 6) (u i 0) (u i 1) (u i 2) (u i 3) (u i 4) (u i 5) from fun i hi => by
   obtain ⟨b, o, e, _, h6⟩ := hA i hi
   exact ⟨b, o, e, h6.lt, h6⟩)
 have HV := Lib.hid (show ∀ i, i < nv → JX W (fun b => b < W.heap.size) (.agg #[u i 0, u i 1, u i 2, u i 3, u i 4, u i 5]) (vs.getD i default) from fun i hi => (hv i hi).keep (Keeps.refl Nob W) (fun _ _ _ => id) (fun b h _ => h))
 have Hkn := Lib.hid hkn
 have Hnv := Lib.hid hnv
 have hnvi : (nv : Int) ≤ 1000000000 := by omega
 obtain ⟨i25, hi25, hs25⟩ := info25
 obtain ⟨i23, hi23, hs23⟩ := info23
 obtain ⟨i22, hi22, hs22⟩ := info22b
 have HI := Lib.hid (And.intro (And.intro hi25 hs25) (And.intro hi23 hs23))
 have HI22 := Lib.hid (And.intro hi22 hs22)
 have Hkl := Lib.hid hkl
 have Hvl := Lib.hid hvl
 clear hks hvs hA hv ih hlv hsz h hkn hnv hi25 hs25 hi23 hs23 hi22 hs22 hkl hvl hvc
 go_enter Tryd.func59, Tryd.ntmps59
 go_wp2_with (first
  | ((with_reducible refine at_dst (N := 1) rfl ?_); go_must (refine ev_box (cs := #[.int .i64 k, .bool b, .int .i64 n, .string t, .slice kA kl kc, .slice vA nv vc]) rfl rfl rfl ?_; intro g1 w1 hg1 hl1 hb1 hk1)
     have Hb1 := Lib.hid hb1
     have Hg1 := Lib.hid (And.intro hg1 hl1)
     have HK := Lib.hid hk1
     clear hg1 hl1 hb1 hk1
     (try simp only [PU]))
  | ((with_reducible refine at_dst (N := 2) rfl ?_); go_must (refine ev_alloc rfl rfl zero25 rfl ?_; intro g2 w2 hg2 hl2 hb2 hk2)
     have Hb1 := Lib.hid (hk2.blk Hb1.out id)
     have Hb2 := Lib.hid (show ∃ cs, w2.drew.heap[g2]? = some (.cells cs 25 (0, 0)) ∧ cs.size = 6 from ⟨_, hb2, rfl⟩)
     have Hg2 := Lib.hid (show W.heap.size ≤ g1 ∧ W.heap.size ≤ g2 ∧ g1 < g2 ∧ g2 < w2.heap.size from ⟨Hg1.out.1, Nat.le_trans HK.out.size hg2, Nat.lt_of_lt_of_le Hg1.out.2 hg2, hl2⟩)
     have HK := Lib.hid ((HK.out.trans hk2 (fun _ _ h => h)).trans (Keeps.refl Nob w2).drew (fun _ _ h => h))
     have Hb1 := Lib.hid ((Keeps.refl Nob w2).drew.blk Hb1.out id)
     have Hl2 := Lib.hid (show g1 < w2.drew.heap.size ∧ g2 < w2.drew.heap.size from ⟨Nat.lt_trans Hg2.out.2.2.1 hl2, hl2⟩)
     clear hg2 hl2 hb2 hk2 Hg1
     (try simp only [PU]))
 )
 refine wp_region_tree (.q 0 (.q 3 (.br [1, 4] (fun k => bif Nat.beq k 1 then .br [2, 4] (fun k => bif Nat.beq k 2 then .br [4] (fun k => .q 6 (.br [5] (fun k => .br [7] (fun k => .q 8 (.br [9] (fun k => .done)))))) else .br [2] (fun k => .q 6 (.br [5] (fun k => .br [7] (fun k => .q 8 (.br [9] (fun k => .done))))))) else .br [1] (fun k => .br [2] (fun k => .q 6 (.br [5] (fun k => .br [7] (fun k => .q 8 (.br [9] (fun k => .done))))))))))) (fun w' => True) rfl (by kernel_rfl) (by kernel_rfl) (fun c a d v w h => by cases d <;> exact h) trivial ?_
 refine tq (some 4) ?_; (try simp only [PU])
 refine tq (some 7) ?_; (try simp only [PU])
 refine tree_b rfl rfl ?b1_7 ?nb1_7
 case' b1_7 =>
  have c4 := (blk_cell Hb1.out 4).trans rfl
  go_wp2_with fail
  clear c4
  refine ⟨trivial, ?_⟩
  refine tree_b rfl rfl ?b1_3 ?nb1_3
  case' b1_3 =>
   go_wp2_with (go_at_call 91; go_must (refine (clone91 (HKs.out.keep (X' := fun b => b < W.heap.size) HK.out (fun _ _ _ => id) (fun _ _ h => h)) Hkl.out).mono ?_; rintro e w3 ⟨⟨v3, rfl, ho3⟩, hk3⟩; obtain ⟨oA, oc, hv3, -⟩ := ho3.slice; rw [Hkn.out] at hv3; subst hv3))
   have HKS := Lib.hid (show OwnS w3 W.heap.size (.slice oA kl oc) ks from row_weaken ho3 HK.out.size)
   have Hdk := Lib.hid (show ∀ b, (Value.slice oA kl oc).ownBlock = some b → g1 ≠ b ∧ g2 ≠ b ∧ b < w3.heap.size from fun b e => by have h1 := ho3.lt b e; have h2 := Hl2.out; omega)
   have Hl3 := Lib.hid (show g1 < w3.heap.size ∧ g2 < w3.heap.size from ⟨Nat.lt_of_lt_of_le Hl2.out.1 hk3.size, Nat.lt_of_lt_of_le Hl2.out.2 hk3.size⟩)
   have Hb1 := Lib.hid (hk3.blk Hb1.out id)
   have Hb2 := Lib.hid (show ∃ cs, w3.heap[g2]? = some (.cells cs 25 (0, 0)) ∧ cs.size = 6 from by obtain ⟨cs, h1, h2⟩ := Hb2.out; exact ⟨cs, hk3.blk h1 id, h2⟩)
   have HK := Lib.hid (HK.out.trans hk3 (fun _ _ h => h))
   clear ho3 hk3
   (try simp only [PU])
   refine ⟨trivial, ?_⟩
   refine tree_e rfl rfl ?_
   have c5 := (blk_cell Hb1.out 5).trans rfl
   go_wp2_with fail
   clear c5
   refine ⟨trivial, ?_⟩
   refine tq (some 10) ?_; (try simp only [PU])
   refine tree_e rfl rfl ?_
   go_wp2_with (go_at_call 92; go_must (refine (clone92 (X := fun b => b < W.heap.size) (fun i hi => by obtain ⟨b, o, e, hb, h6⟩ := HA.out i hi; exact ⟨b, o, e, hb, h6.keep HK.out id⟩) (fun i hi => (HV.out i hi).keep HK.out (fun _ _ _ => id) (fun _ _ h => h)) Hvl.out).mono ?_; rintro e w4 ⟨⟨v4, rfl, ho4⟩, hk4⟩; obtain ⟨rA, rc, hv4, -⟩ := row_slice ho4; subst hv4))
   have HRW := Lib.hid (row_weaken ho4 HK.out.size)
   have Hdr := Lib.hid (show ∀ b, (Value.slice rA nv rc).ownBlock = some b → g1 ≠ b ∧ g2 ≠ b ∧ (Value.slice oA kl oc).ownBlock ≠ some b from fun b e => by
    have h1 := row_lt ho4 b e
    have h2 := Hl3.out
    exact ⟨by omega, by omega, fun e2 => by have := (Hdk.out b e2).2.2; omega⟩)
   have HKS := Lib.hid (HKS.out.keep hk4 (fun _ _ => id))
   have Hb1 := Lib.hid (hk4.blk Hb1.out id)
   have Hb2 := Lib.hid (show ∃ cs, w4.heap[g2]? = some (.cells cs 25 (0, 0)) ∧ cs.size = 6 from by obtain ⟨cs, h1, h2⟩ := Hb2.out; exact ⟨cs, hk4.blk h1 id, h2⟩)
   have HK := Lib.hid (HK.out.trans hk4 (fun _ _ h => h))
   clear ho4 hk4
   (try simp only [PU])
   refine ⟨trivial, ?_⟩
   refine tree_e rfl rfl ?_
   go_must (refine ev_store (off := 4) (cs' := #[.int .i64 k, .bool b, .int .i64 n, .string t, .slice oA kl oc, .slice vA nv vc]) rfl rfl rfl rfl rfl rfl HI22.out.1 HI22.out.2 rfl Hb1.out (Nat.le_of_ble_eq_true rfl) rfl ?_; intro w5 hb5 hk5)
   (try simp only [PU])
   have HKS := Lib.hid (HKS.out.keep hk5 (fun q e h => (Hdk.out q e).1 h.symm))
   have HRW := Lib.hid (row_keep HRW.out hk5 (fun q e h => (Hdr.out q e).1 h.symm))
   have Hb1 := Lib.hid hb5
   have Hb2 := Lib.hid (show ∃ cs, w5.heap[g2]? = some (.cells cs 25 (0, 0)) ∧ cs.size = 6 from by obtain ⟨cs, h1, h2⟩ := Hb2.out; exact ⟨cs, hk5.blk h1 (fun e : g2 = g1 => by have := Hg2.out; omega), h2⟩)
   have HK := Lib.hid (show Keeps Nob W w5 from HK.out.trans hk5 (fun i hi e => by have := Hg2.out; omega))
   clear hb5 hk5
   refine wpList_nil ⟨trivial, ?_⟩
   refine tq (some 11) ?_; (try simp only [PU])
   refine tree_e rfl rfl ?_
   go_must (refine ev_store (off := 5) (cs' := #[.int .i64 k, .bool b, .int .i64 n, .string t, .slice oA kl oc, .slice rA nv rc]) rfl rfl rfl rfl rfl rfl HI.out.2.1 HI.out.2.2 rfl Hb1.out (Nat.le_of_ble_eq_true rfl) rfl ?_; intro w5 hb5 hk5)
   (try simp only [PU])
   have HKS := Lib.hid (HKS.out.keep hk5 (fun q e h => (Hdk.out q e).1 h.symm))
   have HRW := Lib.hid (row_keep HRW.out hk5 (fun q e h => (Hdr.out q e).1 h.symm))
   have Hb1 := Lib.hid hb5
   have Hb2 := Lib.hid (show ∃ cs, w5.heap[g2]? = some (.cells cs 25 (0, 0)) ∧ cs.size = 6 from by obtain ⟨cs, h1, h2⟩ := Hb2.out; exact ⟨cs, hk5.blk h1 (fun e : g2 = g1 => by have := Hg2.out; omega), h2⟩)
   have HK := Lib.hid (show Keeps Nob W w5 from HK.out.trans hk5 (fun i hi e => by have := Hg2.out; omega))
   clear hb5 hk5
   refine wpList_nil ⟨trivial, ?_⟩
   refine tree_nil ?_
  case' nb1_3 =>
   refine tree_e rfl rfl ?b1_6
   case' b1_6 =>
    have c5 := (blk_cell Hb1.out 5).trans rfl
    go_wp2_with fail
    clear c5
    refine ⟨trivial, ?_⟩
    refine tree_e rfl rfl ?_
    go_wp2_with (go_at_call 91; go_must (refine (clone91 (HKs.out.keep (X' := fun b => b < W.heap.size) HK.out (fun _ _ _ => id) (fun _ _ h => h)) Hkl.out).mono ?_; rintro e w3 ⟨⟨v3, rfl, ho3⟩, hk3⟩; obtain ⟨oA, oc, hv3, -⟩ := ho3.slice; rw [Hkn.out] at hv3; subst hv3))
    have HKS := Lib.hid (show OwnS w3 W.heap.size (.slice oA kl oc) ks from row_weaken ho3 HK.out.size)
    have Hdk := Lib.hid (show ∀ b, (Value.slice oA kl oc).ownBlock = some b → g1 ≠ b ∧ g2 ≠ b ∧ b < w3.heap.size from fun b e => by have h1 := ho3.lt b e; have h2 := Hl2.out; omega)
    have Hl3 := Lib.hid (show g1 < w3.heap.size ∧ g2 < w3.heap.size from ⟨Nat.lt_of_lt_of_le Hl2.out.1 hk3.size, Nat.lt_of_lt_of_le Hl2.out.2 hk3.size⟩)
    have Hb1 := Lib.hid (hk3.blk Hb1.out id)
    have Hb2 := Lib.hid (show ∃ cs, w3.heap[g2]? = some (.cells cs 25 (0, 0)) ∧ cs.size = 6 from by obtain ⟨cs, h1, h2⟩ := Hb2.out; exact ⟨cs, hk3.blk h1 id, h2⟩)
    have HK := Lib.hid (HK.out.trans hk3 (fun _ _ h => h))
    clear ho3 hk3
    (try simp only [PU])
    refine ⟨trivial, ?_⟩
    refine tq (some 10) ?_; (try simp only [PU])
    refine tree_e rfl rfl ?_
    go_wp2_with (go_at_call 92; go_must (refine (clone92 (X := fun b => b < W.heap.size) (fun i hi => by obtain ⟨b, o, e, hb, h6⟩ := HA.out i hi; exact ⟨b, o, e, hb, h6.keep HK.out id⟩) (fun i hi => (HV.out i hi).keep HK.out (fun _ _ _ => id) (fun _ _ h => h)) Hvl.out).mono ?_; rintro e w4 ⟨⟨v4, rfl, ho4⟩, hk4⟩; obtain ⟨rA, rc, hv4, -⟩ := row_slice ho4; subst hv4))
    have HRW := Lib.hid (row_weaken ho4 HK.out.size)
    have Hdr := Lib.hid (show ∀ b, (Value.slice rA nv rc).ownBlock = some b → g1 ≠ b ∧ g2 ≠ b ∧ (Value.slice oA kl oc).ownBlock ≠ some b from fun b e => by
     have h1 := row_lt ho4 b e
     have h2 := Hl3.out
     exact ⟨by omega, by omega, fun e2 => by have := (Hdk.out b e2).2.2; omega⟩)
    have HKS := Lib.hid (HKS.out.keep hk4 (fun _ _ => id))
    have Hb1 := Lib.hid (hk4.blk Hb1.out id)
    have Hb2 := Lib.hid (show ∃ cs, w4.heap[g2]? = some (.cells cs 25 (0, 0)) ∧ cs.size = 6 from by obtain ⟨cs, h1, h2⟩ := Hb2.out; exact ⟨cs, hk4.blk h1 id, h2⟩)
    have HK := Lib.hid (HK.out.trans hk4 (fun _ _ h => h))
    clear ho4 hk4
    (try simp only [PU])
    refine ⟨trivial, ?_⟩
    refine tree_e rfl rfl ?_
    go_must (refine ev_store (off := 4) (cs' := #[.int .i64 k, .bool b, .int .i64 n, .string t, .slice oA kl oc, .slice vA nv vc]) rfl rfl rfl rfl rfl rfl HI22.out.1 HI22.out.2 rfl Hb1.out (Nat.le_of_ble_eq_true rfl) rfl ?_; intro w5 hb5 hk5)
    (try simp only [PU])
    have HKS := Lib.hid (HKS.out.keep hk5 (fun q e h => (Hdk.out q e).1 h.symm))
    have HRW := Lib.hid (row_keep HRW.out hk5 (fun q e h => (Hdr.out q e).1 h.symm))
    have Hb1 := Lib.hid hb5
    have Hb2 := Lib.hid (show ∃ cs, w5.heap[g2]? = some (.cells cs 25 (0, 0)) ∧ cs.size = 6 from by obtain ⟨cs, h1, h2⟩ := Hb2.out; exact ⟨cs, hk5.blk h1 (fun e : g2 = g1 => by have := Hg2.out; omega), h2⟩)
    have HK := Lib.hid (show Keeps Nob W w5 from HK.out.trans hk5 (fun i hi e => by have := Hg2.out; omega))
    clear hb5 hk5
    refine wpList_nil ⟨trivial, ?_⟩
    refine tq (some 11) ?_; (try simp only [PU])
    refine tree_e rfl rfl ?_
    go_must (refine ev_store (off := 5) (cs' := #[.int .i64 k, .bool b, .int .i64 n, .string t, .slice oA kl oc, .slice rA nv rc]) rfl rfl rfl rfl rfl rfl HI.out.2.1 HI.out.2.2 rfl Hb1.out (Nat.le_of_ble_eq_true rfl) rfl ?_; intro w5 hb5 hk5)
    (try simp only [PU])
    have HKS := Lib.hid (HKS.out.keep hk5 (fun q e h => (Hdk.out q e).1 h.symm))
    have HRW := Lib.hid (row_keep HRW.out hk5 (fun q e h => (Hdr.out q e).1 h.symm))
    have Hb1 := Lib.hid hb5
    have Hb2 := Lib.hid (show ∃ cs, w5.heap[g2]? = some (.cells cs 25 (0, 0)) ∧ cs.size = 6 from by obtain ⟨cs, h1, h2⟩ := Hb2.out; exact ⟨cs, hk5.blk h1 (fun e : g2 = g1 => by have := Hg2.out; omega), h2⟩)
    have HK := Lib.hid (show Keeps Nob W w5 from HK.out.trans hk5 (fun i hi e => by have := Hg2.out; omega))
    clear hb5 hk5
    refine wpList_nil ⟨trivial, ?_⟩
    refine tree_nil ?_
 case' nb1_7 =>
  refine tree_e rfl rfl ?b1_10
  case' b1_10 =>
   have c5 := (blk_cell Hb1.out 5).trans rfl
   go_wp2_with fail
   clear c5
   refine ⟨trivial, ?_⟩
   refine tree_e rfl rfl ?_
   have c4 := (blk_cell Hb1.out 4).trans rfl
   go_wp2_with fail
   clear c4
   refine ⟨trivial, ?_⟩
   refine tree_e rfl rfl ?_
   go_wp2_with (go_at_call 91; go_must (refine (clone91 (HKs.out.keep (X' := fun b => b < W.heap.size) HK.out (fun _ _ _ => id) (fun _ _ h => h)) Hkl.out).mono ?_; rintro e w3 ⟨⟨v3, rfl, ho3⟩, hk3⟩; obtain ⟨oA, oc, hv3, -⟩ := ho3.slice; rw [Hkn.out] at hv3; subst hv3))
   have HKS := Lib.hid (show OwnS w3 W.heap.size (.slice oA kl oc) ks from row_weaken ho3 HK.out.size)
   have Hdk := Lib.hid (show ∀ b, (Value.slice oA kl oc).ownBlock = some b → g1 ≠ b ∧ g2 ≠ b ∧ b < w3.heap.size from fun b e => by have h1 := ho3.lt b e; have h2 := Hl2.out; omega)
   have Hl3 := Lib.hid (show g1 < w3.heap.size ∧ g2 < w3.heap.size from ⟨Nat.lt_of_lt_of_le Hl2.out.1 hk3.size, Nat.lt_of_lt_of_le Hl2.out.2 hk3.size⟩)
   have Hb1 := Lib.hid (hk3.blk Hb1.out id)
   have Hb2 := Lib.hid (show ∃ cs, w3.heap[g2]? = some (.cells cs 25 (0, 0)) ∧ cs.size = 6 from by obtain ⟨cs, h1, h2⟩ := Hb2.out; exact ⟨cs, hk3.blk h1 id, h2⟩)
   have HK := Lib.hid (HK.out.trans hk3 (fun _ _ h => h))
   clear ho3 hk3
   (try simp only [PU])
   refine ⟨trivial, ?_⟩
   refine tq (some 10) ?_; (try simp only [PU])
   refine tree_e rfl rfl ?_
   go_wp2_with (go_at_call 92; go_must (refine (clone92 (X := fun b => b < W.heap.size) (fun i hi => by obtain ⟨b, o, e, hb, h6⟩ := HA.out i hi; exact ⟨b, o, e, hb, h6.keep HK.out id⟩) (fun i hi => (HV.out i hi).keep HK.out (fun _ _ _ => id) (fun _ _ h => h)) Hvl.out).mono ?_; rintro e w4 ⟨⟨v4, rfl, ho4⟩, hk4⟩; obtain ⟨rA, rc, hv4, -⟩ := row_slice ho4; subst hv4))
   have HRW := Lib.hid (row_weaken ho4 HK.out.size)
   have Hdr := Lib.hid (show ∀ b, (Value.slice rA nv rc).ownBlock = some b → g1 ≠ b ∧ g2 ≠ b ∧ (Value.slice oA kl oc).ownBlock ≠ some b from fun b e => by
    have h1 := row_lt ho4 b e
    have h2 := Hl3.out
    exact ⟨by omega, by omega, fun e2 => by have := (Hdk.out b e2).2.2; omega⟩)
   have HKS := Lib.hid (HKS.out.keep hk4 (fun _ _ => id))
   have Hb1 := Lib.hid (hk4.blk Hb1.out id)
   have Hb2 := Lib.hid (show ∃ cs, w4.heap[g2]? = some (.cells cs 25 (0, 0)) ∧ cs.size = 6 from by obtain ⟨cs, h1, h2⟩ := Hb2.out; exact ⟨cs, hk4.blk h1 id, h2⟩)
   have HK := Lib.hid (HK.out.trans hk4 (fun _ _ h => h))
   clear ho4 hk4
   (try simp only [PU])
   refine ⟨trivial, ?_⟩
   refine tree_e rfl rfl ?_
   go_must (refine ev_store (off := 4) (cs' := #[.int .i64 k, .bool b, .int .i64 n, .string t, .slice oA kl oc, .slice vA nv vc]) rfl rfl rfl rfl rfl rfl HI22.out.1 HI22.out.2 rfl Hb1.out (Nat.le_of_ble_eq_true rfl) rfl ?_; intro w5 hb5 hk5)
   (try simp only [PU])
   have HKS := Lib.hid (HKS.out.keep hk5 (fun q e h => (Hdk.out q e).1 h.symm))
   have HRW := Lib.hid (row_keep HRW.out hk5 (fun q e h => (Hdr.out q e).1 h.symm))
   have Hb1 := Lib.hid hb5
   have Hb2 := Lib.hid (show ∃ cs, w5.heap[g2]? = some (.cells cs 25 (0, 0)) ∧ cs.size = 6 from by obtain ⟨cs, h1, h2⟩ := Hb2.out; exact ⟨cs, hk5.blk h1 (fun e : g2 = g1 => by have := Hg2.out; omega), h2⟩)
   have HK := Lib.hid (show Keeps Nob W w5 from HK.out.trans hk5 (fun i hi e => by have := Hg2.out; omega))
   clear hb5 hk5
   refine wpList_nil ⟨trivial, ?_⟩
   refine tq (some 11) ?_; (try simp only [PU])
   refine tree_e rfl rfl ?_
   go_must (refine ev_store (off := 5) (cs' := #[.int .i64 k, .bool b, .int .i64 n, .string t, .slice oA kl oc, .slice rA nv rc]) rfl rfl rfl rfl rfl rfl HI.out.2.1 HI.out.2.2 rfl Hb1.out (Nat.le_of_ble_eq_true rfl) rfl ?_; intro w5 hb5 hk5)
   (try simp only [PU])
   have HKS := Lib.hid (HKS.out.keep hk5 (fun q e h => (Hdk.out q e).1 h.symm))
   have HRW := Lib.hid (row_keep HRW.out hk5 (fun q e h => (Hdr.out q e).1 h.symm))
   have Hb1 := Lib.hid hb5
   have Hb2 := Lib.hid (show ∃ cs, w5.heap[g2]? = some (.cells cs 25 (0, 0)) ∧ cs.size = 6 from by obtain ⟨cs, h1, h2⟩ := Hb2.out; exact ⟨cs, hk5.blk h1 (fun e : g2 = g1 => by have := Hg2.out; omega), h2⟩)
   have HK := Lib.hid (show Keeps Nob W w5 from HK.out.trans hk5 (fun i hi e => by have := Hg2.out; omega))
   clear hb5 hk5
   refine wpList_nil ⟨trivial, ?_⟩
   refine tree_nil ?_
 · skip
   clear HI22 HKs Hkl Hl2 Hl3
   have c5 := (blk_cell Hb1.out 5).trans rfl
   go_wp2
   rename World => w0
   go_loopg [15] nv (fun K iv wr => ∃ (i : Nat) (xs : List Value) (Xn : Nat → Prop), iv = .int .i64 i ∧ i + K = nv ∧ Hid (wr.heap[g1]? = some (.cells #[.int .i64 k, .bool b, .int .i64 n, .string t, .slice oA kl oc, .slice rA nv rc] 25 (0, 0))) ∧ Hid (∃ cs, wr.heap[g2]? = some (.cells cs 25 (0, 0)) ∧ cs.size = 6) ∧ Hid (OwnS wr W.heap.size (.slice oA kl oc) ks) ∧ Hid (wr.ownsRow W.heap.size 25 6 (.slice rA nv rc) nv xs) ∧ Hid (∀ p, p < i → JX wr Xn (sixAt xs p) (vs.getD p default)) ∧ Hid (∀ p, i ≤ p → p < nv → sixAt xs p = .agg #[u p 0, u p 1, u p 2, u p 3, u p 4, u p 5]) ∧ Hid (∀ b, Xn b → W.heap.size ≤ b ∧ some b ≠ (Value.slice oA kl oc).ownBlock ∧ some b ≠ (Value.slice rA nv rc).ownBlock ∧ b < wr.heap.size ∧ b ≠ g1 ∧ b ≠ g2) ∧ Hid (w0.heap.size ≤ wr.heap.size) ∧ Hid (Keeps Nob W wr))
   case atStart => exact ⟨0, flat6 u nv, fun _ => False, rfl, by omega, Hb1, Hb2, HKS, HRW, Lib.hid (fun p h => absurd h (Nat.not_lt_zero _)), Lib.hid (fun p _ h => flat6_six u h), Lib.hid (fun b h => h.elim), Lib.hid (Nat.le_refl _), HK⟩
   case round =>
    obtain ⟨i, xs, Xn, rfl, hiK, Hb1, Hb2, HKS, HRW, Hnew, Hold, Hlow, Hsz, HK⟩ := hrel
    by_cases hlt : i < nv
    · obtain ⟨gr, rc', cur, he, hgr, hcur, hfit, hset⟩ := row_set HRW.out hlt
      injection he with he1 he2 he3
      subst he1; subst he3
      have hs6 := Hold.out i (Nat.le_refl _) hlt
      have hjx := (HV.out i hlt).keep HK.out (X' := fun b => b < W.heap.size) (fun _ _ _ => id) (fun _ _ h => h)
      have hsix := hjx.six
      have hcell : ∀ q, q < nv * 6 → wr.cell? ⟨gr, q, none⟩ = some (xs.getD q vz) := fun q hq => by
       obtain ⟨g', c', e, _, hc⟩ := row_cell HRW.out (k := q) hq
       injection e with e1
       injection e1 with e1
       injection e1 with e1
       subst e1
       exact hc
      have q0 := hcell (i * 6) (by omega)
      have q1 := hcell (i * 6 + 1) (by omega)
      have q2 := hcell (i * 6 + 2) (by omega)
      have q3 := hcell (i * 6 + 3) (by omega)
      have q4 := hcell (i * 6 + 4) (by omega)
      have q5 := hcell (i * 6 + 5) (by omega)
      unfold sixAt at hs6
      injection hs6 with hs6
      have t0 := congrArg (fun a : Array Value => a[0]?) hs6
      have t1 := congrArg (fun a : Array Value => a[1]?) hs6
      have t2 := congrArg (fun a : Array Value => a[2]?) hs6
      have t3 := congrArg (fun a : Array Value => a[3]?) hs6
      have t4 := congrArg (fun a : Array Value => a[4]?) hs6
      have t5 := congrArg (fun a : Array Value => a[5]?) hs6
      simp at t0 t1 t2 t3 t4 t5
      simp only [List.getD_eq_getElem?_getD] at q0 q1 q2 q3 q4 q5
      rw [t0] at q0
      rw [t1] at q1
      rw [t2] at q2
      rw [t3] at q3
      rw [t4] at q4
      rw [t5] at q5
      have Hjx := Lib.hid hjx
      clear hs6 t0 t1 t2 t3 t4 t5 hcell hjx
      generalize u i 0 = x0 at *
      generalize u i 1 = x1 at *
      generalize u i 2 = x2 at *
      generalize u i 3 = x3 at *
      generalize u i 4 = x4 at *
      generalize u i 5 = x5 at *
      obtain ⟨y0, y1, y2, y3, yA, yn, yc, yB, ym, yd, ⟨rfl, rfl, rfl⟩, rfl, rfl, rfl⟩ := hsix
      have Hcur := Lib.hid hcur
      have Hfit := Lib.hid hfit
      have Hset := Lib.hid hset
      have Hgr := Lib.hid hgr
      have c5 : wr.drew.cell? ⟨g1, 5, none⟩ = some (.slice (some ⟨gr, 0, none⟩) nv rc) := (blk_cell ((Keeps.refl Nob wr).drew.blk Hb1.out id) 5).trans rfl
      have HKd := Lib.hid (Keeps.refl Nob wr).drew
      clear hcur hfit hset hgr
      go_wp2_with fail
      refine wp_region_tree (.q 0 (.q 1 (.q 2 (.q 3 (.q 4 (.q 5 (.q 6 (.br [7] (fun k => .br [8] (fun k => .q 9 (.br [10] (fun k => .done)))))))))))) (fun w' => w'.cell? ⟨g1, 5, none⟩ = some (.slice (some ⟨gr, 0, none⟩) nv rc)) rfl (by kernel_rfl) (by kernel_rfl) (fun c a d v w h => by cases d <;> exact h) c5 ?_
      refine tq (some 18) ?_; (try simp only [PU])
      refine tq (some 19) ?_; (try simp only [PU])
      refine tq (some 20) ?_; (try simp only [PU])
      refine tq (some 21) ?_; (try simp only [PU])
      refine tq (some 22) ?_; (try simp only [PU])
      refine tq (some 23) ?_; (try simp only [PU])
      refine tq (some 24) ?_; (try simp only [PU])
      refine tree_e rfl rfl ?_
      have r0 := HKd.out.cell q0 id
      have r1 := HKd.out.cell q1 id
      have r2 := HKd.out.cell q2 id
      have r3 := HKd.out.cell q3 id
      have r4 := HKd.out.cell q4 id
      have r5 := HKd.out.cell q5 id
      go_wp2_with fail
      clear r0 r1 r2 r3 r4 r5
      refine ⟨c5, ?_⟩
      refine tree_e rfl rfl ?_
      go_wp2_with (go_at_call 59; go_must (refine (Hin.out _ i _ hlt (Hjx.out.keep HKd.out (fun _ _ _ => id) (fun _ _ h => h))).mono ?_; rintro e w7 ⟨⟨v7, rfl, ho7⟩, hk7⟩; have hv7 := ho7.val; obtain ⟨jk, jb, jn, jt, jks, jvs, jkv, jvv, hjj, rfl, hjk, hjv⟩ := hv7.open; obtain ⟨jA, jc, rfl, -⟩ := hjk; obtain ⟨jB, jd, ju, rfl, -⟩ := hjv))
      have HV7 := Lib.hid (show JX w7 (fun b => wr.heap.size ≤ b ∧ b < w7.heap.size) _ (vs.getD i default) from hv7)
      have HK7 := Lib.hid (show Keeps Nob wr w7 from HKd.out.trans hk7 (fun _ _ h => h))
      have c7 := (blk_cell (HK7.out.blk Hb1.out id) 5).trans rfl
      clear ho7 hv7 hk7 hjj
      generalize jks.length = jkl at *
      generalize jvs.length = jvl at *
      (try simp only [PU])
      refine ⟨c7, ?_⟩
      refine tq (some 27) ?_; (try simp only [PU])
      refine tree_e rfl rfl ?_
      go_must (refine ev_store (x := .agg #[.int .i64 jk, .bool jb, .int .i64 jn, .string jt, .slice jA jkl jc, .slice jB jvl jd]) (vs := [.int .i64 jk, .bool jb, .int .i64 jn, .string jt, .slice jA jkl jc, .slice jB jvl jd]) (off := i * 6) (cs' := List.toArray (cur.toList.take (i * 6) ++ ([Value.int .i64 jk, Value.bool jb, Value.int .i64 jn, Value.string jt, Value.slice jA jkl jc, Value.slice jB jvl jd] : List Value) ++ cur.toList.drop (i * 6 + 6))) rfl rfl rfl rfl rfl rfl HI.out.1.1 HI.out.1.2 rfl (HK7.out.blk Hcur.out id) Hfit.out rfl ?_; intro w8 hb8 hk8)
      (try simp only [PU])
      have Hb8 := Lib.hid hb8
      have Hk8 := Lib.hid hk8
      have Hg1r := Lib.hid (show g1 ≠ gr ∧ g2 ≠ gr ∧ (Value.slice oA kl oc).ownBlock ≠ some gr from Hdr.out gr rfl)
      have c8 := (blk_cell (hk8.blk (HK7.out.blk Hb1.out id) (Hdr.out gr rfl).1) 5).trans rfl
      clear hb8 hk8
      refine wpList_nil ⟨c8, ?_⟩
      refine tree_nil ?_
      go_wp2
      go_roundg (nv - i - 1)
      case measure => omega
      case rel => exact ⟨i + 1, setSix xs i [.int .i64 jk, .bool jb, .int .i64 jn, .string jt, .slice jA jkl jc, .slice jB jvl jd], fun b => Xn b ∨ (wr.heap.size ≤ b ∧ b < w7.heap.size), by rfl, by omega,
       Lib.hid (Hk8.out.blk (HK7.out.blk Hb1.out id) Hg1r.out.1),
       Lib.hid (by obtain ⟨cs, h1, h2⟩ := Hb2.out; exact ⟨cs, Hk8.out.blk (HK7.out.blk h1 id) Hg1r.out.2.1, h2⟩),
       Lib.hid ((HKS.out.keep HK7.out (fun _ _ => id)).keep Hk8.out (fun q e h => Hg1r.out.2.2 (by rw [e, h]))),
       Lib.hid (Hset.out w8 _ rfl Hb8.out),
       Lib.hid (fun p hp => by
        have hgl := blk_lt Hcur.out
        by_cases e : p = i
        · subst e
          rw [setSix_same HRW.out.1 hlt]
          exact HV7.out.keep Hk8.out (fun b _ hb e => by omega) (fun b _ hb => .inr hb)
        · rw [setSix_other HRW.out.1 hlt rfl e]
          exact ((Hnew.out p (by omega)).keep (X' := Xn) HK7.out (fun _ _ _ => id) (fun _ _ h => h)).keep Hk8.out (fun b _ hb e => (Hlow.out b hb).2.2.1 (by rw [e]; rfl)) (fun b _ hb => .inl hb)),
       Lib.hid (fun p hp hp2 => by
        rw [setSix_other HRW.out.1 hlt rfl (by omega)]
        exact Hold.out p (by omega) hp2),
       Lib.hid (fun b hb => by
        have h7 := HK7.out.size
        have h8 := Hk8.out.size
        have hw := HK.out.size
        rcases hb with hb | hb
        · have := Hlow.out b hb
          exact ⟨this.1, this.2.1, this.2.2.1, by omega, this.2.2.2.2.1, this.2.2.2.2.2⟩
        · have a1 := blk_lt Hcur.out
          have a2 := blk_lt Hb1.out
          obtain ⟨cs, h1, -⟩ := Hb2.out
          have a3 := blk_lt h1
          exact ⟨by omega, fun e => by have := (HKS.out.lt b e.symm).2; omega, fun e => by have e2 : b = gr := Option.some.inj e; omega, by omega, by omega, by omega⟩),
       Lib.hid (by have h7 := HK7.out.size; have h8 := Hk8.out.size; have := Hsz.out; omega),
       Lib.hid (show Keeps Nob W w8 from (HK.out.trans HK7.out (fun _ _ h => h)).trans Hk8.out (fun q hq e => by have := Hgr.out; omega))⟩
    · have hi' : nv = i := by omega
      subst hi'
      obtain ⟨cs2, hc2, hs2⟩ := id Hb2.out
      have Hc2 := Lib.hid hc2
      have Hs2 := Lib.hid hs2
      have c0 := (blk_cell Hb1.out 0).trans rfl
      have c1 := (blk_cell Hb1.out 1).trans rfl
      have c2 := (blk_cell Hb1.out 2).trans rfl
      have c3 := (blk_cell Hb1.out 3).trans rfl
      have c4 := (blk_cell Hb1.out 4).trans rfl
      have c5 := (blk_cell Hb1.out 5).trans rfl
      clear hc2 hs2
      go_wp2_with (first
       | ((with_reducible refine at_store (t := 25) rfl ?_); go_must (refine ev_store (x := .agg #[.int .i64 k, .bool b, .int .i64 n, .string t, .slice oA kl oc, .slice rA nv rc]) (vs := [.int .i64 k, .bool b, .int .i64 n, .string t, .slice oA kl oc, .slice rA nv rc]) (cs' := List.toArray (cs2.toList.take 0 ++ ([Value.int .i64 k, Value.bool b, Value.int .i64 n, Value.string t, Value.slice oA kl oc, Value.slice rA nv rc] : List Value) ++ cs2.toList.drop (0 + 6))) rfl rfl rfl rfl rfl rfl HI.out.1.1 HI.out.1.2 rfl Hc2.out (by rw [Hs2.out]; exact Nat.le_refl _) rfl ?_; intro w9 hb9 hk9)
          have Hb9 := Lib.hid hb9
          have Hk9 := Lib.hid hk9
          clear hb9 hk9
          (try simp only [PU]))
      )
      have hcs9 : List.toArray (cs2.toList.take 0 ++ ([Value.int .i64 k, Value.bool b, Value.int .i64 n, Value.string t, Value.slice oA kl oc, Value.slice rA nv rc] : List Value) ++ cs2.toList.drop (0 + 6)) = #[Value.int .i64 k, Value.bool b, Value.int .i64 n, Value.string t, Value.slice oA kl oc, Value.slice rA nv rc] := by
       rw [List.take_zero, List.drop_of_length_le (by rw [Array.length_toList, Hs2.out]; exact Nat.le_refl _)]
       rfl
      have hb9 := Hb9.out
      rw [hcs9] at hb9
      clear c0 c1 c2 c3 c4 c5
      have c0 := (blk_cell hb9 0).trans rfl
      have c1 := (blk_cell hb9 1).trans rfl
      have c2 := (blk_cell hb9 2).trans rfl
      have c3 := (blk_cell hb9 3).trans rfl
      have c4 := (blk_cell hb9 4).trans rfl
      have c5 := (blk_cell hb9 5).trans rfl
      refine bodyPost_ret (v := .agg #[.int .i64 k, .bool b, .int .i64 n, .string t, .slice oA kl oc, .slice rA nv rc]) (by rw [results_cell1 rfl]; go_simp) rfl ?_
      refine ⟨⟨_, rfl, ⟨_, _, rfl, HKS.out.keep Hk9.out (fun q e h => (Hdk.out q e).2.1 h.symm), fun b => Xn b, xs, ⟨?_, fun b hb => ?_, fun q e => (fun e2 => (Hdr.out q e).2.2 e2.symm), fun p hp => ?_⟩⟩⟩, HK.out.trans Hk9.out (fun q hq e => by have := Hg2.out; omega)⟩
      · rw [Hnv.out]
        exact row_keep HRW.out Hk9.out (fun q e h => (Hdr.out q e).2.1 h.symm)
      · have := Hlow.out b hb
        exact ⟨this.1, this.2.1, this.2.2.1, Nat.lt_of_lt_of_le this.2.2.2.1 Hk9.out.size⟩
      · rw [Hnv.out] at hp
        exact (Hnew.out p hp).keep Hk9.out (fun b _ hb e => (Hlow.out b hb).2.2.2.2.2 e) (fun _ _ h => h)
 · skip
   clear HI22 HKs Hkl Hl2 Hl3
   have c5 := (blk_cell Hb1.out 5).trans rfl
   go_wp2
   rename World => w0
   go_loopg [15] nv (fun K iv wr => ∃ (i : Nat) (xs : List Value) (Xn : Nat → Prop), iv = .int .i64 i ∧ i + K = nv ∧ Hid (wr.heap[g1]? = some (.cells #[.int .i64 k, .bool b, .int .i64 n, .string t, .slice oA kl oc, .slice rA nv rc] 25 (0, 0))) ∧ Hid (∃ cs, wr.heap[g2]? = some (.cells cs 25 (0, 0)) ∧ cs.size = 6) ∧ Hid (OwnS wr W.heap.size (.slice oA kl oc) ks) ∧ Hid (wr.ownsRow W.heap.size 25 6 (.slice rA nv rc) nv xs) ∧ Hid (∀ p, p < i → JX wr Xn (sixAt xs p) (vs.getD p default)) ∧ Hid (∀ p, i ≤ p → p < nv → sixAt xs p = .agg #[u p 0, u p 1, u p 2, u p 3, u p 4, u p 5]) ∧ Hid (∀ b, Xn b → W.heap.size ≤ b ∧ some b ≠ (Value.slice oA kl oc).ownBlock ∧ some b ≠ (Value.slice rA nv rc).ownBlock ∧ b < wr.heap.size ∧ b ≠ g1 ∧ b ≠ g2) ∧ Hid (w0.heap.size ≤ wr.heap.size) ∧ Hid (Keeps Nob W wr))
   case atStart => exact ⟨0, flat6 u nv, fun _ => False, rfl, by omega, Hb1, Hb2, HKS, HRW, Lib.hid (fun p h => absurd h (Nat.not_lt_zero _)), Lib.hid (fun p _ h => flat6_six u h), Lib.hid (fun b h => h.elim), Lib.hid (Nat.le_refl _), HK⟩
   case round =>
    obtain ⟨i, xs, Xn, rfl, hiK, Hb1, Hb2, HKS, HRW, Hnew, Hold, Hlow, Hsz, HK⟩ := hrel
    by_cases hlt : i < nv
    · obtain ⟨gr, rc', cur, he, hgr, hcur, hfit, hset⟩ := row_set HRW.out hlt
      injection he with he1 he2 he3
      subst he1; subst he3
      have hs6 := Hold.out i (Nat.le_refl _) hlt
      have hjx := (HV.out i hlt).keep HK.out (X' := fun b => b < W.heap.size) (fun _ _ _ => id) (fun _ _ h => h)
      have hsix := hjx.six
      have hcell : ∀ q, q < nv * 6 → wr.cell? ⟨gr, q, none⟩ = some (xs.getD q vz) := fun q hq => by
       obtain ⟨g', c', e, _, hc⟩ := row_cell HRW.out (k := q) hq
       injection e with e1
       injection e1 with e1
       injection e1 with e1
       subst e1
       exact hc
      have q0 := hcell (i * 6) (by omega)
      have q1 := hcell (i * 6 + 1) (by omega)
      have q2 := hcell (i * 6 + 2) (by omega)
      have q3 := hcell (i * 6 + 3) (by omega)
      have q4 := hcell (i * 6 + 4) (by omega)
      have q5 := hcell (i * 6 + 5) (by omega)
      unfold sixAt at hs6
      injection hs6 with hs6
      have t0 := congrArg (fun a : Array Value => a[0]?) hs6
      have t1 := congrArg (fun a : Array Value => a[1]?) hs6
      have t2 := congrArg (fun a : Array Value => a[2]?) hs6
      have t3 := congrArg (fun a : Array Value => a[3]?) hs6
      have t4 := congrArg (fun a : Array Value => a[4]?) hs6
      have t5 := congrArg (fun a : Array Value => a[5]?) hs6
      simp at t0 t1 t2 t3 t4 t5
      simp only [List.getD_eq_getElem?_getD] at q0 q1 q2 q3 q4 q5
      rw [t0] at q0
      rw [t1] at q1
      rw [t2] at q2
      rw [t3] at q3
      rw [t4] at q4
      rw [t5] at q5
      have Hjx := Lib.hid hjx
      clear hs6 t0 t1 t2 t3 t4 t5 hcell hjx
      generalize u i 0 = x0 at *
      generalize u i 1 = x1 at *
      generalize u i 2 = x2 at *
      generalize u i 3 = x3 at *
      generalize u i 4 = x4 at *
      generalize u i 5 = x5 at *
      obtain ⟨y0, y1, y2, y3, yA, yn, yc, yB, ym, yd, ⟨rfl, rfl, rfl⟩, rfl, rfl, rfl⟩ := hsix
      have Hcur := Lib.hid hcur
      have Hfit := Lib.hid hfit
      have Hset := Lib.hid hset
      have Hgr := Lib.hid hgr
      have c5 : wr.drew.cell? ⟨g1, 5, none⟩ = some (.slice (some ⟨gr, 0, none⟩) nv rc) := (blk_cell ((Keeps.refl Nob wr).drew.blk Hb1.out id) 5).trans rfl
      have HKd := Lib.hid (Keeps.refl Nob wr).drew
      clear hcur hfit hset hgr
      go_wp2_with fail
      refine wp_region_tree (.q 0 (.q 1 (.q 2 (.q 3 (.q 4 (.q 5 (.q 6 (.br [7] (fun k => .br [8] (fun k => .q 9 (.br [10] (fun k => .done)))))))))))) (fun w' => w'.cell? ⟨g1, 5, none⟩ = some (.slice (some ⟨gr, 0, none⟩) nv rc)) rfl (by kernel_rfl) (by kernel_rfl) (fun c a d v w h => by cases d <;> exact h) c5 ?_
      refine tq (some 18) ?_; (try simp only [PU])
      refine tq (some 19) ?_; (try simp only [PU])
      refine tq (some 20) ?_; (try simp only [PU])
      refine tq (some 21) ?_; (try simp only [PU])
      refine tq (some 22) ?_; (try simp only [PU])
      refine tq (some 23) ?_; (try simp only [PU])
      refine tq (some 24) ?_; (try simp only [PU])
      refine tree_e rfl rfl ?_
      have r0 := HKd.out.cell q0 id
      have r1 := HKd.out.cell q1 id
      have r2 := HKd.out.cell q2 id
      have r3 := HKd.out.cell q3 id
      have r4 := HKd.out.cell q4 id
      have r5 := HKd.out.cell q5 id
      go_wp2_with fail
      clear r0 r1 r2 r3 r4 r5
      refine ⟨c5, ?_⟩
      refine tree_e rfl rfl ?_
      go_wp2_with (go_at_call 59; go_must (refine (Hin.out _ i _ hlt (Hjx.out.keep HKd.out (fun _ _ _ => id) (fun _ _ h => h))).mono ?_; rintro e w7 ⟨⟨v7, rfl, ho7⟩, hk7⟩; have hv7 := ho7.val; obtain ⟨jk, jb, jn, jt, jks, jvs, jkv, jvv, hjj, rfl, hjk, hjv⟩ := hv7.open; obtain ⟨jA, jc, rfl, -⟩ := hjk; obtain ⟨jB, jd, ju, rfl, -⟩ := hjv))
      have HV7 := Lib.hid (show JX w7 (fun b => wr.heap.size ≤ b ∧ b < w7.heap.size) _ (vs.getD i default) from hv7)
      have HK7 := Lib.hid (show Keeps Nob wr w7 from HKd.out.trans hk7 (fun _ _ h => h))
      have c7 := (blk_cell (HK7.out.blk Hb1.out id) 5).trans rfl
      clear ho7 hv7 hk7 hjj
      generalize jks.length = jkl at *
      generalize jvs.length = jvl at *
      (try simp only [PU])
      refine ⟨c7, ?_⟩
      refine tq (some 27) ?_; (try simp only [PU])
      refine tree_e rfl rfl ?_
      go_must (refine ev_store (x := .agg #[.int .i64 jk, .bool jb, .int .i64 jn, .string jt, .slice jA jkl jc, .slice jB jvl jd]) (vs := [.int .i64 jk, .bool jb, .int .i64 jn, .string jt, .slice jA jkl jc, .slice jB jvl jd]) (off := i * 6) (cs' := List.toArray (cur.toList.take (i * 6) ++ ([Value.int .i64 jk, Value.bool jb, Value.int .i64 jn, Value.string jt, Value.slice jA jkl jc, Value.slice jB jvl jd] : List Value) ++ cur.toList.drop (i * 6 + 6))) rfl rfl rfl rfl rfl rfl HI.out.1.1 HI.out.1.2 rfl (HK7.out.blk Hcur.out id) Hfit.out rfl ?_; intro w8 hb8 hk8)
      (try simp only [PU])
      have Hb8 := Lib.hid hb8
      have Hk8 := Lib.hid hk8
      have Hg1r := Lib.hid (show g1 ≠ gr ∧ g2 ≠ gr ∧ (Value.slice oA kl oc).ownBlock ≠ some gr from Hdr.out gr rfl)
      have c8 := (blk_cell (hk8.blk (HK7.out.blk Hb1.out id) (Hdr.out gr rfl).1) 5).trans rfl
      clear hb8 hk8
      refine wpList_nil ⟨c8, ?_⟩
      refine tree_nil ?_
      go_wp2
      go_roundg (nv - i - 1)
      case measure => omega
      case rel => exact ⟨i + 1, setSix xs i [.int .i64 jk, .bool jb, .int .i64 jn, .string jt, .slice jA jkl jc, .slice jB jvl jd], fun b => Xn b ∨ (wr.heap.size ≤ b ∧ b < w7.heap.size), by rfl, by omega,
       Lib.hid (Hk8.out.blk (HK7.out.blk Hb1.out id) Hg1r.out.1),
       Lib.hid (by obtain ⟨cs, h1, h2⟩ := Hb2.out; exact ⟨cs, Hk8.out.blk (HK7.out.blk h1 id) Hg1r.out.2.1, h2⟩),
       Lib.hid ((HKS.out.keep HK7.out (fun _ _ => id)).keep Hk8.out (fun q e h => Hg1r.out.2.2 (by rw [e, h]))),
       Lib.hid (Hset.out w8 _ rfl Hb8.out),
       Lib.hid (fun p hp => by
        have hgl := blk_lt Hcur.out
        by_cases e : p = i
        · subst e
          rw [setSix_same HRW.out.1 hlt]
          exact HV7.out.keep Hk8.out (fun b _ hb e => by omega) (fun b _ hb => .inr hb)
        · rw [setSix_other HRW.out.1 hlt rfl e]
          exact ((Hnew.out p (by omega)).keep (X' := Xn) HK7.out (fun _ _ _ => id) (fun _ _ h => h)).keep Hk8.out (fun b _ hb e => (Hlow.out b hb).2.2.1 (by rw [e]; rfl)) (fun b _ hb => .inl hb)),
       Lib.hid (fun p hp hp2 => by
        rw [setSix_other HRW.out.1 hlt rfl (by omega)]
        exact Hold.out p (by omega) hp2),
       Lib.hid (fun b hb => by
        have h7 := HK7.out.size
        have h8 := Hk8.out.size
        have hw := HK.out.size
        rcases hb with hb | hb
        · have := Hlow.out b hb
          exact ⟨this.1, this.2.1, this.2.2.1, by omega, this.2.2.2.2.1, this.2.2.2.2.2⟩
        · have a1 := blk_lt Hcur.out
          have a2 := blk_lt Hb1.out
          obtain ⟨cs, h1, -⟩ := Hb2.out
          have a3 := blk_lt h1
          exact ⟨by omega, fun e => by have := (HKS.out.lt b e.symm).2; omega, fun e => by have e2 : b = gr := Option.some.inj e; omega, by omega, by omega, by omega⟩),
       Lib.hid (by have h7 := HK7.out.size; have h8 := Hk8.out.size; have := Hsz.out; omega),
       Lib.hid (show Keeps Nob W w8 from (HK.out.trans HK7.out (fun _ _ h => h)).trans Hk8.out (fun q hq e => by have := Hgr.out; omega))⟩
    · have hi' : nv = i := by omega
      subst hi'
      obtain ⟨cs2, hc2, hs2⟩ := id Hb2.out
      have Hc2 := Lib.hid hc2
      have Hs2 := Lib.hid hs2
      have c0 := (blk_cell Hb1.out 0).trans rfl
      have c1 := (blk_cell Hb1.out 1).trans rfl
      have c2 := (blk_cell Hb1.out 2).trans rfl
      have c3 := (blk_cell Hb1.out 3).trans rfl
      have c4 := (blk_cell Hb1.out 4).trans rfl
      have c5 := (blk_cell Hb1.out 5).trans rfl
      clear hc2 hs2
      go_wp2_with (first
       | ((with_reducible refine at_store (t := 25) rfl ?_); go_must (refine ev_store (x := .agg #[.int .i64 k, .bool b, .int .i64 n, .string t, .slice oA kl oc, .slice rA nv rc]) (vs := [.int .i64 k, .bool b, .int .i64 n, .string t, .slice oA kl oc, .slice rA nv rc]) (cs' := List.toArray (cs2.toList.take 0 ++ ([Value.int .i64 k, Value.bool b, Value.int .i64 n, Value.string t, Value.slice oA kl oc, Value.slice rA nv rc] : List Value) ++ cs2.toList.drop (0 + 6))) rfl rfl rfl rfl rfl rfl HI.out.1.1 HI.out.1.2 rfl Hc2.out (by rw [Hs2.out]; exact Nat.le_refl _) rfl ?_; intro w9 hb9 hk9)
          have Hb9 := Lib.hid hb9
          have Hk9 := Lib.hid hk9
          clear hb9 hk9
          (try simp only [PU]))
      )
      have hcs9 : List.toArray (cs2.toList.take 0 ++ ([Value.int .i64 k, Value.bool b, Value.int .i64 n, Value.string t, Value.slice oA kl oc, Value.slice rA nv rc] : List Value) ++ cs2.toList.drop (0 + 6)) = #[Value.int .i64 k, Value.bool b, Value.int .i64 n, Value.string t, Value.slice oA kl oc, Value.slice rA nv rc] := by
       rw [List.take_zero, List.drop_of_length_le (by rw [Array.length_toList, Hs2.out]; exact Nat.le_refl _)]
       rfl
      have hb9 := Hb9.out
      rw [hcs9] at hb9
      clear c0 c1 c2 c3 c4 c5
      have c0 := (blk_cell hb9 0).trans rfl
      have c1 := (blk_cell hb9 1).trans rfl
      have c2 := (blk_cell hb9 2).trans rfl
      have c3 := (blk_cell hb9 3).trans rfl
      have c4 := (blk_cell hb9 4).trans rfl
      have c5 := (blk_cell hb9 5).trans rfl
      refine bodyPost_ret (v := .agg #[.int .i64 k, .bool b, .int .i64 n, .string t, .slice oA kl oc, .slice rA nv rc]) (by rw [results_cell1 rfl]; go_simp) rfl ?_
      refine ⟨⟨_, rfl, ⟨_, _, rfl, HKS.out.keep Hk9.out (fun q e h => (Hdk.out q e).2.1 h.symm), fun b => Xn b, xs, ⟨?_, fun b hb => ?_, fun q e => (fun e2 => (Hdr.out q e).2.2 e2.symm), fun p hp => ?_⟩⟩⟩, HK.out.trans Hk9.out (fun q hq e => by have := Hg2.out; omega)⟩
      · rw [Hnv.out]
        exact row_keep HRW.out Hk9.out (fun q e h => (Hdr.out q e).2.1 h.symm)
      · have := Hlow.out b hb
        exact ⟨this.1, this.2.1, this.2.2.1, Nat.lt_of_lt_of_le this.2.2.2.1 Hk9.out.size⟩
      · rw [Hnv.out] at hp
        exact (Hnew.out p hp).keep Hk9.out (fun b _ hb e => (Hlow.out b hb).2.2.2.2.2 e) (fun _ _ h => h)
 · skip
   clear HI22 HKs Hkl Hl2 Hl3
   have c5 := (blk_cell Hb1.out 5).trans rfl
   go_wp2
   rename World => w0
   go_loopg [15] nv (fun K iv wr => ∃ (i : Nat) (xs : List Value) (Xn : Nat → Prop), iv = .int .i64 i ∧ i + K = nv ∧ Hid (wr.heap[g1]? = some (.cells #[.int .i64 k, .bool b, .int .i64 n, .string t, .slice oA kl oc, .slice rA nv rc] 25 (0, 0))) ∧ Hid (∃ cs, wr.heap[g2]? = some (.cells cs 25 (0, 0)) ∧ cs.size = 6) ∧ Hid (OwnS wr W.heap.size (.slice oA kl oc) ks) ∧ Hid (wr.ownsRow W.heap.size 25 6 (.slice rA nv rc) nv xs) ∧ Hid (∀ p, p < i → JX wr Xn (sixAt xs p) (vs.getD p default)) ∧ Hid (∀ p, i ≤ p → p < nv → sixAt xs p = .agg #[u p 0, u p 1, u p 2, u p 3, u p 4, u p 5]) ∧ Hid (∀ b, Xn b → W.heap.size ≤ b ∧ some b ≠ (Value.slice oA kl oc).ownBlock ∧ some b ≠ (Value.slice rA nv rc).ownBlock ∧ b < wr.heap.size ∧ b ≠ g1 ∧ b ≠ g2) ∧ Hid (w0.heap.size ≤ wr.heap.size) ∧ Hid (Keeps Nob W wr))
   case atStart => exact ⟨0, flat6 u nv, fun _ => False, rfl, by omega, Hb1, Hb2, HKS, HRW, Lib.hid (fun p h => absurd h (Nat.not_lt_zero _)), Lib.hid (fun p _ h => flat6_six u h), Lib.hid (fun b h => h.elim), Lib.hid (Nat.le_refl _), HK⟩
   case round =>
    obtain ⟨i, xs, Xn, rfl, hiK, Hb1, Hb2, HKS, HRW, Hnew, Hold, Hlow, Hsz, HK⟩ := hrel
    by_cases hlt : i < nv
    · obtain ⟨gr, rc', cur, he, hgr, hcur, hfit, hset⟩ := row_set HRW.out hlt
      injection he with he1 he2 he3
      subst he1; subst he3
      have hs6 := Hold.out i (Nat.le_refl _) hlt
      have hjx := (HV.out i hlt).keep HK.out (X' := fun b => b < W.heap.size) (fun _ _ _ => id) (fun _ _ h => h)
      have hsix := hjx.six
      have hcell : ∀ q, q < nv * 6 → wr.cell? ⟨gr, q, none⟩ = some (xs.getD q vz) := fun q hq => by
       obtain ⟨g', c', e, _, hc⟩ := row_cell HRW.out (k := q) hq
       injection e with e1
       injection e1 with e1
       injection e1 with e1
       subst e1
       exact hc
      have q0 := hcell (i * 6) (by omega)
      have q1 := hcell (i * 6 + 1) (by omega)
      have q2 := hcell (i * 6 + 2) (by omega)
      have q3 := hcell (i * 6 + 3) (by omega)
      have q4 := hcell (i * 6 + 4) (by omega)
      have q5 := hcell (i * 6 + 5) (by omega)
      unfold sixAt at hs6
      injection hs6 with hs6
      have t0 := congrArg (fun a : Array Value => a[0]?) hs6
      have t1 := congrArg (fun a : Array Value => a[1]?) hs6
      have t2 := congrArg (fun a : Array Value => a[2]?) hs6
      have t3 := congrArg (fun a : Array Value => a[3]?) hs6
      have t4 := congrArg (fun a : Array Value => a[4]?) hs6
      have t5 := congrArg (fun a : Array Value => a[5]?) hs6
      simp at t0 t1 t2 t3 t4 t5
      simp only [List.getD_eq_getElem?_getD] at q0 q1 q2 q3 q4 q5
      rw [t0] at q0
      rw [t1] at q1
      rw [t2] at q2
      rw [t3] at q3
      rw [t4] at q4
      rw [t5] at q5
      have Hjx := Lib.hid hjx
      clear hs6 t0 t1 t2 t3 t4 t5 hcell hjx
      generalize u i 0 = x0 at *
      generalize u i 1 = x1 at *
      generalize u i 2 = x2 at *
      generalize u i 3 = x3 at *
      generalize u i 4 = x4 at *
      generalize u i 5 = x5 at *
      obtain ⟨y0, y1, y2, y3, yA, yn, yc, yB, ym, yd, ⟨rfl, rfl, rfl⟩, rfl, rfl, rfl⟩ := hsix
      have Hcur := Lib.hid hcur
      have Hfit := Lib.hid hfit
      have Hset := Lib.hid hset
      have Hgr := Lib.hid hgr
      have c5 : wr.drew.cell? ⟨g1, 5, none⟩ = some (.slice (some ⟨gr, 0, none⟩) nv rc) := (blk_cell ((Keeps.refl Nob wr).drew.blk Hb1.out id) 5).trans rfl
      have HKd := Lib.hid (Keeps.refl Nob wr).drew
      clear hcur hfit hset hgr
      go_wp2_with fail
      refine wp_region_tree (.q 0 (.q 1 (.q 2 (.q 3 (.q 4 (.q 5 (.q 6 (.br [7] (fun k => .br [8] (fun k => .q 9 (.br [10] (fun k => .done)))))))))))) (fun w' => w'.cell? ⟨g1, 5, none⟩ = some (.slice (some ⟨gr, 0, none⟩) nv rc)) rfl (by kernel_rfl) (by kernel_rfl) (fun c a d v w h => by cases d <;> exact h) c5 ?_
      refine tq (some 18) ?_; (try simp only [PU])
      refine tq (some 19) ?_; (try simp only [PU])
      refine tq (some 20) ?_; (try simp only [PU])
      refine tq (some 21) ?_; (try simp only [PU])
      refine tq (some 22) ?_; (try simp only [PU])
      refine tq (some 23) ?_; (try simp only [PU])
      refine tq (some 24) ?_; (try simp only [PU])
      refine tree_e rfl rfl ?_
      have r0 := HKd.out.cell q0 id
      have r1 := HKd.out.cell q1 id
      have r2 := HKd.out.cell q2 id
      have r3 := HKd.out.cell q3 id
      have r4 := HKd.out.cell q4 id
      have r5 := HKd.out.cell q5 id
      go_wp2_with fail
      clear r0 r1 r2 r3 r4 r5
      refine ⟨c5, ?_⟩
      refine tree_e rfl rfl ?_
      go_wp2_with (go_at_call 59; go_must (refine (Hin.out _ i _ hlt (Hjx.out.keep HKd.out (fun _ _ _ => id) (fun _ _ h => h))).mono ?_; rintro e w7 ⟨⟨v7, rfl, ho7⟩, hk7⟩; have hv7 := ho7.val; obtain ⟨jk, jb, jn, jt, jks, jvs, jkv, jvv, hjj, rfl, hjk, hjv⟩ := hv7.open; obtain ⟨jA, jc, rfl, -⟩ := hjk; obtain ⟨jB, jd, ju, rfl, -⟩ := hjv))
      have HV7 := Lib.hid (show JX w7 (fun b => wr.heap.size ≤ b ∧ b < w7.heap.size) _ (vs.getD i default) from hv7)
      have HK7 := Lib.hid (show Keeps Nob wr w7 from HKd.out.trans hk7 (fun _ _ h => h))
      have c7 := (blk_cell (HK7.out.blk Hb1.out id) 5).trans rfl
      clear ho7 hv7 hk7 hjj
      generalize jks.length = jkl at *
      generalize jvs.length = jvl at *
      (try simp only [PU])
      refine ⟨c7, ?_⟩
      refine tq (some 27) ?_; (try simp only [PU])
      refine tree_e rfl rfl ?_
      go_must (refine ev_store (x := .agg #[.int .i64 jk, .bool jb, .int .i64 jn, .string jt, .slice jA jkl jc, .slice jB jvl jd]) (vs := [.int .i64 jk, .bool jb, .int .i64 jn, .string jt, .slice jA jkl jc, .slice jB jvl jd]) (off := i * 6) (cs' := List.toArray (cur.toList.take (i * 6) ++ ([Value.int .i64 jk, Value.bool jb, Value.int .i64 jn, Value.string jt, Value.slice jA jkl jc, Value.slice jB jvl jd] : List Value) ++ cur.toList.drop (i * 6 + 6))) rfl rfl rfl rfl rfl rfl HI.out.1.1 HI.out.1.2 rfl (HK7.out.blk Hcur.out id) Hfit.out rfl ?_; intro w8 hb8 hk8)
      (try simp only [PU])
      have Hb8 := Lib.hid hb8
      have Hk8 := Lib.hid hk8
      have Hg1r := Lib.hid (show g1 ≠ gr ∧ g2 ≠ gr ∧ (Value.slice oA kl oc).ownBlock ≠ some gr from Hdr.out gr rfl)
      have c8 := (blk_cell (hk8.blk (HK7.out.blk Hb1.out id) (Hdr.out gr rfl).1) 5).trans rfl
      clear hb8 hk8
      refine wpList_nil ⟨c8, ?_⟩
      refine tree_nil ?_
      go_wp2
      go_roundg (nv - i - 1)
      case measure => omega
      case rel => exact ⟨i + 1, setSix xs i [.int .i64 jk, .bool jb, .int .i64 jn, .string jt, .slice jA jkl jc, .slice jB jvl jd], fun b => Xn b ∨ (wr.heap.size ≤ b ∧ b < w7.heap.size), by rfl, by omega,
       Lib.hid (Hk8.out.blk (HK7.out.blk Hb1.out id) Hg1r.out.1),
       Lib.hid (by obtain ⟨cs, h1, h2⟩ := Hb2.out; exact ⟨cs, Hk8.out.blk (HK7.out.blk h1 id) Hg1r.out.2.1, h2⟩),
       Lib.hid ((HKS.out.keep HK7.out (fun _ _ => id)).keep Hk8.out (fun q e h => Hg1r.out.2.2 (by rw [e, h]))),
       Lib.hid (Hset.out w8 _ rfl Hb8.out),
       Lib.hid (fun p hp => by
        have hgl := blk_lt Hcur.out
        by_cases e : p = i
        · subst e
          rw [setSix_same HRW.out.1 hlt]
          exact HV7.out.keep Hk8.out (fun b _ hb e => by omega) (fun b _ hb => .inr hb)
        · rw [setSix_other HRW.out.1 hlt rfl e]
          exact ((Hnew.out p (by omega)).keep (X' := Xn) HK7.out (fun _ _ _ => id) (fun _ _ h => h)).keep Hk8.out (fun b _ hb e => (Hlow.out b hb).2.2.1 (by rw [e]; rfl)) (fun b _ hb => .inl hb)),
       Lib.hid (fun p hp hp2 => by
        rw [setSix_other HRW.out.1 hlt rfl (by omega)]
        exact Hold.out p (by omega) hp2),
       Lib.hid (fun b hb => by
        have h7 := HK7.out.size
        have h8 := Hk8.out.size
        have hw := HK.out.size
        rcases hb with hb | hb
        · have := Hlow.out b hb
          exact ⟨this.1, this.2.1, this.2.2.1, by omega, this.2.2.2.2.1, this.2.2.2.2.2⟩
        · have a1 := blk_lt Hcur.out
          have a2 := blk_lt Hb1.out
          obtain ⟨cs, h1, -⟩ := Hb2.out
          have a3 := blk_lt h1
          exact ⟨by omega, fun e => by have := (HKS.out.lt b e.symm).2; omega, fun e => by have e2 : b = gr := Option.some.inj e; omega, by omega, by omega, by omega⟩),
       Lib.hid (by have h7 := HK7.out.size; have h8 := Hk8.out.size; have := Hsz.out; omega),
       Lib.hid (show Keeps Nob W w8 from (HK.out.trans HK7.out (fun _ _ h => h)).trans Hk8.out (fun q hq e => by have := Hgr.out; omega))⟩
    · have hi' : nv = i := by omega
      subst hi'
      obtain ⟨cs2, hc2, hs2⟩ := id Hb2.out
      have Hc2 := Lib.hid hc2
      have Hs2 := Lib.hid hs2
      have c0 := (blk_cell Hb1.out 0).trans rfl
      have c1 := (blk_cell Hb1.out 1).trans rfl
      have c2 := (blk_cell Hb1.out 2).trans rfl
      have c3 := (blk_cell Hb1.out 3).trans rfl
      have c4 := (blk_cell Hb1.out 4).trans rfl
      have c5 := (blk_cell Hb1.out 5).trans rfl
      clear hc2 hs2
      go_wp2_with (first
       | ((with_reducible refine at_store (t := 25) rfl ?_); go_must (refine ev_store (x := .agg #[.int .i64 k, .bool b, .int .i64 n, .string t, .slice oA kl oc, .slice rA nv rc]) (vs := [.int .i64 k, .bool b, .int .i64 n, .string t, .slice oA kl oc, .slice rA nv rc]) (cs' := List.toArray (cs2.toList.take 0 ++ ([Value.int .i64 k, Value.bool b, Value.int .i64 n, Value.string t, Value.slice oA kl oc, Value.slice rA nv rc] : List Value) ++ cs2.toList.drop (0 + 6))) rfl rfl rfl rfl rfl rfl HI.out.1.1 HI.out.1.2 rfl Hc2.out (by rw [Hs2.out]; exact Nat.le_refl _) rfl ?_; intro w9 hb9 hk9)
          have Hb9 := Lib.hid hb9
          have Hk9 := Lib.hid hk9
          clear hb9 hk9
          (try simp only [PU]))
      )
      have hcs9 : List.toArray (cs2.toList.take 0 ++ ([Value.int .i64 k, Value.bool b, Value.int .i64 n, Value.string t, Value.slice oA kl oc, Value.slice rA nv rc] : List Value) ++ cs2.toList.drop (0 + 6)) = #[Value.int .i64 k, Value.bool b, Value.int .i64 n, Value.string t, Value.slice oA kl oc, Value.slice rA nv rc] := by
       rw [List.take_zero, List.drop_of_length_le (by rw [Array.length_toList, Hs2.out]; exact Nat.le_refl _)]
       rfl
      have hb9 := Hb9.out
      rw [hcs9] at hb9
      clear c0 c1 c2 c3 c4 c5
      have c0 := (blk_cell hb9 0).trans rfl
      have c1 := (blk_cell hb9 1).trans rfl
      have c2 := (blk_cell hb9 2).trans rfl
      have c3 := (blk_cell hb9 3).trans rfl
      have c4 := (blk_cell hb9 4).trans rfl
      have c5 := (blk_cell hb9 5).trans rfl
      refine bodyPost_ret (v := .agg #[.int .i64 k, .bool b, .int .i64 n, .string t, .slice oA kl oc, .slice rA nv rc]) (by rw [results_cell1 rfl]; go_simp) rfl ?_
      refine ⟨⟨_, rfl, ⟨_, _, rfl, HKS.out.keep Hk9.out (fun q e h => (Hdk.out q e).2.1 h.symm), fun b => Xn b, xs, ⟨?_, fun b hb => ?_, fun q e => (fun e2 => (Hdr.out q e).2.2 e2.symm), fun p hp => ?_⟩⟩⟩, HK.out.trans Hk9.out (fun q hq e => by have := Hg2.out; omega)⟩
      · rw [Hnv.out]
        exact row_keep HRW.out Hk9.out (fun q e h => (Hdr.out q e).2.1 h.symm)
      · have := Hlow.out b hb
        exact ⟨this.1, this.2.1, this.2.2.1, Nat.lt_of_lt_of_le this.2.2.2.1 Hk9.out.size⟩
      · rw [Hnv.out] at hp
        exact (Hnew.out p hp).keep Hk9.out (fun b _ hb e => (Hlow.out b hb).2.2.2.2.2 e) (fun _ _ h => h)
theorem own59 (W : World) (X : Nat → Prop) (v : Value) (j : J) (h : JX W X v j) (hsz : sizeJ j ≤ 1000000000) : Calls Tryd.prog 59 #[v] W (OwnEnd W j) := by
 have all : ∀ lv (W : World) (X : Nat → Prop) (v : Value) (j : J), JX W X v j → levelsJ j < lv → sizeJ j ≤ 1000000000 → Calls Tryd.prog 59 #[v] W (OwnEnd W j) := by
  intro lv
  induction lv with
  | zero => intro W X v j _ h; omega
  | succ lv ih => exact own_step ih
 exact all (levelsJ j + 1) W X v j h (Nat.lt_succ_self _) hsz
end Go.Proofs.WV

namespace Go.Proofs.WM

theorem quoteB_ge (s : Bs) : s.length + 2 ≤ (quoteB s).length := by
 have h : s.length ≤ (s.flatMap esc).length := by
  induction s with
  | nil => exact Nat.le_refl _
  | cons c q ih =>
    have hc : 1 ≤ (esc c).length := by
     unfold esc
     split
     · simp
     split
     · simp
     split <;> simp
    simp only [List.flatMap_cons, List.length_append, List.length_cons]
    omega
 simp only [quoteB, List.length_append, List.length_cons, List.length_nil]
 omega
theorem lens_joinC : ∀ ps : List Bs, lens ps ≤ (joinC ps).length
 | [] => Nat.le_refl _
 | p :: ps => by
   have h : ∀ l : List Bs, lens l ≤ (l.flatMap (44 :: ·)).length := by
    intro l
    induction l with
    | nil => exact Nat.le_refl _
    | cons x l ih => simp only [lens, List.map_cons, List.sum_cons, List.flatMap_cons, List.length_append, List.length_cons] at ih ⊢; omega
   have := h ps
   simp only [lens, joinC, List.map_cons, List.sum_cons, List.length_append] at this ⊢
   omega
theorem lens_zip : ∀ (ks : List ByteArray) (ps : List Bs), ks.length = ps.length → (ks.map ByteArray.size).sum + 3 * ks.length + lens ps ≤ lens (List.zipWith (fun q p => quoteB (bl q) ++ [58] ++ p) ks ps)
 | [], [], _ => Nat.le_refl _
 | k :: ks, p :: ps, h => by
   have h1 := lens_zip ks ps (by simpa using h)
   have h2 := quoteB_ge (bl k)
   rw [bl_len] at h2
   simp only [lens, List.map_cons, List.sum_cons, List.zipWith_cons_cons, List.length_append, List.length_cons, List.length_nil] at h1 ⊢
   omega
 | [], _ :: _, h => by simp at h
 | _ :: _, [], h => by simp at h
theorem itoa_pos (n : Int) : 1 ≤ (Lib.itoa n).length := by
 obtain ⟨c, q, e, _⟩ := itoa_head (n := n)
 rw [e]
 simp
mutual
theorem size_text : ∀ j : J, formedJ j = true → sizeJ j ≤ 2 * (textJ j).length
 | .mk k b n t ks vs, hf => by
   unfold formedJ at hf
   simp only [fineJ, Bool.and_eq_true, Bool.or_eq_true, decide_eq_true_eq, Bool.not_eq_true', decide_eq_false_iff_not] at hf
   obtain ⟨⟨⟨⟨⟨⟨⟨⟨⟨⟨h1, h2⟩, hb⟩, hn⟩, ht⟩, hks⟩, hvs⟩, hr⟩, hlen⟩, hnd⟩, hfl⟩ := hf
   have hl := size_textL vs hfl
   have hi := itoa_pos n
   have hq := quoteB_ge (bl t)
   rw [bl_len] at hq
   have hj := lens_joinC (textL vs)
   have hjz := lens_joinC (List.zipWith (fun q p => quoteB (bl q) ++ [58] ++ p) ks (textL vs))
   have ht0 : k ≠ 4 → t.size = 0 := fun h => by
    have h' := ht.resolve_right h
    rw [← bl_len, h']; rfl
   have hk0 : k ≠ 6 → ks = [] := fun h => hks.resolve_right h
   have hv0 : k < 5 → vs = [] := fun h => by
    rcases hvs with h' | h'
    · exact List.length_eq_zero_iff.1 h'
    · omega
   unfold textJ sizeJ
   split
   · rw [ht0 (by omega), hk0 (by omega), hv0 (by omega)]; simp [sizeL]
   split
   · rw [ht0 (by omega), hk0 (by omega), hv0 (by omega)]; split <;> simp [sizeL]
   split
   · rw [ht0 (by omega), hk0 (by omega), hv0 (by omega)]; simp only [List.length_nil, List.map_nil, List.sum_nil, sizeL]; omega
   split
   · rw [hk0 (by omega), hv0 (by omega)]; simp only [List.length_nil, List.map_nil, List.sum_nil, sizeL]; omega
   split
   · rw [ht0 (by omega), hk0 (by omega)]; simp only [List.length_append, List.length_cons, List.length_nil, List.map_nil, List.sum_nil]; omega
   · have h6 : k = 6 := by omega
     have hl6 : ks.length = vs.length := hlen.resolve_left (fun h => h h6)
     have hz := lens_zip ks (textL vs) (by rw [textL_length, hl6])
     rw [ht0 (by omega)]
     simp only [List.length_append, List.length_cons, List.length_nil]
     omega
theorem size_textL : ∀ vs : List J, formedL vs = true → sizeL vs ≤ 2 * lens (textL vs)
 | [], _ => Nat.le_refl _
 | v :: vs, hf => by
   simp only [formedL, Bool.and_eq_true] at hf
   have h1 := size_text v hf.1
   have h2 := size_textL vs hf.2
   simp only [lens, textL, List.map_cons, List.sum_cons, sizeL] at h2 ⊢
   omega
end
def zJ : J := .mk 0 false 0 ByteArray.empty [] []
def readW (T : ByteArray) : J × Int × Int :=
 if 1000000 < T.size then (zJ, 0, 3) else match readJ (bl T) with
 | .error a => (zJ, a, 4)
 | .ok j => if checkJ j = 0 then (j, 0, 0) else (zJ, 0, 3)
theorem read_size {f : Nat} {s r : Bs} {j : J} (h : valueF f 40 s = .ok (j, r)) : sizeJ j ≤ 34 * s.length := by
 have h1 := (read_ok f).1 40 s j r (by decide) h
 have h2 := size_text j h1.2.1
 have h3 := h1.2.2.2
 omega
end Go.Proofs.WM

namespace Go.Proofs.WV
open Go.RowKit Go.Proofs.KL Go.Proofs.WM
set_option maxRecDepth 100000
set_option linter.unusedSimpArgs false
set_option linter.unusedVariables false

def getJ : J → ByteArray → J × Int
 | .mk k b n t ks vs, key => if checkJ (.mk k b n t ks vs) ≠ 0 then (zJ, checkJ (.mk k b n t ks vs)) else if k ≠ 6 then (zJ, 2) else match idxK key ks with
   | none => (zJ, 5)
   | some i => (vs.getD i default, 0)
def GetEnd (W : World) (R : J × Int) (e : Ending) (w' : World) : Prop := (∃ v, e = .returned (.tuple #[v, .int .i64 R.2]) ∧ JX w' (fun b => W.heap.size ≤ b ∧ b < w'.heap.size) v R.1) ∧ Keeps Nob W w'
theorem results_ct {fn : Func} {p q : Tmp} {t : TypeId} (h : fn.results = #[.cell p t, .tmp q]) (tmps : Array Value) {P : Program} (w : World) {x y : Value} {a : Addr} (ha : tmps[p]?.getD undef = .pointer (some a)) (hp : (loadVar t a).run P w = .ok x w) (hq : tmps[q]?.getD undef = y) :
  (results fn tmps).run P w = .ok (.tuple #[x, y]) w := by
 have e : ∀ (a : Addr) (w : World), (asAddr (.pointer (some a))).run P w = .ok a w := fun _ _ => rfl
 simp [results, h, ha, hq, e, hp, Result.andThen]
theorem zval {W : World} {X : Nat → Prop} : JX W X (.agg #[.int .i64 0, .bool false, .int .i64 0, .string ByteArray.empty, .slice none 0 0, .slice none 0 0]) zJ := JX.close (strs_nil _ _) (js_nil _ _)
theorem check_formed {j : J} (h : checkJ j = 0) : formedJ j = true := by
 unfold checkJ at h
 by_cases hf : formedJ j = false
 · rw [if_pos hf] at h; cases h
 · cases hfj : formedJ j
   · exact absurd hfj hf
   · rfl
theorem formed_len {k : Int} {b : Bool} {n : Int} {t : ByteArray} {ks : List ByteArray} {vs : List J} (h : formedJ (.mk k b n t ks vs) = true) (hk : k = 6) : ks.length = vs.length := by
 unfold formedJ at h
 simp only [fineJ, Bool.and_eq_true, Bool.or_eq_true, decide_eq_true_eq, Bool.not_eq_true', decide_eq_false_iff_not] at h
 obtain ⟨⟨⟨⟨⟨⟨⟨⟨⟨⟨h1, h2⟩, hb⟩, hn⟩, ht⟩, hks⟩, hvs⟩, hr⟩, hlen⟩, hnd⟩, hfl⟩ := h
 rcases hlen with h | h
 · exact absurd hk h
 · exact h
set_option maxHeartbeats 8000000 in
theorem get30 {W : World} {X : Nat → Prop} {v : Value} {j : J} {key : ByteArray} (h : JX W X v j) (ht : Tab W W.heap.size) (hsz : sizeJ j ≤ 1000000000) : Calls Tryd.prog 30 #[v, .string key] W (GetEnd W (getJ j key)) := by
 obtain ⟨k, b, n, t, ks, vs, kv, vv, rfl, rfl, hks, hvs⟩ := h.open
 obtain ⟨kA, kc, rfl, -⟩ := id hks
 obtain ⟨vA, vc, u, rfl, hvc, hA, hv⟩ := id hvs
 have hkl : ks.length ≤ 1000000000 := by unfold sizeJ at hsz; omega
 have hvl : vs.length ≤ 1000000000 := by have := size_len vs; unfold sizeJ at hsz; omega
 obtain ⟨kl, hkn⟩ : ∃ x, ks.length = x := ⟨_, rfl⟩
 obtain ⟨nv, hnv⟩ : ∃ x, vs.length = x := ⟨_, rfl⟩
 obtain ⟨z, hz⟩ : ∃ z, checkJ (.mk k b n t ks vs) = z := ⟨_, rfl⟩
 have hg : getJ (.mk k b n t ks vs) key = if z ≠ 0 then (zJ, z) else if k ≠ 6 then (zJ, 2) else match idxK key ks with | none => (zJ, 5) | some i => (vs.getD i default, 0) := by rw [← hz]; rfl
 rw [hg]
 have Hsz := Lib.hid (show sizeJ (.mk k b n t ks vs) ≤ 1000000000 ∧ sizeJ (.mk k b n t ks vs) ≤ 10000000000 from ⟨hsz, by omega⟩)
 have Hz := Lib.hid hz
 have Hx := Lib.hid (h.keep (X' := fun b => b < W.heap.size) (Keeps.refl Nob W) (fun _ _ _ => id) (fun b h _ => h))
 have Hks := Lib.hid (hks.keep (X' := fun b => b < W.heap.size) (Keeps.refl Nob W) (fun _ _ _ => id) (fun b h _ => h))
 have HA := Lib.hid (show ∀ i, i < vs.length → ∃ b o, vA = some ⟨b, o, none⟩ ∧ b < W.heap.size ∧ Six W b (o + i * 6) (u i 0) (u i 1) (u i 2) (u i 3) (u i 4) (u i 5) from fun i hi => by
   obtain ⟨b, o, e, _, h6⟩ := hA i hi
   exact ⟨b, o, e, h6.lt, h6⟩)
 have HV := Lib.hid (show ∀ i, i < vs.length → JX W (fun b => b < W.heap.size) (.agg #[u i 0, u i 1, u i 2, u i 3, u i 4, u i 5]) (vs.getD i default) from fun i hi => (hv i hi).keep (Keeps.refl Nob W) (fun _ _ _ => id) (fun b h _ => h))
 have Hkn := Lib.hid (And.intro hkn hnv)
 rw [hkn] at Hks Hx
 rw [hnv] at Hx HA HV
 have hkli : (kl : Int) ≤ 1000000000 := by omega
 have hnvi : (nv : Int) ≤ 1000000000 := by omega
 have Hkl := Lib.hid (show kl ≤ 1000000000 by omega)
 have HT := Lib.hid ht
 obtain ⟨i25, hi25, hs25⟩ := info25
 have HI := Lib.hid (And.intro hi25 hs25)
 rw [hkn, hnv]
 clear hks hvs hA hv hsz h hi25 hs25 hkl hvl hvc hz hg ht
 by_cases hz0 : z = 0
 · subst hz0
   rw [if_neg (by simp)]
   by_cases hk6 : k = 6
   · rw [if_neg (by simp [hk6])]
     have Hlen := Lib.hid (formed_len (check_formed Hz.out) hk6)
     subst hk6
     rcases hid : idxK key ks with _ | i
     · have Hid2 := Lib.hid (show idxI (idxK key ks) = -1 by rw [hid]; rfl)
       clear hid hkn hnv
       go_enter Tryd.func30, Tryd.ntmps30
       go_wp2_with (first
        | ((with_reducible refine at_dst (N := 2) rfl ?_); go_must (refine ev_box (cs := #[.int .i64 6, .bool b, .int .i64 n, .string t, .slice kA kl kc, .slice vA nv vc]) rfl rfl rfl ?_; intro g1 w1 hg1 hl1 hb1 hk1)
           have Hb1 := Lib.hid hb1
           have Hg1 := Lib.hid (And.intro hg1 hl1)
           have HK := Lib.hid hk1
           (try clear c0 c1 c2 c3 c4 c5)
           have c0 := (blk_cell Hb1.out 0).trans rfl
           have c1 := (blk_cell Hb1.out 1).trans rfl
           have c2 := (blk_cell Hb1.out 2).trans rfl
           have c3 := (blk_cell Hb1.out 3).trans rfl
           have c4 := (blk_cell Hb1.out 4).trans rfl
           have c5 := (blk_cell Hb1.out 5).trans rfl
           clear hg1 hl1 hb1 hk1
           (try simp only [PU]))
        | ((with_reducible refine at_dst (N := 4) rfl ?_); go_must (refine ev_alloc rfl rfl zero25 rfl ?_; intro g2 w2 hg2 hl2 hb2 hk2)
           have Hb1 := Lib.hid (hk2.blk Hb1.out id)
           have Hb2 := Lib.hid hb2
           have Hg2 := Lib.hid (show W.heap.size ≤ g1 ∧ W.heap.size ≤ g2 ∧ g1 < g2 ∧ g2 < w2.heap.size from ⟨Hg1.out.1, Nat.le_trans HK.out.size hg2, Nat.lt_of_lt_of_le Hg1.out.2 hg2, hl2⟩)
           have HK := Lib.hid (HK.out.trans hk2 (fun _ _ h => h))
           (try clear c0 c1 c2 c3 c4 c5)
           have c0 := (blk_cell Hb1.out 0).trans rfl
           have c1 := (blk_cell Hb1.out 1).trans rfl
           have c2 := (blk_cell Hb1.out 2).trans rfl
           have c3 := (blk_cell Hb1.out 3).trans rfl
           have c4 := (blk_cell Hb1.out 4).trans rfl
           have c5 := (blk_cell Hb1.out 5).trans rfl
           clear hg2 hl2 hb2 hk2
           (try simp only [PU]))
        | (go_at_call 16; go_must (refine (check16 (Hx.out.after HK.out) (Tab.up (HT.out.keep HK.out.any) HK.out.size) Hsz.out.2).mono ?_; rintro e w3 ⟨rfl, hk3⟩; rw [Hz.out])
           have Hb1 := Lib.hid (hk3.blk Hb1.out id)
           have Hb2 := Lib.hid (hk3.blk Hb2.out id)
           have HK := Lib.hid (HK.out.trans hk3 (fun _ _ h => h))
           (try clear c0 c1 c2 c3 c4 c5)
           have c0 := (blk_cell Hb1.out 0).trans rfl
           have c1 := (blk_cell Hb1.out 1).trans rfl
           have c2 := (blk_cell Hb1.out 2).trans rfl
           have c3 := (blk_cell Hb1.out 3).trans rfl
           have c4 := (blk_cell Hb1.out 4).trans rfl
           have c5 := (blk_cell Hb1.out 5).trans rfl
           clear hk3
           (try simp only [PU]))
        | (go_at_call 58; go_must (refine (index58 (Hks.out.after HK.out) Hkl.out).mono ?_; rintro e w4 ⟨rfl, rfl⟩; rw [Hid2.out]); (try simp only [PU]))
        | ((with_reducible refine at_store (t := 25) (p := 4) rfl ?_); go_must (refine ev_store (cs' := #[.int .i64 0, .bool false, .int .i64 0, .string ByteArray.empty, .slice none 0 0, .slice none 0 0]) rfl rfl rfl rfl rfl rfl HI.out.1 HI.out.2 rfl Hb2.out (Nat.le_of_ble_eq_true rfl) rfl ?_; intro w9 hb9 hk9)
           have Hb9 := Lib.hid hb9
           have HK9 := Lib.hid (show Keeps Nob W w9 from HK.out.trans hk9 (fun i hi e => by have := Hg2.out; omega))
           clear hb9 hk9 c0 c1 c2 c3 c4 c5
           have d0 := (blk_cell Hb9.out 0).trans rfl
           have d1 := (blk_cell Hb9.out 1).trans rfl
           have d2 := (blk_cell Hb9.out 2).trans rfl
           have d3 := (blk_cell Hb9.out 3).trans rfl
           have d4 := (blk_cell Hb9.out 4).trans rfl
           have d5 := (blk_cell Hb9.out 5).trans rfl
           (try simp only [PU]))
       )
       refine bodyPost_ret (results_ct (x := .agg #[.int .i64 0, .bool false, .int .i64 0, .string ByteArray.empty, .slice none 0 0, .slice none 0 0]) rfl _ _ rfl (by go_simp) rfl) rfl ?_
       (try rw [show (match (none : Option Nat) with | none => (zJ, 5) | some i => (vs.getD i default, 0)) = ((zJ, 5) : J × Int) from rfl])
       exact ⟨⟨_, rfl, zval⟩, HK9.out⟩
     · have Hid2 := Lib.hid (show idxI (idxK key ks) = (i : Int) by rw [hid]; rfl)
       have hin : i < nv := by rw [← hnv, ← Hlen.out]; exact (idxK_some hid).1
       obtain ⟨bv, ov, rfl, -, h6⟩ := HA.out i hin
       have hjx := HV.out i hin
       have hsix := hjx.six
       have Hjs := Lib.hid (show sizeJ (vs.getD i default) ≤ 1000000000 by
        have := size_get (vs := vs) (i := i) (by omega)
        have h2 := Hsz.out.1
        unfold sizeJ at h2
        omega)
       have hini : (i : Int) < (nv : Int) := by omega
       generalize u i 0 = x0 at *
       generalize u i 1 = x1 at *
       generalize u i 2 = x2 at *
       generalize u i 3 = x3 at *
       generalize u i 4 = x4 at *
       generalize u i 5 = x5 at *
       obtain ⟨y0, y1, y2, y3, yA, yn, yc, yB, ym, yd, ⟨rfl, rfl, rfl⟩, rfl, rfl, rfl⟩ := hsix
       have H6 := Lib.hid h6
       have Hjx := Lib.hid hjx
       obtain ⟨vj, hvj⟩ : ∃ y, vs.getD i default = y := ⟨_, rfl⟩
       rw [hvj] at Hjx Hjs
       have Hvj := Lib.hid hvj
       clear hvj
       clear hid hkn hnv h6 hjx
       go_enter Tryd.func30, Tryd.ntmps30
       go_upto_region 9 with (first
        | ((with_reducible refine at_dst (N := 2) rfl ?_); go_must (refine ev_box (cs := #[.int .i64 6, .bool b, .int .i64 n, .string t, .slice kA kl kc, .slice (some ⟨bv, ov, none⟩) nv vc]) rfl rfl rfl ?_; intro g1 w1 hg1 hl1 hb1 hk1)
           have Hb1 := Lib.hid hb1
           have Hg1 := Lib.hid (And.intro hg1 hl1)
           have HK := Lib.hid hk1
           (try clear c0 c1 c2 c3 c4 c5)
           have c0 := (blk_cell Hb1.out 0).trans rfl
           have c1 := (blk_cell Hb1.out 1).trans rfl
           have c2 := (blk_cell Hb1.out 2).trans rfl
           have c3 := (blk_cell Hb1.out 3).trans rfl
           have c4 := (blk_cell Hb1.out 4).trans rfl
           have c5 := (blk_cell Hb1.out 5).trans rfl
           clear hg1 hl1 hb1 hk1
           (try simp only [PU]))
        | ((with_reducible refine at_dst (N := 4) rfl ?_); go_must (refine ev_alloc rfl rfl zero25 rfl ?_; intro g2 w2 hg2 hl2 hb2 hk2)
           have Hb1 := Lib.hid (hk2.blk Hb1.out id)
           have Hb2 := Lib.hid hb2
           have Hg2 := Lib.hid (show W.heap.size ≤ g1 ∧ W.heap.size ≤ g2 ∧ g1 < g2 ∧ g2 < w2.heap.size from ⟨Hg1.out.1, Nat.le_trans HK.out.size hg2, Nat.lt_of_lt_of_le Hg1.out.2 hg2, hl2⟩)
           have HK := Lib.hid (HK.out.trans hk2 (fun _ _ h => h))
           (try clear c0 c1 c2 c3 c4 c5)
           have c0 := (blk_cell Hb1.out 0).trans rfl
           have c1 := (blk_cell Hb1.out 1).trans rfl
           have c2 := (blk_cell Hb1.out 2).trans rfl
           have c3 := (blk_cell Hb1.out 3).trans rfl
           have c4 := (blk_cell Hb1.out 4).trans rfl
           have c5 := (blk_cell Hb1.out 5).trans rfl
           clear hg2 hl2 hb2 hk2
           (try simp only [PU]))
        | (go_at_call 16; go_must (refine (check16 (Hx.out.after HK.out) (Tab.up (HT.out.keep HK.out.any) HK.out.size) Hsz.out.2).mono ?_; rintro e w3 ⟨rfl, hk3⟩; rw [Hz.out])
           have Hb1 := Lib.hid (hk3.blk Hb1.out id)
           have Hb2 := Lib.hid (hk3.blk Hb2.out id)
           have HK := Lib.hid (HK.out.trans hk3 (fun _ _ h => h))
           (try clear c0 c1 c2 c3 c4 c5)
           have c0 := (blk_cell Hb1.out 0).trans rfl
           have c1 := (blk_cell Hb1.out 1).trans rfl
           have c2 := (blk_cell Hb1.out 2).trans rfl
           have c3 := (blk_cell Hb1.out 3).trans rfl
           have c4 := (blk_cell Hb1.out 4).trans rfl
           have c5 := (blk_cell Hb1.out 5).trans rfl
           clear hk3
           (try simp only [PU]))
        | (go_at_call 58; go_must (refine (index58 (Hks.out.after HK.out) Hkl.out).mono ?_; rintro e w4 ⟨rfl, rfl⟩; rw [Hid2.out]); (try simp only [PU]))
       )
       obtain ⟨⟨e0, e1, e2⟩, e3, e4, e5⟩ := H6.out.keep HK.out id
       clear c0 c1 c2 c3 c4
       go_wp2_with (first
        | (go_at_call 59; go_must (refine (own59 _ _ _ _ (Hjx.out.after HK.out) Hjs.out).mono ?_; rintro e w5 ⟨⟨v5, rfl, ho5⟩, hk5⟩; have hv5 := ho5.val; obtain ⟨jk, jb, jn, jt, jks, jvs, jkv, jvv, hjj, rfl, hjk, hjv⟩ := hv5.open; obtain ⟨jA, jc, rfl, -⟩ := hjk; obtain ⟨jB, jd, ju, rfl, -⟩ := hjv)
           have hsz4 := HK.out.size
           have HV5 := Lib.hid (hv5.keep (X' := fun b => W.heap.size ≤ b ∧ b < w5.heap.size ∧ b ≠ g2) (Keeps.refl Nob w5) (fun _ _ _ => id) (fun b hb hx => ⟨Nat.le_trans hsz4 hx.1, hb, fun e => by have h1 := blk_lt Hb2.out; have h2 := hx.1; omega⟩))
           have Hb2 := Lib.hid (hk5.blk Hb2.out id)
           have HK := Lib.hid (HK.out.trans hk5 (fun _ _ h => h))
           clear ho5 hv5 hk5 hjj hsz4 e0 e1 e2 e3 e4 e5 c5
           generalize jks.length = jkl at *
           generalize jvs.length = jvl at *
           (try simp only [PU]))
        | ((with_reducible refine at_store (t := 25) (p := 4) rfl ?_); go_must (refine ev_store (cs' := #[.int .i64 jk, .bool jb, .int .i64 jn, .string jt, .slice jA jkl jc, .slice jB jvl jd]) rfl rfl rfl rfl rfl rfl HI.out.1 HI.out.2 rfl Hb2.out (Nat.le_of_ble_eq_true rfl) rfl ?_; intro w9 hb9 hk9)
           have Hb9 := Lib.hid hb9
           have HV9 := Lib.hid (HV5.out.keep (X' := fun b => W.heap.size ≤ b ∧ b < w9.heap.size) hk9 (fun b _ hb e => hb.2.2 e) (fun b _ hb => ⟨hb.1, Nat.lt_of_lt_of_le hb.2.1 hk9.size⟩))
           have HK9 := Lib.hid (show Keeps Nob W w9 from HK.out.trans hk9 (fun i hi e => by have := Hg2.out; omega))
           clear hb9 hk9
           have d0 := (blk_cell Hb9.out 0).trans rfl
           have d1 := (blk_cell Hb9.out 1).trans rfl
           have d2 := (blk_cell Hb9.out 2).trans rfl
           have d3 := (blk_cell Hb9.out 3).trans rfl
           have d4 := (blk_cell Hb9.out 4).trans rfl
           have d5 := (blk_cell Hb9.out 5).trans rfl
           (try simp only [PU]))
       )
       refine bodyPost_ret (results_ct (x := .agg #[.int .i64 jk, .bool jb, .int .i64 jn, .string jt, .slice jA jkl jc, .slice jB jvl jd]) rfl _ _ rfl (by go_simp) rfl) rfl ?_
       exact ⟨⟨_, rfl, by show JX w9 _ _ (vs.getD i default); rw [Hvj.out]; exact HV9.out⟩, HK9.out⟩
   · rw [if_pos (by simpa using hk6)]
     have hk6b : (k == 6) = false := beq_eq_false_iff_ne.2 hk6
     clear hkn hnv
     go_enter Tryd.func30, Tryd.ntmps30
     go_wp2_with (first
      | ((with_reducible refine at_dst (N := 2) rfl ?_); go_must (refine ev_box (cs := #[.int .i64 k, .bool b, .int .i64 n, .string t, .slice kA kl kc, .slice vA nv vc]) rfl rfl rfl ?_; intro g1 w1 hg1 hl1 hb1 hk1)
         have Hb1 := Lib.hid hb1
         have Hg1 := Lib.hid (And.intro hg1 hl1)
         have HK := Lib.hid hk1
         (try clear c0 c1 c2 c3 c4 c5)
         have c0 := (blk_cell Hb1.out 0).trans rfl
         have c1 := (blk_cell Hb1.out 1).trans rfl
         have c2 := (blk_cell Hb1.out 2).trans rfl
         have c3 := (blk_cell Hb1.out 3).trans rfl
         have c4 := (blk_cell Hb1.out 4).trans rfl
         have c5 := (blk_cell Hb1.out 5).trans rfl
         clear hg1 hl1 hb1 hk1
         (try simp only [PU]))
      | ((with_reducible refine at_dst (N := 4) rfl ?_); go_must (refine ev_alloc rfl rfl zero25 rfl ?_; intro g2 w2 hg2 hl2 hb2 hk2)
         have Hb1 := Lib.hid (hk2.blk Hb1.out id)
         have Hb2 := Lib.hid hb2
         have Hg2 := Lib.hid (show W.heap.size ≤ g1 ∧ W.heap.size ≤ g2 ∧ g1 < g2 ∧ g2 < w2.heap.size from ⟨Hg1.out.1, Nat.le_trans HK.out.size hg2, Nat.lt_of_lt_of_le Hg1.out.2 hg2, hl2⟩)
         have HK := Lib.hid (HK.out.trans hk2 (fun _ _ h => h))
         (try clear c0 c1 c2 c3 c4 c5)
         have c0 := (blk_cell Hb1.out 0).trans rfl
         have c1 := (blk_cell Hb1.out 1).trans rfl
         have c2 := (blk_cell Hb1.out 2).trans rfl
         have c3 := (blk_cell Hb1.out 3).trans rfl
         have c4 := (blk_cell Hb1.out 4).trans rfl
         have c5 := (blk_cell Hb1.out 5).trans rfl
         clear hg2 hl2 hb2 hk2
         (try simp only [PU]))
      | (go_at_call 16; go_must (refine (check16 (Hx.out.after HK.out) (Tab.up (HT.out.keep HK.out.any) HK.out.size) Hsz.out.2).mono ?_; rintro e w3 ⟨rfl, hk3⟩; rw [Hz.out])
         have Hb1 := Lib.hid (hk3.blk Hb1.out id)
         have Hb2 := Lib.hid (hk3.blk Hb2.out id)
         have HK := Lib.hid (HK.out.trans hk3 (fun _ _ h => h))
         (try clear c0 c1 c2 c3 c4 c5)
         have c0 := (blk_cell Hb1.out 0).trans rfl
         have c1 := (blk_cell Hb1.out 1).trans rfl
         have c2 := (blk_cell Hb1.out 2).trans rfl
         have c3 := (blk_cell Hb1.out 3).trans rfl
         have c4 := (blk_cell Hb1.out 4).trans rfl
         have c5 := (blk_cell Hb1.out 5).trans rfl
         clear hk3
         (try simp only [PU]))
      | (go_at_call 58; go_must (refine (index58 (Hks.out.after HK.out) Hkl.out).mono ?_; rintro e w4 ⟨rfl, rfl⟩; rw [Hid2.out]); (try simp only [PU]))
      | ((with_reducible refine at_store (t := 25) (p := 4) rfl ?_); go_must (refine ev_store (cs' := #[.int .i64 0, .bool false, .int .i64 0, .string ByteArray.empty, .slice none 0 0, .slice none 0 0]) rfl rfl rfl rfl rfl rfl HI.out.1 HI.out.2 rfl Hb2.out (Nat.le_of_ble_eq_true rfl) rfl ?_; intro w9 hb9 hk9)
         have Hb9 := Lib.hid hb9
         have HK9 := Lib.hid (show Keeps Nob W w9 from HK.out.trans hk9 (fun i hi e => by have := Hg2.out; omega))
         clear hb9 hk9 c0 c1 c2 c3 c4 c5
         have d0 := (blk_cell Hb9.out 0).trans rfl
         have d1 := (blk_cell Hb9.out 1).trans rfl
         have d2 := (blk_cell Hb9.out 2).trans rfl
         have d3 := (blk_cell Hb9.out 3).trans rfl
         have d4 := (blk_cell Hb9.out 4).trans rfl
         have d5 := (blk_cell Hb9.out 5).trans rfl
         (try simp only [PU]))
     )
     refine bodyPost_ret (results_ct (x := .agg #[.int .i64 0, .bool false, .int .i64 0, .string ByteArray.empty, .slice none 0 0, .slice none 0 0]) rfl _ _ rfl (by go_simp) rfl) rfl ?_
     (try rw [show ((zJ, 2) : J × Int) = (zJ, 2) from rfl])
     exact ⟨⟨_, rfl, zval⟩, HK9.out⟩
 · rw [if_pos hz0]
   have hz0b : (z == 0) = false := beq_eq_false_iff_ne.2 hz0
   clear hkn hnv
   go_enter Tryd.func30, Tryd.ntmps30
   go_wp2_with (first
    | ((with_reducible refine at_dst (N := 2) rfl ?_); go_must (refine ev_box (cs := #[.int .i64 k, .bool b, .int .i64 n, .string t, .slice kA kl kc, .slice vA nv vc]) rfl rfl rfl ?_; intro g1 w1 hg1 hl1 hb1 hk1)
       have Hb1 := Lib.hid hb1
       have Hg1 := Lib.hid (And.intro hg1 hl1)
       have HK := Lib.hid hk1
       (try clear c0 c1 c2 c3 c4 c5)
       have c0 := (blk_cell Hb1.out 0).trans rfl
       have c1 := (blk_cell Hb1.out 1).trans rfl
       have c2 := (blk_cell Hb1.out 2).trans rfl
       have c3 := (blk_cell Hb1.out 3).trans rfl
       have c4 := (blk_cell Hb1.out 4).trans rfl
       have c5 := (blk_cell Hb1.out 5).trans rfl
       clear hg1 hl1 hb1 hk1
       (try simp only [PU]))
    | ((with_reducible refine at_dst (N := 4) rfl ?_); go_must (refine ev_alloc rfl rfl zero25 rfl ?_; intro g2 w2 hg2 hl2 hb2 hk2)
       have Hb1 := Lib.hid (hk2.blk Hb1.out id)
       have Hb2 := Lib.hid hb2
       have Hg2 := Lib.hid (show W.heap.size ≤ g1 ∧ W.heap.size ≤ g2 ∧ g1 < g2 ∧ g2 < w2.heap.size from ⟨Hg1.out.1, Nat.le_trans HK.out.size hg2, Nat.lt_of_lt_of_le Hg1.out.2 hg2, hl2⟩)
       have HK := Lib.hid (HK.out.trans hk2 (fun _ _ h => h))
       (try clear c0 c1 c2 c3 c4 c5)
       have c0 := (blk_cell Hb1.out 0).trans rfl
       have c1 := (blk_cell Hb1.out 1).trans rfl
       have c2 := (blk_cell Hb1.out 2).trans rfl
       have c3 := (blk_cell Hb1.out 3).trans rfl
       have c4 := (blk_cell Hb1.out 4).trans rfl
       have c5 := (blk_cell Hb1.out 5).trans rfl
       clear hg2 hl2 hb2 hk2
       (try simp only [PU]))
    | (go_at_call 16; go_must (refine (check16 (Hx.out.after HK.out) (Tab.up (HT.out.keep HK.out.any) HK.out.size) Hsz.out.2).mono ?_; rintro e w3 ⟨rfl, hk3⟩; rw [Hz.out])
       have Hb1 := Lib.hid (hk3.blk Hb1.out id)
       have Hb2 := Lib.hid (hk3.blk Hb2.out id)
       have HK := Lib.hid (HK.out.trans hk3 (fun _ _ h => h))
       (try clear c0 c1 c2 c3 c4 c5)
       have c0 := (blk_cell Hb1.out 0).trans rfl
       have c1 := (blk_cell Hb1.out 1).trans rfl
       have c2 := (blk_cell Hb1.out 2).trans rfl
       have c3 := (blk_cell Hb1.out 3).trans rfl
       have c4 := (blk_cell Hb1.out 4).trans rfl
       have c5 := (blk_cell Hb1.out 5).trans rfl
       clear hk3
       (try simp only [PU]))
    | (go_at_call 58; go_must (refine (index58 (Hks.out.after HK.out) Hkl.out).mono ?_; rintro e w4 ⟨rfl, rfl⟩; rw [Hid2.out]); (try simp only [PU]))
    | ((with_reducible refine at_store (t := 25) (p := 4) rfl ?_); go_must (refine ev_store (cs' := #[.int .i64 0, .bool false, .int .i64 0, .string ByteArray.empty, .slice none 0 0, .slice none 0 0]) rfl rfl rfl rfl rfl rfl HI.out.1 HI.out.2 rfl Hb2.out (Nat.le_of_ble_eq_true rfl) rfl ?_; intro w9 hb9 hk9)
       have Hb9 := Lib.hid hb9
       have HK9 := Lib.hid (show Keeps Nob W w9 from HK.out.trans hk9 (fun i hi e => by have := Hg2.out; omega))
       clear hb9 hk9 c0 c1 c2 c3 c4 c5
       have d0 := (blk_cell Hb9.out 0).trans rfl
       have d1 := (blk_cell Hb9.out 1).trans rfl
       have d2 := (blk_cell Hb9.out 2).trans rfl
       have d3 := (blk_cell Hb9.out 3).trans rfl
       have d4 := (blk_cell Hb9.out 4).trans rfl
       have d5 := (blk_cell Hb9.out 5).trans rfl
       (try simp only [PU]))
   )
   refine bodyPost_ret (results_ct (x := .agg #[.int .i64 0, .bool false, .int .i64 0, .string ByteArray.empty, .slice none 0 0, .slice none 0 0]) rfl _ _ rfl (by go_simp) rfl) rfl ?_
   (try rw [show ((zJ, z) : J × Int) = (zJ, z) from rfl])
   exact ⟨⟨_, rfl, zval⟩, HK9.out⟩
end Go.Proofs.WV

namespace Go.Proofs.KL
open Go.RowKit Go.Proofs.WM
set_option maxRecDepth 100000
set_option linter.unusedVariables false

theorem run_conv_bs {P : Program} {W : World} {src dst : TypeId} (hs : P.underlying src = some (.slice 5)) (h5 : P.underlying 5 = some (.int .u8)) (hd : P.underlying dst = some .string)
  {A : Option Addr} {n c : Nat} {bs : Bs} {X : Nat → Prop} (hb : BytesX W X (.slice A n c) bs) : (convert src dst (.slice A n c)).run P W = .ok (.string (mkB bs)) W := by
 have hr := run_convert_bytes_string (P := P) W src dst 5 A n c hs h5 hd
 rw [hr]
 have hn : n = bs.length := by obtain ⟨_, _, e, _⟩ := hb; injection e
 cases A with
 | none =>
   have : bs = [] := by
    cases bs with
    | nil => rfl
    | cons b bs => obtain ⟨_, _, e2, _, hx⟩ := hb; obtain ⟨b', o', e, _⟩ := hx 0 (by simp); injection e2 with e2 _ _; rw [← e2] at e; cases e
   subst this
   rfl
 | some ad =>
   have hl : (loadCells ad n).run P W = .ok ((bs.map fun c => (c.toNat : Int)).map (Value.int .u8)).toArray W := by
    have e : ((bs.map fun c => (c.toNat : Int)).map (Value.int .u8)) = bs.map byteV := by rw [List.map_map]; rfl
    rw [e]
    rcases Nat.eq_zero_or_pos n with h0 | h0
    · have : bs = [] := List.eq_nil_of_length_eq_zero (by omega)
      subst this
      rw [h0]
      simp [loadCells, loadCellsFrom]
    · obtain ⟨ad', e', hnw⟩ := hb.news h0
      injection e' with e'
      subst e'
      have := run_loadCells_list (P := P) W ad (bs.map byteV) hnw
      rw [List.length_map, ← hn] at this
      exact this
   rw [run_bytesToString W ad n c _ hl, fold_push]
   rfl
def subA (A : Option Addr) (l c : Nat) : Option Addr := if c = l then A else A.map (·.add l)
theorem run_sub {P : Program} {t : TypeId} (ht : ByteT P t) (A : Option Addr) (n c l h : Nat) (hlh : l ≤ h) (hh : h ≤ c) (w : World) :
  (Instr.slice t (.slice A n c) (some (.int .i64 l)) (some (.int .i64 h)) none).run P w = .ok (.slice (subA A l c) (h - l) (c - l)) w := by
 obtain ⟨i, hi, hz⟩ := Option.map_eq_some_iff.1 ht.info
 simp only [Prod.mk.injEq] at hz
 have e1 : (0 : Int) ≤ (l : Int) ∧ (l : Int) ≤ (h : Int) := by omega
 have e2 : (0 : Int) ≤ (h : Int) ∧ (h : Int) ≤ (c : Int) := by omega
 simp [Instr.slice, run_underlying ht.under, Instr.sliceBounds, Instr.sliceBound, asIntOf, e1, e2, hlh, hh, sizeOf, typeInfo, hi, hz.2.1, subA]
theorem run_sub_h {P : Program} {t : TypeId} (ht : ByteT P t) (A : Option Addr) (n c h : Nat) (hh : h ≤ c) (w : World) :
  (Instr.slice t (.slice A n c) none (some (.int .i64 h)) none).run P w = .ok (.slice (subA A 0 c) h c) w := by
 obtain ⟨i, hi, hz⟩ := Option.map_eq_some_iff.1 ht.info
 simp only [Prod.mk.injEq] at hz
 have e2 : (0 : Int) ≤ (h : Int) ∧ (h : Int) ≤ (c : Int) := by omega
 simp [Instr.slice, run_underlying ht.under, Instr.sliceBounds, Instr.sliceBound, asIntOf, e2, hh, sizeOf, typeInfo, hi, subA]
theorem run_sub_l {P : Program} {t : TypeId} (ht : ByteT P t) (A : Option Addr) (n c l : Nat) (hl : l ≤ n) (w : World) :
  (Instr.slice t (.slice A n c) (some (.int .i64 l)) none none).run P w = .ok (.slice (subA A l c) (n - l) (c - l)) w := by
 obtain ⟨i, hi, hz⟩ := Option.map_eq_some_iff.1 ht.info
 simp only [Prod.mk.injEq] at hz
 have e2 : (0 : Int) ≤ (l : Int) ∧ (l : Int) ≤ (n : Int) := by omega
 simp [Instr.slice, run_underlying ht.under, Instr.sliceBounds, Instr.sliceBound, asIntOf, e2, hl, sizeOf, typeInfo, hi, hz.2.1, subA]
theorem BytesX.sub {W : World} {X : Nat → Prop} {A : Option Addr} {n c : Nat} {s : Bs} (hb : BytesX W X (.slice A n c) s) {l h : Nat} (hlh : l ≤ h) (hh : h ≤ n) : BytesX W X (.slice (subA A l c) (h - l) (c - l)) ((s.drop l).take (h - l)) := by
 obtain ⟨A', c', e, hc, hx⟩ := hb
 injection e with e1 e2 e3
 subst e1; subst e2; subst e3
 have hlen : ((s.drop l).take (h - l)).length = h - l := by rw [List.length_take, List.length_drop]; omega
 refine ⟨subA A l c, c - l, by rw [hlen], by omega, fun i hi => ?_⟩
 rw [hlen] at hi
 obtain ⟨b, o, rfl, hX, hcell⟩ := hx (l + i) (by omega)
 have hg : ((s.drop l).take (h - l)).getD i 0 = s.getD (l + i) 0 := by
  rw [List.getD_eq_getElem?_getD, List.getD_eq_getElem?_getD, List.getElem?_take, if_pos hi, List.getElem?_drop]
 rw [hg]
 refine ⟨b, o + l, ?_, hX, by rw [Nat.add_assoc]; exact hcell⟩
 unfold subA
 rw [if_neg (by omega)]
 simp [Addr.add]
theorem BytesX.len {W : World} {X : Nat → Prop} {A : Option Addr} {n c : Nat} {s : Bs} (hb : BytesX W X (.slice A n c) s) : n = s.length ∧ n ≤ c := by
 obtain ⟨A', c', e, hc, hx⟩ := hb
 injection e with e1 e2 e3
 subst e2; subst e3
 exact ⟨rfl, hc⟩
theorem BytesX.at {W : World} {X : Nat → Prop} {A : Option Addr} {n c : Nat} {s : Bs} (hb : BytesX W X (.slice A n c) s) (h0 : 0 < n) : ∃ b o, A = some ⟨b, o, none⟩ ∧ X b ∧ ∀ i, i < n → W.cell? ⟨b, o + i, none⟩ = some (byteV (s.getD i 0)) := by
 obtain ⟨A', c', e, hc, hx⟩ := hb
 injection e with e1 e2 e3
 subst e1; subst e2; subst e3
 obtain ⟨b, o, rfl, hX, -⟩ := hx 0 h0
 refine ⟨b, o, rfl, hX, fun i hi => ?_⟩
 obtain ⟨b', o', e, -, hcell⟩ := hx i hi
 injection e with e
 injection e with e1 e2
 subst e1; subst e2
 exact hcell
theorem BytesX.nums {W : World} {X : Nat → Prop} {A : Option Addr} {n c : Nat} {s : Bs} (hb : BytesX W X (.slice A n c) s) : Lib.BytesIn W A n (s.map fun c => (c.toNat : Int)) := fun h0 => by
 obtain ⟨b, o, e, -, hx⟩ := hb.at h0
 obtain ⟨hn, -⟩ := hb.len
 refine ⟨b, o, e, fun i hi => ?_⟩
 rw [hx i hi, List.getD_eq_getElem?_getD, List.getD_eq_getElem?_getD, List.getElem?_map, List.getElem?_eq_getElem (by omega)]
 rfl
theorem bytesOf_nums (s : Bs) : Lib.bytesOf (s.map fun c => (c.toNat : Int)) = s := by
 unfold Lib.bytesOf
 rw [List.map_map]
 refine (List.map_congr_left (g := id) (fun c _ => ?_)).trans (List.map_id s)
 simp
section
variable {P : Program} {ops : Array Oper} {rest : List Oper} {o : Oper} {a : Act} {Q : Exit → Act → World → Prop}
theorem ev_ung {W : World} {d : Option Tmp} {op : Op} {ty : TypeId} {pos : String} {af : Array Edge} {gd : Option (Nat × Bool)} (hw : Region.wanted ⟨d, op, ty, pos, af, gd⟩ (yielded ops a.tmps) = true)
  (h : wpList P ops Q (⟨d, op, ty, pos, af, none⟩ :: rest) a W) : wpList P ops Q (⟨d, op, ty, pos, af, gd⟩ :: rest) a W := by
 unfold wpList at h ⊢
 rw [if_pos hw]
 rw [if_pos (by simp [Region.wanted])] at h
 exact h
theorem run_sliceAt_b {t : TypeId} (ht : ByteT P t) (x : Value) (lo hi mx : Option Value) (w : World) : (Instr.sliceAt t x lo hi mx).run P w = (Instr.slice t x lo hi mx).run P w := by
 simp [Instr.sliceAt, run_underlying ht.under]
theorem freeze1_keeps (W : World) (g k : Nat) : Keeps (· = g) W (W.freeze ⟨g, k, none⟩ 1) := by
 unfold World.freeze
 rw [if_neg (by decide)]
 exact ⟨rfl, rfl, rfl, by simp, fun k _ hn => by simp only [Array.getElem?_modify]; rw [if_neg (fun e => hn e.symm)]⟩
theorem ev_conv_same {W : World} (hgd : o.guard = none) {x : Operand} {t : TypeId} (ho : o.op = .convert t t x) (ht : ByteT P t) (h5 : P.underlying 5 = some (.int .u8)) {g n c : Nat} {cs : Array Value} (hx : a.eval x = .slice (some ⟨g, 0, none⟩) n c) (hg : W.heap[g]? = some (.cells cs 5 (0, 0)))
  (h : ∀ w1, w1.heap[g]? = some (.cells cs 5 (cs.size, cs.size + 1)) → Keeps (· = g) W w1 → wpList P ops Q rest (a.put o.dst (.slice (some ⟨g, 0, none⟩) n c)) w1) : wpList P ops Q (o :: rest) a W := by
 have hsh : W.shape? g = some (5, cs.size) := by simp [World.shape?, hg]
 refine ev_run hgd (v := .slice (some ⟨g, 0, none⟩) n c) (w1 := W.freeze ⟨g, cs.size, none⟩ 1) ?_ (h _ ?_ (freeze1_keeps W g _))
 · simp [execOp, ho, hx, convert, run_underlying ht.under, run_underlying h5, markStringish, hsh]
 · have hs := (Array.getElem?_eq_some_iff.1 hg).1
   simp [World.freeze, Array.getElem?_modify, hg]
theorem ev_sub {W : World} (hgd : o.guard = none) {x lo hi : Operand} {t : TypeId} (ho : o.op = .slice t x (some lo) (some hi) none) (ht : ByteT P t) {A : Option Addr} {n c l h : Nat} (hx : a.eval x = .slice A n c) (hlo : a.eval lo = .int .i64 l) (hhi : a.eval hi = .int .i64 h) (hlh : l ≤ h) (hh : h ≤ c)
  (k : wpList P ops Q rest (a.put o.dst (.slice (subA A l c) (h - l) (c - l))) W) : wpList P ops Q (o :: rest) a W := by
 refine ev_run hgd (v := .slice (subA A l c) (h - l) (c - l)) (w1 := W) ?_ k
 simp [execOp, ho, hx, hlo, hhi, run_sliceAt_b ht, run_sub ht A n c l h hlh hh]
theorem ev_sub_h {W : World} (hgd : o.guard = none) {x hi : Operand} {t : TypeId} (ho : o.op = .slice t x none (some hi) none) (ht : ByteT P t) {A : Option Addr} {n c h : Nat} (hx : a.eval x = .slice A n c) (hhi : a.eval hi = .int .i64 h) (hh : h ≤ c)
  (k : wpList P ops Q rest (a.put o.dst (.slice (subA A 0 c) h c)) W) : wpList P ops Q (o :: rest) a W := by
 refine ev_run hgd (v := .slice (subA A 0 c) h c) (w1 := W) ?_ k
 simp [execOp, ho, hx, hhi, run_sliceAt_b ht, run_sub_h ht A n c h hh]
theorem ev_sub_l {W : World} (hgd : o.guard = none) {x lo : Operand} {t : TypeId} (ho : o.op = .slice t x (some lo) none none) (ht : ByteT P t) {A : Option Addr} {n c l : Nat} (hx : a.eval x = .slice A n c) (hlo : a.eval lo = .int .i64 l) (hl : l ≤ n)
  (k : wpList P ops Q rest (a.put o.dst (.slice (subA A l c) (n - l) (c - l))) W) : wpList P ops Q (o :: rest) a W := by
 refine ev_run hgd (v := .slice (subA A l c) (n - l) (c - l)) (w1 := W) ?_ k
 simp [execOp, ho, hx, hlo, run_sliceAt_b ht, run_sub_l ht A n c l hl]
end
end Go.Proofs.KL

namespace Go.Proofs.WM

mutual
def sizeS : J → Nat → Nat
 | .mk _ _ _ t ks vs, left => goS (1 + t.size + ks.length + (ks.map ByteArray.size).sum) left vs
def goS : Nat → Nat → List J → Nat
 | n, _, [] => n
 | n, left, v :: r => if left < n then n else goS (n + sizeS v (left - n)) left r
end
mutual
theorem sizeS_le : ∀ (j : J) (left : Nat), sizeS j left ≤ sizeJ j ∧ (sizeS j left ≤ left → sizeS j left = sizeJ j)
 | .mk k b n t ks vs, left => by
   have h := goS_le vs (1 + t.size + ks.length + (ks.map ByteArray.size).sum) left
   unfold sizeS sizeJ
   exact h
theorem goS_le : ∀ (vs : List J) (n left : Nat), goS n left vs ≤ n + sizeL vs ∧ (goS n left vs ≤ left → goS n left vs = n + sizeL vs)
 | [], n, left => by unfold goS sizeL; exact ⟨by omega, fun _ => by omega⟩
 | v :: r, n, left => by
   unfold goS sizeL
   by_cases h : left < n
   · rw [if_pos h]; exact ⟨by omega, fun h' => by omega⟩
   · rw [if_neg h]
     have h1 := sizeS_le v (left - n)
     have h2 := goS_le r (n + sizeS v (left - n)) left
     have h3 : n + sizeS v (left - n) ≤ goS (n + sizeS v (left - n)) left r := goS_ge r _ _
     refine ⟨by omega, fun h' => ?_⟩
     have := h2.2 h'
     have := h1.2 (by omega)
     omega
theorem goS_ge : ∀ (vs : List J) (n left : Nat), n ≤ goS n left vs
 | [], n, left => by unfold goS; exact Nat.le_refl _
 | v :: r, n, left => by
   unfold goS
   split
   · exact Nat.le_refl _
   · have := goS_ge r (n + sizeS v (left - n)) left
     omega
end
theorem sizeS_iff (j : J) (left : Nat) : left < sizeS j left ↔ left < sizeJ j := by
 have h := sizeS_le j left
 constructor
 · intro h'; omega
 · intro h'
   rcases Nat.lt_or_ge left (sizeS j left) with h2 | h2
   · exact h2
   · have := h.2 h2; omega
theorem sum_take (ks : List ByteArray) (j : Nat) (hj : j < ks.length) : ((ks.take (j + 1)).map ByteArray.size).sum = ((ks.take j).map ByteArray.size).sum + (ks.getD j ByteArray.empty).size := by
 rw [List.take_succ_eq_append_getElem hj, List.map_append, List.sum_append, List.getD_eq_getElem?_getD, List.getElem?_eq_getElem hj]
 simp
theorem sum_take_le (ks : List ByteArray) (j : Nat) : ((ks.take j).map ByteArray.size).sum ≤ (ks.map ByteArray.size).sum := by
 have : (ks.map ByteArray.size).sum = ((ks.take j).map ByteArray.size).sum + ((ks.drop j).map ByteArray.size).sum := by
  rw [← List.sum_append, ← List.map_append, List.take_append_drop]
 omega
theorem dropJ {vs : List J} {j : Nat} (hj : j < vs.length) : vs.drop j = vs.getD j default :: vs.drop (j + 1) := by
 rw [List.drop_eq_getElem_cons hj, List.getD_eq_getElem?_getD, List.getElem?_eq_getElem hj]
 rfl
end Go.Proofs.WM

namespace Go.Proofs.WV
open Go.RowKit Go.Proofs.KL Go.Proofs.WM
set_option maxRecDepth 100000
set_option linter.unusedSimpArgs false
set_option linter.unusedVariables false

def headC (k : Int) (b : Bool) (n : Int) (t : ByteArray) (lk lv : Nat) : Bool := decide (1 ≤ k ∧ k ≤ 6) && bareC k b n t lk lv && decide (-9007199254740991 ≤ n ∧ n ≤ 9007199254740991) && (!(k == 6) || !((lk : Int) != (lv : Int)))
theorem fine_head (k : Int) (b : Bool) (n : Int) (t : ByteArray) (ks : List ByteArray) (nv : Nat) : fineJ k b n t ks nv = (headC k b n t ks.length nv && decide ks.Nodup) := by
 rw [fine_eq]
 unfold headC bareC
 by_cases hk : 1 ≤ k ∧ k ≤ 6
 · have h5 : decide (5 ≤ k) = ((k == 6) || (k == 5)) := by
    rw [Bool.eq_iff_iff]; simp; omega
   have ht : t.toList.isEmpty = decide (t.toList = []) := by rw [Bool.eq_iff_iff]; simp
   rw [h5, ht, decide_eq_true hk]
   generalize (k == 2) = B2
   generalize (k == 3) = B3
   generalize (k == 4) = B4
   generalize (k == 5) = B5
   generalize (k == 6) = B6
   generalize (n == 0) = N0
   generalize decide (t.toList = []) = T0
   generalize ((ks.length : Int) == 0) = K0
   generalize ((nv : Int) == 0) = V0
   generalize ((ks.length : Int) != (nv : Int)) = KV
   generalize decide (-9007199254740991 ≤ n ∧ n ≤ 9007199254740991) = RG
   generalize decide ks.Nodup = ND
   cases ND <;> cases RG <;> cases b <;> cases N0 <;> cases T0 <;> simp <;> (cases K0 <;> cases V0 <;> cases KV <;> cases B2 <;> cases B3 <;> cases B4 <;> cases B5 <;> cases B6 <;> rfl)
 · rw [decide_eq_false hk]
   simp
theorem subA_zero (A : Option Addr) (c : Nat) : subA A 0 c = A := by
 unfold subA
 split
 · rfl
 · cases A with
   | none => rfl
   | some a => simp [Addr.add]
theorem run_head {P : Program} {t e : TypeId} (hu : P.underlying t = some (.slice e)) {i : TypeInfo} (hi : P.info? e = some i) (hs : i.size = 1) (A : Option Addr) (n c h : Nat) (hh : h ≤ c) (w : World) :
  (Instr.slice t (.slice A n c) none (some (.int .i64 h)) none).run P w = .ok (.slice A h c) w := by
 have e2 : (0 : Int) ≤ (h : Int) ∧ (h : Int) ≤ (c : Int) := by omega
 have e3 := subA_zero A c
 unfold subA at e3
 simp [Instr.slice, run_underlying hu, Instr.sliceBounds, Instr.sliceBound, asIntOf, e2, hh, sizeOf, typeInfo, hi, hs]
 cases A <;> simp [Addr.add]
theorem ev_head {P : Program} {ops : Array Oper} {rest : List Oper} {o : Oper} {a : Act} {Q : Exit → Act → World → Prop} {W : World} (hgd : o.guard = none) {x hi : Operand} {t e : TypeId} (ho : o.op = .slice t x none (some hi) none) (hu : P.underlying t = some (.slice e)) {i : TypeInfo} (hinf : P.info? e = some i) (hs : i.size = 1) {A : Option Addr} {n c h : Nat} (hx : a.eval x = .slice A n c) (hhi : a.eval hi = .int .i64 h) (hh : h ≤ c)
  (k : wpList P ops Q rest (a.put o.dst (.slice A h c)) W) : wpList P ops Q (o :: rest) a W := by
 refine ev_run hgd (v := .slice A h c) (w1 := W) ?_ k
 have e1 : ∀ (x : Value) (lo hi mx : Option Value) (w : World), (Instr.sliceAt t x lo hi mx).run P w = (Instr.slice t x lo hi mx).run P w := fun x lo hi mx w => by simp [Instr.sliceAt, run_underlying hu]
 simp [execOp, ho, hx, hhi, e1, run_head hu hinf hs A n c h hh]
theorem info9s : ∃ i, Tryd.prog.info? 9 = some i ∧ i.size = 1 := by
 have h : (Tryd.prog.info? 9).map (·.size) = some 1 := by kernel_rfl
 obtain ⟨i, hi, hs⟩ := Option.map_eq_some_iff.1 h
 exact ⟨i, hi, hs⟩
theorem formedL_drop {vs : List J} {i : Nat} (hi : i < vs.length) : formedL (vs.drop i) = (formedJ (vs.getD i default) && formedL (vs.drop (i + 1))) := by
 rw [dropJ hi]
 rfl
set_option maxHeartbeats 8000000 in
theorem formed35 {w : World} {X : Nat → Prop} {v : Value} {j : J} (h : JX w X v j) : ∀ W, Keeps Nob w W → sizeJ j ≤ 1000000000000 → Calls Tryd.prog 35 #[v] W fun e w' => e = .returned (.bool (formedJ j)) ∧ Keeps Nob W w' := by
 induction h with
 | mk k b n t ks vs kv A c u h1 hc hA hv ih =>
   intro W hW hb
   have hsz : vs.length ≤ 1000000000000 ∧ ks.length ≤ 1000000000000 ∧ sizeL vs ≤ 1000000000000 := by have h1 := size_len vs; unfold sizeJ at hb; omega
   have h61 := fun W' (hk : Keeps Nob w W') => bare_any (k := k) (b := b) (n := n) (t := t) (h1.after hk) (show JsX W' X (.slice A vs.length c) vs from JsX.after ⟨A, c, u, rfl, hc, hA, hv⟩ hk)
   obtain ⟨kA, kc, rfl, hkc, hkx⟩ := h1
   obtain ⟨i25, hi25, hs25⟩ := info25
   obtain ⟨i9, hi9, hs9⟩ := info9s
   have HI := Lib.hid (And.intro (And.intro hi25 hs25) (And.intro hi9 hs9))
   have Hkx := Lib.hid hkx
   have HA := Lib.hid hA
   have HV := Lib.hid hv
   have IH := Lib.hid ih
   have HW := Lib.hid hW
   have Hsz := Lib.hid hsz
   obtain ⟨R, hR⟩ : ∃ x, formedJ (.mk k b n t ks vs) = x := ⟨_, rfl⟩
   rw [hR]
   have hR2 : (headC k b n t ks.length vs.length && decide ks.Nodup && formedL vs) = R := by
    rw [← hR]
    unfold formedJ
    rw [fine_head]
   obtain ⟨nk, hnk⟩ : ∃ x, ks.length = x := ⟨_, rfl⟩
   obtain ⟨nv, hnv⟩ : ∃ x, vs.length = x := ⟨_, rfl⟩
   have Hnk := Lib.hid hnk
   have Hnv := Lib.hid hnv
   rw [hnk] at hkc hsz h61 hR2 ⊢
   rw [hnv] at hsz h61 hR2 hc ⊢
   have HR := Lib.hid hR2
   have H61 := Lib.hid h61
   obtain ⟨bc, hbc⟩ : ∃ x, bareC k b n t nk nv = x := ⟨_, rfl⟩
   have Hbc := Lib.hid hbc
   have hnkI : (nk : Int) ≤ 1000000000000 := by omega
   have hnvI : (nv : Int) ≤ 1000000000000 := by omega
   clear h61 hkx hW hnk hnv hA hv ih hb hR hR2 hi25 hs25 hi9 hs9 hsz hbc
   by_cases c1 : k < 1
   · have c1' : ¬ (1 ≤ k ∧ k ≤ 6) := by omega
     have HRR := Lib.hid (show R = false by rw [← HR.out]; unfold headC; simp [c1'])
     go_enter Tryd.func35, Tryd.ntmps35
     go_wp2_with (first
      | ((with_reducible refine at_dst (N := 1) rfl ?_); go_must (refine ev_box (cs := #[.int .i64 k, .bool b, .int .i64 n, .string t, .slice kA nk kc, .slice A nv c]) rfl rfl rfl ?_; intro g1 w1 hg1 hl1 hb1 hk1)
         have v0 := (blk_cell hb1 0).trans rfl
         have v1 := (blk_cell hb1 1).trans rfl
         have v2 := (blk_cell hb1 2).trans rfl
         have v3 := (blk_cell hb1 3).trans rfl
         have v4 := (blk_cell hb1 4).trans rfl
         have v5 := (blk_cell hb1 5).trans rfl
         have HK := Lib.hid hk1
         have Hb1 := Lib.hid hb1
         clear hb1 hk1
         (try simp only [PU]))
      | (go_at_call 61; go_must (refine (H61.out _ (HW.out.trans HK.out (fun _ _ h => h))).mono ?_; rintro e w2 ⟨rfl, hk2⟩; rw [Hbc.out])
         have Hb1 := Lib.hid (hk2.blk Hb1.out id)
         have HK := Lib.hid (HK.out.trans hk2 (fun _ _ h => h))
         clear hk2 v0 v1 v2 v3 v4 v5
         have v0 := (blk_cell Hb1.out 0).trans rfl
         have v1 := (blk_cell Hb1.out 1).trans rfl
         have v2 := (blk_cell Hb1.out 2).trans rfl
         have v3 := (blk_cell Hb1.out 3).trans rfl
         have v4 := (blk_cell Hb1.out 4).trans rfl
         have v5 := (blk_cell Hb1.out 5).trans rfl
         (try simp only [PU]))
     )
     go_ret
     rw [HRR.out]
     exact ⟨rfl, HK.out⟩
   by_cases c2 : 6 < k
   · have c2' : ¬ (1 ≤ k ∧ k ≤ 6) := by omega
     have HRR := Lib.hid (show R = false by rw [← HR.out]; unfold headC; simp [c2'])
     go_enter Tryd.func35, Tryd.ntmps35
     go_wp2_with (first
      | ((with_reducible refine at_dst (N := 1) rfl ?_); go_must (refine ev_box (cs := #[.int .i64 k, .bool b, .int .i64 n, .string t, .slice kA nk kc, .slice A nv c]) rfl rfl rfl ?_; intro g1 w1 hg1 hl1 hb1 hk1)
         have v0 := (blk_cell hb1 0).trans rfl
         have v1 := (blk_cell hb1 1).trans rfl
         have v2 := (blk_cell hb1 2).trans rfl
         have v3 := (blk_cell hb1 3).trans rfl
         have v4 := (blk_cell hb1 4).trans rfl
         have v5 := (blk_cell hb1 5).trans rfl
         have HK := Lib.hid hk1
         have Hb1 := Lib.hid hb1
         clear hb1 hk1
         (try simp only [PU]))
      | (go_at_call 61; go_must (refine (H61.out _ (HW.out.trans HK.out (fun _ _ h => h))).mono ?_; rintro e w2 ⟨rfl, hk2⟩; rw [Hbc.out])
         have Hb1 := Lib.hid (hk2.blk Hb1.out id)
         have HK := Lib.hid (HK.out.trans hk2 (fun _ _ h => h))
         clear hk2 v0 v1 v2 v3 v4 v5
         have v0 := (blk_cell Hb1.out 0).trans rfl
         have v1 := (blk_cell Hb1.out 1).trans rfl
         have v2 := (blk_cell Hb1.out 2).trans rfl
         have v3 := (blk_cell Hb1.out 3).trans rfl
         have v4 := (blk_cell Hb1.out 4).trans rfl
         have v5 := (blk_cell Hb1.out 5).trans rfl
         (try simp only [PU]))
     )
     go_ret
     rw [HRR.out]
     exact ⟨rfl, HK.out⟩
   cases bc
   · have c3 := Hbc.out
     have HRR := Lib.hid (show R = false by rw [← HR.out]; unfold headC; simp [c3])
     clear c3
     go_enter Tryd.func35, Tryd.ntmps35
     go_wp2_with (first
      | ((with_reducible refine at_dst (N := 1) rfl ?_); go_must (refine ev_box (cs := #[.int .i64 k, .bool b, .int .i64 n, .string t, .slice kA nk kc, .slice A nv c]) rfl rfl rfl ?_; intro g1 w1 hg1 hl1 hb1 hk1)
         have v0 := (blk_cell hb1 0).trans rfl
         have v1 := (blk_cell hb1 1).trans rfl
         have v2 := (blk_cell hb1 2).trans rfl
         have v3 := (blk_cell hb1 3).trans rfl
         have v4 := (blk_cell hb1 4).trans rfl
         have v5 := (blk_cell hb1 5).trans rfl
         have HK := Lib.hid hk1
         have Hb1 := Lib.hid hb1
         clear hb1 hk1
         (try simp only [PU]))
      | (go_at_call 61; go_must (refine (H61.out _ (HW.out.trans HK.out (fun _ _ h => h))).mono ?_; rintro e w2 ⟨rfl, hk2⟩; rw [Hbc.out])
         have Hb1 := Lib.hid (hk2.blk Hb1.out id)
         have HK := Lib.hid (HK.out.trans hk2 (fun _ _ h => h))
         clear hk2 v0 v1 v2 v3 v4 v5
         have v0 := (blk_cell Hb1.out 0).trans rfl
         have v1 := (blk_cell Hb1.out 1).trans rfl
         have v2 := (blk_cell Hb1.out 2).trans rfl
         have v3 := (blk_cell Hb1.out 3).trans rfl
         have v4 := (blk_cell Hb1.out 4).trans rfl
         have v5 := (blk_cell Hb1.out 5).trans rfl
         (try simp only [PU]))
     )
     go_ret
     rw [HRR.out]
     exact ⟨rfl, HK.out⟩
   by_cases c4 : n < -9007199254740991
   · have c4' : ¬ (-9007199254740991 ≤ n ∧ n ≤ 9007199254740991) := by omega
     have HRR := Lib.hid (show R = false by rw [← HR.out]; unfold headC; simp [c4'])
     go_enter Tryd.func35, Tryd.ntmps35
     go_wp2_with (first
      | ((with_reducible refine at_dst (N := 1) rfl ?_); go_must (refine ev_box (cs := #[.int .i64 k, .bool b, .int .i64 n, .string t, .slice kA nk kc, .slice A nv c]) rfl rfl rfl ?_; intro g1 w1 hg1 hl1 hb1 hk1)
         have v0 := (blk_cell hb1 0).trans rfl
         have v1 := (blk_cell hb1 1).trans rfl
         have v2 := (blk_cell hb1 2).trans rfl
         have v3 := (blk_cell hb1 3).trans rfl
         have v4 := (blk_cell hb1 4).trans rfl
         have v5 := (blk_cell hb1 5).trans rfl
         have HK := Lib.hid hk1
         have Hb1 := Lib.hid hb1
         clear hb1 hk1
         (try simp only [PU]))
      | (go_at_call 61; go_must (refine (H61.out _ (HW.out.trans HK.out (fun _ _ h => h))).mono ?_; rintro e w2 ⟨rfl, hk2⟩; rw [Hbc.out])
         have Hb1 := Lib.hid (hk2.blk Hb1.out id)
         have HK := Lib.hid (HK.out.trans hk2 (fun _ _ h => h))
         clear hk2 v0 v1 v2 v3 v4 v5
         have v0 := (blk_cell Hb1.out 0).trans rfl
         have v1 := (blk_cell Hb1.out 1).trans rfl
         have v2 := (blk_cell Hb1.out 2).trans rfl
         have v3 := (blk_cell Hb1.out 3).trans rfl
         have v4 := (blk_cell Hb1.out 4).trans rfl
         have v5 := (blk_cell Hb1.out 5).trans rfl
         (try simp only [PU]))
     )
     go_ret
     rw [HRR.out]
     exact ⟨rfl, HK.out⟩
   by_cases c5 : 9007199254740991 < n
   · have c5' : ¬ (-9007199254740991 ≤ n ∧ n ≤ 9007199254740991) := by omega
     have HRR := Lib.hid (show R = false by rw [← HR.out]; unfold headC; simp [c5'])
     go_enter Tryd.func35, Tryd.ntmps35
     go_wp2_with (first
      | ((with_reducible refine at_dst (N := 1) rfl ?_); go_must (refine ev_box (cs := #[.int .i64 k, .bool b, .int .i64 n, .string t, .slice kA nk kc, .slice A nv c]) rfl rfl rfl ?_; intro g1 w1 hg1 hl1 hb1 hk1)
         have v0 := (blk_cell hb1 0).trans rfl
         have v1 := (blk_cell hb1 1).trans rfl
         have v2 := (blk_cell hb1 2).trans rfl
         have v3 := (blk_cell hb1 3).trans rfl
         have v4 := (blk_cell hb1 4).trans rfl
         have v5 := (blk_cell hb1 5).trans rfl
         have HK := Lib.hid hk1
         have Hb1 := Lib.hid hb1
         clear hb1 hk1
         (try simp only [PU]))
      | (go_at_call 61; go_must (refine (H61.out _ (HW.out.trans HK.out (fun _ _ h => h))).mono ?_; rintro e w2 ⟨rfl, hk2⟩; rw [Hbc.out])
         have Hb1 := Lib.hid (hk2.blk Hb1.out id)
         have HK := Lib.hid (HK.out.trans hk2 (fun _ _ h => h))
         clear hk2 v0 v1 v2 v3 v4 v5
         have v0 := (blk_cell Hb1.out 0).trans rfl
         have v1 := (blk_cell Hb1.out 1).trans rfl
         have v2 := (blk_cell Hb1.out 2).trans rfl
         have v3 := (blk_cell Hb1.out 3).trans rfl
         have v4 := (blk_cell Hb1.out 4).trans rfl
         have v5 := (blk_cell Hb1.out 5).trans rfl
         (try simp only [PU]))
     )
     go_ret
     rw [HRR.out]
     exact ⟨rfl, HK.out⟩
   have hk16 : 1 ≤ k ∧ k ≤ 6 := by omega
   have hrg : -9007199254740991 ≤ n ∧ n ≤ 9007199254740991 := by omega
   have Hk16 := Lib.hid hk16
   have Hrg := Lib.hid hrg
   clear hk16 hrg
   by_cases c6 : k = 6
   · have c6' : (k == 6) = true := by simpa using c6
     by_cases c7 : nk = nv
     · have c7i : (nk : Int) = (nv : Int) := by omega
       have c7' : ((nk : Int) != (nv : Int)) = false := by simpa using c7i
       have HRR := Lib.hid (show (decide ks.Nodup && formedL vs) = R by rw [← HR.out]; unfold headC; rw [Hbc.out, decide_eq_true Hk16.out, decide_eq_true Hrg.out, c7']; simp)
       clear c6 c7 c7i
       go_enter Tryd.func35, Tryd.ntmps35
       go_upto_region 3 with (first
        | ((with_reducible refine at_dst (N := 1) rfl ?_); go_must (refine ev_box (cs := #[.int .i64 k, .bool b, .int .i64 n, .string t, .slice kA nk kc, .slice A nv c]) rfl rfl rfl ?_; intro g1 w1 hg1 hl1 hb1 hk1)
           have v0 := (blk_cell hb1 0).trans rfl
           have v1 := (blk_cell hb1 1).trans rfl
           have v2 := (blk_cell hb1 2).trans rfl
           have v3 := (blk_cell hb1 3).trans rfl
           have v4 := (blk_cell hb1 4).trans rfl
           have v5 := (blk_cell hb1 5).trans rfl
           have HK := Lib.hid hk1
           have Hb1 := Lib.hid hb1
           clear hb1 hk1
           (try simp only [PU]))
        | (go_at_call 61; go_must (refine (H61.out _ (HW.out.trans HK.out (fun _ _ h => h))).mono ?_; rintro e w2 ⟨rfl, hk2⟩; rw [Hbc.out])
           have Hb1 := Lib.hid (hk2.blk Hb1.out id)
           have HK := Lib.hid (HK.out.trans hk2 (fun _ _ h => h))
           clear hk2 v0 v1 v2 v3 v4 v5
           have v0 := (blk_cell Hb1.out 0).trans rfl
           have v1 := (blk_cell Hb1.out 1).trans rfl
           have v2 := (blk_cell Hb1.out 2).trans rfl
           have v3 := (blk_cell Hb1.out 3).trans rfl
           have v4 := (blk_cell Hb1.out 4).trans rfl
           have v5 := (blk_cell Hb1.out 5).trans rfl
           (try simp only [PU]))
       )
       clear v0 v1 v2 v3
       go_wp2_with fail
       go_loopw [49] (fun iv wr => ∃ i : Nat, iv = .int .i64 i ∧ i ≤ nk ∧ Hid (wr = w2) ∧ Hid ((ks.take i).Nodup)) (fun iv _ => nk - (intOf iv).toNat)
       case atStart => exact ⟨0, rfl, Nat.zero_le _, Lib.hid rfl, Lib.hid (by simp)⟩
       case round =>
        obtain ⟨i, rfl, hi, Hw, Hnd⟩ := hrel
        have hw : w2 = wr := Hw.out.symm
        subst hw
        by_cases hlt : i < nk
        · obtain ⟨b', o, rfl, -, hcell⟩ := Hkx.out i (by rw [Hnk.out]; exact hlt)
          have kc0 := (HW.out.trans HK.out (fun _ _ h => h)).cell hcell id
          obtain ⟨key, hkey⟩ : ∃ x, ks.getD i ByteArray.empty = x := ⟨_, rfl⟩
          rw [hkey] at kc0
          have Hkey := Lib.hid hkey
          have hikc : i ≤ kc := by omega
          clear hcell hkey
          go_wp2_with (first
           | ((with_reducible refine at_dst (N := 57) rfl ?_); go_must (refine ev_head (h := i) rfl rfl Tryd.underlying22 HI.out.2.1 HI.out.2.2 rfl rfl hikc ?_); (try simp only [PU]))
          )
          go_loopw [59] (fun jv wr => ∃ j : Nat, jv = .int .i64 j ∧ j ≤ i ∧ Hid (wr = w2) ∧ Hid (key ∉ ks.take j)) (fun jv _ => i - (intOf jv).toNat)
          case atStart => exact ⟨0, rfl, Nat.zero_le _, Lib.hid rfl, Lib.hid (by simp)⟩
          case round =>
           obtain ⟨j, rfl, hj, Hw3, Hni⟩ := hrel
           have hw3 : w2 = wr := Hw3.out.symm
           subst hw3
           by_cases hjlt : j < i
           · obtain ⟨b2, o2, e2, -, hcell2⟩ := Hkx.out j (by rw [Hnk.out]; omega)
             injection e2 with e2
             injection e2 with e21 e22
             subst e21
             subst e22
             have kc2 := (HW.out.trans HK.out (fun _ _ h => h)).cell hcell2 id
             obtain ⟨kj, hkj⟩ : ∃ x, ks.getD j ByteArray.empty = x := ⟨_, rfl⟩
             rw [hkj] at kc2
             have Hkj := Lib.hid hkj
             have hjnk : j < nk := by omega
             clear hcell2 hkj
             by_cases hkk : key = kj
             · have htest : (key.toList == kj.toList) = true := by rw [hkk]; exact beq_self_eq_true _
               have Hkk := Lib.hid hkk
               clear hkk
               go_wp2
               go_ret
               refine ⟨?_, HK.out⟩
               have hnd : ¬ ks.Nodup := fun hn => by
                have hj' : j < ks.length := by rw [Hnk.out]; exact hjnk
                have hi' : i < ks.length := by rw [Hnk.out]; exact hlt
                have h2 := ((nodup_step hi').1 (nodup_all ks hn _)).2
                rw [Hkey.out] at h2
                have hm : key ∈ ks.take i := by
                 refine List.mem_of_getElem? (i := j) ?_
                 rw [List.getElem?_take, if_pos hjlt, List.getElem?_eq_getElem hj', Hkk.out, ← Hkj.out, List.getD_eq_getElem?_getD, List.getElem?_eq_getElem hj']
                 rfl
                rw [(hasKey_mem _ _).2 hm] at h2
                cases h2
               rw [← HRR.out, decide_eq_false hnd]
               rfl
             · have htest : (key.toList == kj.toList) = false := by simpa using str_ne hkk
               have Hkk := Lib.hid hkk
               clear hkk
               go_wp2
               go_roundw
               case rel => exact ⟨j + 1, by go_num, by omega, by first | exact Lib.hid rfl | exact Lib.hid trivial, Lib.hid (by
                have hj' : j < ks.length := by rw [Hnk.out]; exact hjnk
                rw [List.take_succ_eq_append_getElem hj', List.mem_append, List.mem_singleton]
                rintro (h | h)
                · exact Hni.out h
                · have h1 := Hkj.out
                  rw [List.getD_eq_getElem?_getD, List.getElem?_eq_getElem hj'] at h1
                  exact Hkk.out (h.trans h1))⟩
               case measure => simp [intOf]; omega
           · have hj' : j = i := by omega
             subst hj'
             go_wp2
             go_roundw
             case rel => exact ⟨j + 1, by go_num, by omega, by first | exact Lib.hid rfl | exact Lib.hid trivial, Lib.hid ((nodup_step (by rw [Hnk.out]; exact hlt)).2 ⟨Hnd.out, by
              rw [Hkey.out]
              rcases hk' : hasKey (ks.take j) key with _ | _
              · rfl
              · exact absurd ((hasKey_mem _ _).1 hk') Hni.out⟩)⟩
             case measure => simp [intOf]; omega
        · have hi' : i = nk := by omega
          subst hi'
          have htl := List.take_length (l := ks)
          rw [Hnk.out] at htl
          have hnd : ks.Nodup := by have := Hnd.out; rw [htl] at this; exact this
          have HR3 := Lib.hid (show formedL (vs.drop 0) = R by rw [← HRR.out, decide_eq_true hnd, List.drop_zero]; rfl)
          clear htl hnd
          go_wp2
          go_loopw [71] (fun iv wr => ∃ i : Nat, iv = .int .i64 i ∧ i ≤ nv ∧ Hid (formedL (vs.drop i) = R) ∧ Hid (Keeps Nob W wr)) (fun iv _ => nv - (intOf iv).toNat)
          case atStart => exact ⟨0, rfl, Nat.zero_le _, HR3, HK⟩
          case round =>
           obtain ⟨i, rfl, hi, HG, HKr⟩ := hrel
           by_cases hlt : i < nv
           · obtain ⟨b', o, rfl, -, h6⟩ := HA.out i (by rw [Hnv.out]; exact hlt)
             obtain ⟨⟨e0, e1, e2⟩, e3, e4, e5⟩ := h6.keep (HW.out.trans HKr.out (fun _ _ h => h)) id
             have hg := HG.out
             rw [formedL_drop (by rw [Hnv.out]; exact hlt)] at hg
             have hsix := (HV.out i (by rw [Hnv.out]; exact hlt)).six
             have Hrun := Lib.hid (fun W' hk => IH.out i (by rw [Hnv.out]; exact hlt) W' hk (by have h1 := size_get (vs := vs) (i := i) (by rw [Hnv.out]; exact hlt); have := Hsz.out; omega))
             generalize vs.getD i default = vj at *
             generalize u i 0 = x0 at *
             generalize u i 1 = x1 at *
             generalize u i 2 = x2 at *
             generalize u i 3 = x3 at *
             generalize u i 4 = x4 at *
             generalize u i 5 = x5 at *
             obtain ⟨y0, y1, y2, y3, yA, yn, yc, yB, ym, yd, ⟨rfl, rfl, rfl⟩, rfl, rfl, rfl⟩ := hsix
             rcases hfj : formedJ vj with _ | _
             · rw [hfj] at hg
               have HRq := Lib.hid (show R = false from hg.symm)
               have Hfj := Lib.hid hfj
               clear hg h6 hfj
               go_wp2_with (first
                | ((with_reducible refine at_dst (N := 8) rfl ?_); go_must (refine ev_alloc rfl rfl zero25 rfl ?_; intro g5 wa hg5 hl5 hb5 hk5)
                   have Hb5 := Lib.hid hb5
                   have HK2 := Lib.hid hk5
                   clear hb5 hk5
                   (try simp only [PU]))
                | ((with_reducible refine at_store (t := 25) (p := 8) rfl ?_); go_must (refine ev_store (cs' := #[.int .i64 y0, .bool y1, .int .i64 y2, .string y3, .slice yA yn yc, .slice yB ym yd]) rfl rfl rfl rfl rfl rfl HI.out.1.1 HI.out.1.2 rfl Hb5.out (Nat.le_of_ble_eq_true rfl) rfl ?_; intro w3 hb3 hk3)
                   have s0 := (blk_cell hb3 0).trans rfl
                   have s1 := (blk_cell hb3 1).trans rfl
                   have s2 := (blk_cell hb3 2).trans rfl
                   have s3 := (blk_cell hb3 3).trans rfl
                   have s4 := (blk_cell hb3 4).trans rfl
                   have s5 := (blk_cell hb3 5).trans rfl
                   have HK3 := Lib.hid (show Keeps Nob W w3 from HKr.out.trans (HK2.out.own hk3 hg5) (fun _ _ h => h))
                   clear hb3 hk3
                   (try simp only [PU]))
                | (go_at_call 35; go_must (refine (Hrun.out w3 (HW.out.trans HK3.out (fun _ _ h => h))).mono ?_; rintro e w4 ⟨rfl, hk4⟩); rw [Hfj.out]; have HK4 := Lib.hid (HK3.out.trans hk4 (fun _ _ h => h)); clear hk4; (try simp only [PU]))
               )
               go_ret
               rw [HRq.out]
               exact ⟨rfl, HK4.out⟩
             · rw [hfj, Bool.true_and] at hg
               have HGn := Lib.hid hg
               have Hfj := Lib.hid hfj
               clear hg h6 hfj
               go_wp2_with (first
                | ((with_reducible refine at_dst (N := 8) rfl ?_); go_must (refine ev_alloc rfl rfl zero25 rfl ?_; intro g5 wa hg5 hl5 hb5 hk5)
                   have Hb5 := Lib.hid hb5
                   have HK2 := Lib.hid hk5
                   clear hb5 hk5
                   (try simp only [PU]))
                | ((with_reducible refine at_store (t := 25) (p := 8) rfl ?_); go_must (refine ev_store (cs' := #[.int .i64 y0, .bool y1, .int .i64 y2, .string y3, .slice yA yn yc, .slice yB ym yd]) rfl rfl rfl rfl rfl rfl HI.out.1.1 HI.out.1.2 rfl Hb5.out (Nat.le_of_ble_eq_true rfl) rfl ?_; intro w3 hb3 hk3)
                   have s0 := (blk_cell hb3 0).trans rfl
                   have s1 := (blk_cell hb3 1).trans rfl
                   have s2 := (blk_cell hb3 2).trans rfl
                   have s3 := (blk_cell hb3 3).trans rfl
                   have s4 := (blk_cell hb3 4).trans rfl
                   have s5 := (blk_cell hb3 5).trans rfl
                   have HK3 := Lib.hid (show Keeps Nob W w3 from HKr.out.trans (HK2.out.own hk3 hg5) (fun _ _ h => h))
                   clear hb3 hk3
                   (try simp only [PU]))
                | (go_at_call 35; go_must (refine (Hrun.out w3 (HW.out.trans HK3.out (fun _ _ h => h))).mono ?_; rintro e w4 ⟨rfl, hk4⟩); rw [Hfj.out]; have HK4 := Lib.hid (HK3.out.trans hk4 (fun _ _ h => h)); clear hk4; (try simp only [PU]))
               )
               go_roundw
               case rel => exact ⟨i + 1, by go_num, by omega, HGn, HK4⟩
               case measure => simp [intOf]; omega
           · have hi' : i = nv := by omega
             subst hi'
             have HRq := Lib.hid (show true = R by
              have hg := HG.out
              rw [List.drop_of_length_le (by rw [Hnv.out]; exact Nat.le_refl _)] at hg
              exact hg)
             go_wp2
             go_ret
             rw [← HRq.out]
             exact ⟨rfl, HKr.out⟩
     · have c7i : ¬ (nk : Int) = (nv : Int) := by omega
       have c7' : ((nk : Int) != (nv : Int)) = true := by simpa using c7i
       have HRR := Lib.hid (show R = false by rw [← HR.out]; unfold headC; rw [c6', c7']; simp)
       clear c6 c7 c7i
       go_enter Tryd.func35, Tryd.ntmps35
       go_wp2_with (first
        | ((with_reducible refine at_dst (N := 1) rfl ?_); go_must (refine ev_box (cs := #[.int .i64 k, .bool b, .int .i64 n, .string t, .slice kA nk kc, .slice A nv c]) rfl rfl rfl ?_; intro g1 w1 hg1 hl1 hb1 hk1)
           have v0 := (blk_cell hb1 0).trans rfl
           have v1 := (blk_cell hb1 1).trans rfl
           have v2 := (blk_cell hb1 2).trans rfl
           have v3 := (blk_cell hb1 3).trans rfl
           have v4 := (blk_cell hb1 4).trans rfl
           have v5 := (blk_cell hb1 5).trans rfl
           have HK := Lib.hid hk1
           have Hb1 := Lib.hid hb1
           clear hb1 hk1
           (try simp only [PU]))
        | (go_at_call 61; go_must (refine (H61.out _ (HW.out.trans HK.out (fun _ _ h => h))).mono ?_; rintro e w2 ⟨rfl, hk2⟩; rw [Hbc.out])
           have Hb1 := Lib.hid (hk2.blk Hb1.out id)
           have HK := Lib.hid (HK.out.trans hk2 (fun _ _ h => h))
           clear hk2 v0 v1 v2 v3 v4 v5
           have v0 := (blk_cell Hb1.out 0).trans rfl
           have v1 := (blk_cell Hb1.out 1).trans rfl
           have v2 := (blk_cell Hb1.out 2).trans rfl
           have v3 := (blk_cell Hb1.out 3).trans rfl
           have v4 := (blk_cell Hb1.out 4).trans rfl
           have v5 := (blk_cell Hb1.out 5).trans rfl
           (try simp only [PU]))
       )
       go_ret
       rw [HRR.out]
       exact ⟨rfl, HK.out⟩
   · have c6' : (k == 6) = false := by simpa using c6
     have HRR := Lib.hid (show (decide ks.Nodup && formedL vs) = R by rw [← HR.out]; unfold headC; rw [Hbc.out, decide_eq_true Hk16.out, decide_eq_true Hrg.out, c6']; simp)
     clear c6
     go_enter Tryd.func35, Tryd.ntmps35
     go_upto_region 3 with (first
      | ((with_reducible refine at_dst (N := 1) rfl ?_); go_must (refine ev_box (cs := #[.int .i64 k, .bool b, .int .i64 n, .string t, .slice kA nk kc, .slice A nv c]) rfl rfl rfl ?_; intro g1 w1 hg1 hl1 hb1 hk1)
         have v0 := (blk_cell hb1 0).trans rfl
         have v1 := (blk_cell hb1 1).trans rfl
         have v2 := (blk_cell hb1 2).trans rfl
         have v3 := (blk_cell hb1 3).trans rfl
         have v4 := (blk_cell hb1 4).trans rfl
         have v5 := (blk_cell hb1 5).trans rfl
         have HK := Lib.hid hk1
         have Hb1 := Lib.hid hb1
         clear hb1 hk1
         (try simp only [PU]))
      | (go_at_call 61; go_must (refine (H61.out _ (HW.out.trans HK.out (fun _ _ h => h))).mono ?_; rintro e w2 ⟨rfl, hk2⟩; rw [Hbc.out])
         have Hb1 := Lib.hid (hk2.blk Hb1.out id)
         have HK := Lib.hid (HK.out.trans hk2 (fun _ _ h => h))
         clear hk2 v0 v1 v2 v3 v4 v5
         have v0 := (blk_cell Hb1.out 0).trans rfl
         have v1 := (blk_cell Hb1.out 1).trans rfl
         have v2 := (blk_cell Hb1.out 2).trans rfl
         have v3 := (blk_cell Hb1.out 3).trans rfl
         have v4 := (blk_cell Hb1.out 4).trans rfl
         have v5 := (blk_cell Hb1.out 5).trans rfl
         (try simp only [PU]))
     )
     clear v0 v1 v2 v3
     go_wp2_with fail
     go_loopw [49] (fun iv wr => ∃ i : Nat, iv = .int .i64 i ∧ i ≤ nk ∧ Hid (wr = w2) ∧ Hid ((ks.take i).Nodup)) (fun iv _ => nk - (intOf iv).toNat)
     case atStart => exact ⟨0, rfl, Nat.zero_le _, Lib.hid rfl, Lib.hid (by simp)⟩
     case round =>
      obtain ⟨i, rfl, hi, Hw, Hnd⟩ := hrel
      have hw : w2 = wr := Hw.out.symm
      subst hw
      by_cases hlt : i < nk
      · obtain ⟨b', o, rfl, -, hcell⟩ := Hkx.out i (by rw [Hnk.out]; exact hlt)
        have kc0 := (HW.out.trans HK.out (fun _ _ h => h)).cell hcell id
        obtain ⟨key, hkey⟩ : ∃ x, ks.getD i ByteArray.empty = x := ⟨_, rfl⟩
        rw [hkey] at kc0
        have Hkey := Lib.hid hkey
        have hikc : i ≤ kc := by omega
        clear hcell hkey
        go_wp2_with (first
         | ((with_reducible refine at_dst (N := 57) rfl ?_); go_must (refine ev_head (h := i) rfl rfl Tryd.underlying22 HI.out.2.1 HI.out.2.2 rfl rfl hikc ?_); (try simp only [PU]))
        )
        go_loopw [59] (fun jv wr => ∃ j : Nat, jv = .int .i64 j ∧ j ≤ i ∧ Hid (wr = w2) ∧ Hid (key ∉ ks.take j)) (fun jv _ => i - (intOf jv).toNat)
        case atStart => exact ⟨0, rfl, Nat.zero_le _, Lib.hid rfl, Lib.hid (by simp)⟩
        case round =>
         obtain ⟨j, rfl, hj, Hw3, Hni⟩ := hrel
         have hw3 : w2 = wr := Hw3.out.symm
         subst hw3
         by_cases hjlt : j < i
         · obtain ⟨b2, o2, e2, -, hcell2⟩ := Hkx.out j (by rw [Hnk.out]; omega)
           injection e2 with e2
           injection e2 with e21 e22
           subst e21
           subst e22
           have kc2 := (HW.out.trans HK.out (fun _ _ h => h)).cell hcell2 id
           obtain ⟨kj, hkj⟩ : ∃ x, ks.getD j ByteArray.empty = x := ⟨_, rfl⟩
           rw [hkj] at kc2
           have Hkj := Lib.hid hkj
           have hjnk : j < nk := by omega
           clear hcell2 hkj
           by_cases hkk : key = kj
           · have htest : (key.toList == kj.toList) = true := by rw [hkk]; exact beq_self_eq_true _
             have Hkk := Lib.hid hkk
             clear hkk
             go_wp2
             go_ret
             refine ⟨?_, HK.out⟩
             have hnd : ¬ ks.Nodup := fun hn => by
              have hj' : j < ks.length := by rw [Hnk.out]; exact hjnk
              have hi' : i < ks.length := by rw [Hnk.out]; exact hlt
              have h2 := ((nodup_step hi').1 (nodup_all ks hn _)).2
              rw [Hkey.out] at h2
              have hm : key ∈ ks.take i := by
               refine List.mem_of_getElem? (i := j) ?_
               rw [List.getElem?_take, if_pos hjlt, List.getElem?_eq_getElem hj', Hkk.out, ← Hkj.out, List.getD_eq_getElem?_getD, List.getElem?_eq_getElem hj']
               rfl
              rw [(hasKey_mem _ _).2 hm] at h2
              cases h2
             rw [← HRR.out, decide_eq_false hnd]
             rfl
           · have htest : (key.toList == kj.toList) = false := by simpa using str_ne hkk
             have Hkk := Lib.hid hkk
             clear hkk
             go_wp2
             go_roundw
             case rel => exact ⟨j + 1, by go_num, by omega, by first | exact Lib.hid rfl | exact Lib.hid trivial, Lib.hid (by
              have hj' : j < ks.length := by rw [Hnk.out]; exact hjnk
              rw [List.take_succ_eq_append_getElem hj', List.mem_append, List.mem_singleton]
              rintro (h | h)
              · exact Hni.out h
              · have h1 := Hkj.out
                rw [List.getD_eq_getElem?_getD, List.getElem?_eq_getElem hj'] at h1
                exact Hkk.out (h.trans h1))⟩
             case measure => simp [intOf]; omega
         · have hj' : j = i := by omega
           subst hj'
           go_wp2
           go_roundw
           case rel => exact ⟨j + 1, by go_num, by omega, by first | exact Lib.hid rfl | exact Lib.hid trivial, Lib.hid ((nodup_step (by rw [Hnk.out]; exact hlt)).2 ⟨Hnd.out, by
            rw [Hkey.out]
            rcases hk' : hasKey (ks.take j) key with _ | _
            · rfl
            · exact absurd ((hasKey_mem _ _).1 hk') Hni.out⟩)⟩
           case measure => simp [intOf]; omega
      · have hi' : i = nk := by omega
        subst hi'
        have htl := List.take_length (l := ks)
        rw [Hnk.out] at htl
        have hnd : ks.Nodup := by have := Hnd.out; rw [htl] at this; exact this
        have HR3 := Lib.hid (show formedL (vs.drop 0) = R by rw [← HRR.out, decide_eq_true hnd, List.drop_zero]; rfl)
        clear htl hnd
        go_wp2
        go_loopw [71] (fun iv wr => ∃ i : Nat, iv = .int .i64 i ∧ i ≤ nv ∧ Hid (formedL (vs.drop i) = R) ∧ Hid (Keeps Nob W wr)) (fun iv _ => nv - (intOf iv).toNat)
        case atStart => exact ⟨0, rfl, Nat.zero_le _, HR3, HK⟩
        case round =>
         obtain ⟨i, rfl, hi, HG, HKr⟩ := hrel
         by_cases hlt : i < nv
         · obtain ⟨b', o, rfl, -, h6⟩ := HA.out i (by rw [Hnv.out]; exact hlt)
           obtain ⟨⟨e0, e1, e2⟩, e3, e4, e5⟩ := h6.keep (HW.out.trans HKr.out (fun _ _ h => h)) id
           have hg := HG.out
           rw [formedL_drop (by rw [Hnv.out]; exact hlt)] at hg
           have hsix := (HV.out i (by rw [Hnv.out]; exact hlt)).six
           have Hrun := Lib.hid (fun W' hk => IH.out i (by rw [Hnv.out]; exact hlt) W' hk (by have h1 := size_get (vs := vs) (i := i) (by rw [Hnv.out]; exact hlt); have := Hsz.out; omega))
           generalize vs.getD i default = vj at *
           generalize u i 0 = x0 at *
           generalize u i 1 = x1 at *
           generalize u i 2 = x2 at *
           generalize u i 3 = x3 at *
           generalize u i 4 = x4 at *
           generalize u i 5 = x5 at *
           obtain ⟨y0, y1, y2, y3, yA, yn, yc, yB, ym, yd, ⟨rfl, rfl, rfl⟩, rfl, rfl, rfl⟩ := hsix
           rcases hfj : formedJ vj with _ | _
           · rw [hfj] at hg
             have HRq := Lib.hid (show R = false from hg.symm)
             have Hfj := Lib.hid hfj
             clear hg h6 hfj
             go_wp2_with (first
              | ((with_reducible refine at_dst (N := 8) rfl ?_); go_must (refine ev_alloc rfl rfl zero25 rfl ?_; intro g5 wa hg5 hl5 hb5 hk5)
                 have Hb5 := Lib.hid hb5
                 have HK2 := Lib.hid hk5
                 clear hb5 hk5
                 (try simp only [PU]))
              | ((with_reducible refine at_store (t := 25) (p := 8) rfl ?_); go_must (refine ev_store (cs' := #[.int .i64 y0, .bool y1, .int .i64 y2, .string y3, .slice yA yn yc, .slice yB ym yd]) rfl rfl rfl rfl rfl rfl HI.out.1.1 HI.out.1.2 rfl Hb5.out (Nat.le_of_ble_eq_true rfl) rfl ?_; intro w3 hb3 hk3)
                 have s0 := (blk_cell hb3 0).trans rfl
                 have s1 := (blk_cell hb3 1).trans rfl
                 have s2 := (blk_cell hb3 2).trans rfl
                 have s3 := (blk_cell hb3 3).trans rfl
                 have s4 := (blk_cell hb3 4).trans rfl
                 have s5 := (blk_cell hb3 5).trans rfl
                 have HK3 := Lib.hid (show Keeps Nob W w3 from HKr.out.trans (HK2.out.own hk3 hg5) (fun _ _ h => h))
                 clear hb3 hk3
                 (try simp only [PU]))
              | (go_at_call 35; go_must (refine (Hrun.out w3 (HW.out.trans HK3.out (fun _ _ h => h))).mono ?_; rintro e w4 ⟨rfl, hk4⟩); rw [Hfj.out]; have HK4 := Lib.hid (HK3.out.trans hk4 (fun _ _ h => h)); clear hk4; (try simp only [PU]))
             )
             go_ret
             rw [HRq.out]
             exact ⟨rfl, HK4.out⟩
           · rw [hfj, Bool.true_and] at hg
             have HGn := Lib.hid hg
             have Hfj := Lib.hid hfj
             clear hg h6 hfj
             go_wp2_with (first
              | ((with_reducible refine at_dst (N := 8) rfl ?_); go_must (refine ev_alloc rfl rfl zero25 rfl ?_; intro g5 wa hg5 hl5 hb5 hk5)
                 have Hb5 := Lib.hid hb5
                 have HK2 := Lib.hid hk5
                 clear hb5 hk5
                 (try simp only [PU]))
              | ((with_reducible refine at_store (t := 25) (p := 8) rfl ?_); go_must (refine ev_store (cs' := #[.int .i64 y0, .bool y1, .int .i64 y2, .string y3, .slice yA yn yc, .slice yB ym yd]) rfl rfl rfl rfl rfl rfl HI.out.1.1 HI.out.1.2 rfl Hb5.out (Nat.le_of_ble_eq_true rfl) rfl ?_; intro w3 hb3 hk3)
                 have s0 := (blk_cell hb3 0).trans rfl
                 have s1 := (blk_cell hb3 1).trans rfl
                 have s2 := (blk_cell hb3 2).trans rfl
                 have s3 := (blk_cell hb3 3).trans rfl
                 have s4 := (blk_cell hb3 4).trans rfl
                 have s5 := (blk_cell hb3 5).trans rfl
                 have HK3 := Lib.hid (show Keeps Nob W w3 from HKr.out.trans (HK2.out.own hk3 hg5) (fun _ _ h => h))
                 clear hb3 hk3
                 (try simp only [PU]))
              | (go_at_call 35; go_must (refine (Hrun.out w3 (HW.out.trans HK3.out (fun _ _ h => h))).mono ?_; rintro e w4 ⟨rfl, hk4⟩); rw [Hfj.out]; have HK4 := Lib.hid (HK3.out.trans hk4 (fun _ _ h => h)); clear hk4; (try simp only [PU]))
             )
             go_roundw
             case rel => exact ⟨i + 1, by go_num, by omega, HGn, HK4⟩
             case measure => simp [intOf]; omega
         · have hi' : i = nv := by omega
           subst hi'
           have HRq := Lib.hid (show true = R by
            have hg := HG.out
            rw [List.drop_of_length_le (by rw [Hnv.out]; exact Nat.le_refl _)] at hg
            exact hg)
           go_wp2
           go_ret
           rw [← HRq.out]
           exact ⟨rfl, HKr.out⟩
end Go.Proofs.WV

namespace Go.Proofs.WM

inductive Fr where
 | bad
 | part
 | whole (x rest : Bs)
def beginB : Bs := [76, 101, 110, 103, 116, 104, 58, 32]
def neckB : Bs := [13, 10, 13, 10]
def neckF (n : Nat) : Bs → Bs → Fr
 | [], r => if r.length < n then .part else .whole (r.take n) (r.drop n)
 | _ :: _, [] => .part
 | c :: w, d :: r => if d = c then neckF n w r else .bad
def sizeF : Bool → Nat → Bs → Fr
 | _, _, [] => .part
 | any, n, c :: r =>
   if isDigit c then (if (any = true ∧ n = 0) ∨ 1000000 < n * 10 + digB c then .bad else sizeF true (n * 10 + digB c) r)
   else if any = false then .bad else neckF n neckB (c :: r)
def headF : Bs → Bs → Fr
 | [], r => sizeF false 0 r
 | _ :: _, [] => .part
 | c :: w, d :: r => if d = c then headF w r else .bad
def frameB (b : Bs) : Fr := headF beginB b
theorem neckF_len {n : Nat} : ∀ {w r x y : Bs}, neckF n w r = .whole x y → y.length + x.length + w.length = r.length ∧ x.length = n
 | [], r, x, y, h => by
   unfold neckF at h
   split at h
   · cases h
   · rename_i hn
     injection h with h1 h2; subst h1; subst h2
     simp only [List.length_take, List.length_drop, List.length_nil]
     omega
 | c :: w, [], x, y, h => by unfold neckF at h; cases h
 | c :: w, d :: r, x, y, h => by
   unfold neckF at h
   split at h
   · have := neckF_len h; simp only [List.length_cons]; omega
   · cases h
theorem sizeF_len : ∀ {r x y : Bs} {any : Bool} {n : Nat}, sizeF any n r = .whole x y → y.length + x.length < r.length
 | [], x, y, any, n, h => by unfold sizeF at h; cases h
 | c :: r, x, y, any, n, h => by
   unfold sizeF at h
   split at h
   · split at h
     · cases h
     · have := sizeF_len h; simp only [List.length_cons]; omega
   · split at h
     · cases h
     · have := neckF_len h; simp only [List.length_cons, neckB] at this ⊢; simp only [List.length_nil] at this; omega
theorem headF_len : ∀ {w r x y : Bs}, headF w r = .whole x y → y.length + x.length < r.length
 | [], r, x, y, h => sizeF_len h
 | c :: w, [], x, y, h => by unfold headF at h; cases h
 | c :: w, d :: r, x, y, h => by
   unfold headF at h
   split at h
   · have := headF_len h; simp only [List.length_cons]; omega
   · cases h
structure Fed where
 out : List Bs
 waits : Bs
 dead : Bool
def feedF : Nat → List Bs → Bs → Fed
 | 0, out, w => ⟨out, w, false⟩
 | f + 1, out, w => match frameB w with
   | .bad => ⟨out, [], true⟩
   | .part => ⟨out, w, false⟩
   | .whole x r => feedF f (out ++ [x]) r
def feedB (waits b : Bs) : Fed := feedF ((waits ++ b).length + 1) [] (waits ++ b)

end Go.Proofs.WM

namespace Go.Proofs.WM

def numH : Bool → Nat → Bs → Option (Bool × Nat × Bs)
 | any, n, [] => some (any, n, [])
 | any, n, c :: r => if isDigit c then (if (any = true ∧ n = 0) ∨ 1000000 < n * 10 + digB c then none else numH true (n * 10 + digB c) r) else some (any, n, c :: r)
def tailH (len : Nat) : Option (Bool × Nat × Bs) → Nat × Nat × Bool × Bool
 | none => (0, 0, false, false)
 | some (any, n, r) => if r = [] then (0, 0, false, true) else if any = false ∨ (r.take 4).isPrefixOf neckB = false then (0, 0, false, false) else (len - r.length + 4, n, decide (4 ≤ r.length), true)
def headH (s : Bs) : Nat × Nat × Bool × Bool := if s.take 8 = beginB.take s.length then tailH s.length (numH false 0 (s.drop 8)) else (0, 0, false, false)
theorem numH_suf : ∀ {r : Bs} {any : Bool} {n : Nat} {x : Bool × Nat × Bs}, numH any n r = some x → n ≤ 1000000 → x.2.1 ≤ 1000000 ∧ ∃ p, r = p ++ x.2.2
 | [], any, n, x, h, hn => by unfold numH at h; injection h with h; subst h; exact ⟨hn, [], rfl⟩
 | c :: r, any, n, x, h, hn => by
   unfold numH at h
   split at h
   · split at h
     · cases h
     · rename_i h2
       obtain ⟨h3, p, hp⟩ := numH_suf h (by omega)
       exact ⟨h3, c :: p, by rw [hp]; rfl⟩
   · injection h with h; subst h; exact ⟨hn, [], rfl⟩
theorem sizeF_num : ∀ (r : Bs) (any : Bool) (n : Nat), sizeF any n r = match numH any n r with
  | none => .bad
  | some x => if x.2.2 = [] then .part else if x.1 = false then .bad else neckF x.2.1 neckB x.2.2
 | [], any, n => by unfold sizeF numH; simp
 | c :: r, any, n => by
   unfold sizeF numH
   split
   · split
     · rfl
     · exact sizeF_num r true _
   · simp
theorem headF_begin : ∀ (w s : Bs), headF w s = if s.take w.length = w.take s.length then sizeF false 0 (s.drop w.length) else .bad
 | [], s => by unfold headF; simp
 | c :: w, [] => by unfold headF sizeF; simp
 | c :: w, d :: s => by
   unfold headF
   rw [headF_begin w s]
   simp only [List.length_cons, List.take_succ_cons, List.cons.injEq, List.drop_succ_cons]
   by_cases h : d = c
   · simp [h]
   · simp [h]
theorem neckF_take (n : Nat) : ∀ (w r : Bs), neckF n w r = if (r.take w.length).isPrefixOf w = false then .bad else if r.length < w.length ∨ r.length < w.length + n then .part else .whole ((r.drop w.length).take n) (r.drop (w.length + n))
 | [], r => by unfold neckF; simp
 | c :: w, [] => by unfold neckF; simp
 | c :: w, d :: r => by
   unfold neckF
   rw [neckF_take n w r]
   simp only [List.length_cons, List.take_succ_cons, List.isPrefixOf, List.drop_succ_cons, Bool.and_eq_false_iff, beq_eq_false_iff_ne]
   by_cases h : d = c
   · subst h
     rw [if_pos rfl]
     rw [show w.length + 1 + n = (w.length + n) + 1 by omega, List.drop_succ_cons]
     simp
   · rw [if_neg h, if_pos (.inl h)]
def frOf (s : Bs) (x : Nat × Nat × Bool × Bool) : Fr := if x.2.2.2 = false then .bad else if x.2.2.1 = false ∨ s.length < x.1 + x.2.1 then .part else .whole ((s.drop x.1).take x.2.1) (s.drop (x.1 + x.2.1))
theorem frame_head (s : Bs) : frameB s = frOf s (headH s) := by
 unfold frameB headH
 rw [headF_begin, show beginB.length = 8 from rfl]
 by_cases hb : s.take 8 = beginB.take s.length
 · rw [if_pos hb, if_pos hb, sizeF_num]
   rcases hn : numH false 0 (s.drop 8) with _ | ⟨any, n, r⟩
   · rfl
   · simp only [tailH]
     by_cases hr : r = []
     · rw [if_pos hr, if_pos hr]; rfl
     · rw [if_neg hr, if_neg hr]
       rcases any with _ | _
       · rfl
       · rw [if_neg (by decide), neckF_take, show neckB.length = 4 from rfl]
         obtain ⟨-, p, hp⟩ := numH_suf hn (by omega)
         rcases hpre : (r.take 4).isPrefixOf neckB with _ | _
         · simp [frOf]
         · simp only [Bool.true_eq_false, or_self, if_false, frOf]
           have hs : s = (s.take 8 ++ p) ++ r := by rw [List.append_assoc, ← hp, List.take_append_drop]
           have hl : s.length = (s.take 8 ++ p).length + r.length := by rw [← List.length_append, ← hs]
           have hd : ∀ k, s.drop (s.length - r.length + k) = r.drop k := fun k => by
            rw [show s.length - r.length + k = (s.take 8 ++ p).length + k by omega]
            generalize s.take 8 ++ p = u at *
            subst hs
            rw [List.drop_append, List.drop_of_length_le (by omega), List.nil_append, show u.length + k - u.length = k by omega]
           rw [show s.length - r.length + 4 + n = s.length - r.length + (4 + n) by omega, hd, hd]
           have h1 : r.length ≤ s.length := by omega
           by_cases h4 : 4 ≤ r.length
           · simp only [h4, decide_true, Bool.true_eq_false, false_or]
             by_cases hln : r.length < 4 + n
             · rw [if_pos (.inr hln), if_pos (by omega)]
             · rw [if_neg (by omega), if_neg (by omega)]
           · rw [if_pos (.inl (by omega)), if_pos (.inl (by simpa using h4))]
 · rw [if_neg hb, if_neg hb]; rfl
end Go.Proofs.WM

namespace Go.Proofs.WV
open Go.RowKit Go.Proofs.KL Go.Proofs.WM
set_option maxRecDepth 100000
set_option linter.unusedSimpArgs false
set_option linter.unusedVariables false

def HeadEnd (W : World) (x : Nat × Nat × Bool × Bool) (e : Ending) (w' : World) : Prop := e = .returned (.tuple #[.int .i64 x.1, .int .i64 x.2.1, .bool x.2.2.1, .bool x.2.2.2]) ∧ Keeps Nob W w'
theorem mkB_toList (x : Bs) : (mkB x).toList = x := ByteArray.toList_mk x
theorem begin_take (k : Nat) : (({ data := #[76, 101, 110, 103, 116, 104, 58, 32] } : ByteArray).extract 0 k).toList = beginB.take k := by
 rw [Lib.toList_data]
 simp [beginB]
theorem take_min (s : Bs) {k : Nat} (hk : min s.length 8 = k) : s.take 8 = s.take k ∧ beginB.take s.length = beginB.take k := by
 rcases Nat.le_or_ge s.length 8 with h | h
 · rw [Nat.min_eq_left h] at hk
   subst hk
   exact ⟨by rw [List.take_of_length_le h, List.take_length], rfl⟩
 · rw [Nat.min_eq_right h] at hk
   subst hk
   exact ⟨rfl, by rw [List.take_of_length_le (by exact h), List.take_of_length_le (by decide)]⟩
theorem begin_test (s : Bs) {k : Nat} (hk : min s.length 8 = k) : ((mkB (s.take k)).toList == (({ data := #[76, 101, 110, 103, 116, 104, 58, 32] } : ByteArray).extract 0 k).toList) = decide (s.take 8 = beginB.take s.length) := by
 rw [mkB_toList, begin_take, (take_min s hk).1, (take_min s hk).2]
 exact Bool.beq_eq_decide_eq _ _
theorem results_tmp4 {fn : Func} {t u v x : Tmp} (h : fn.results = #[.tmp t, .tmp u, .tmp v, .tmp x]) (tmps : Array Value) (P : Program) (w : World) :
  (results fn tmps).run P w = .ok (.tuple #[tmps[t]?.getD undef, tmps[u]?.getD undef, tmps[v]?.getD undef, tmps[x]?.getD undef]) w := by
 simp [results, h, Result.andThen]
set_option maxHeartbeats 2000000 in
theorem head_no {W : World} {X : Nat → Prop} {A : Option Addr} {n c : Nat} {s : Bs} (hb : BytesX W X (.slice A n c) s) (hne : s.take 8 ≠ beginB.take s.length) : Calls Tryd.prog 52 #[.slice A n c] W (HeadEnd W (0, 0, false, false)) := by
 obtain ⟨hn, hc⟩ := hb.len
 have hb0 := hb.sub (l := 0) (h := min n 8) (Nat.zero_le _) (Nat.min_le_left _ _)
 simp only [Nat.sub_zero, List.drop_zero] at hb0
 have hki0 : min (n : Int) 8 = ((min n 8 : Nat) : Int) := by omega
 have hkn0 : min n 8 ≤ n ∧ min n 8 ≤ 8 ∧ (n ≤ 8 → min n 8 = n) ∧ (8 ≤ n → min n 8 = 8) := by omega
 have htest := begin_test s (k := min n 8) (by rw [hn])
 obtain ⟨k, hk⟩ : ∃ k, min n 8 = k := ⟨_, rfl⟩
 rw [hk] at hb0 hki0 hkn0 htest
 have HB0 := Lib.hid hb0
 have hki := hki0
 have Hkn := Lib.hid hkn0
 have hkc : k ≤ c := by omega
 have hk8 : (k : Int) ≤ 8 := by omega
 rw [decide_eq_false hne] at htest
 clear hb hb0 hn hki0 hkn0 hk hne
 go_enter Tryd.func52, Tryd.ntmps52
 go_wp2_with fail
 refine wp_region_tree (.q 0 (.q 1 (.q 4 (.q 5 (.br [2] (fun k => .br [3] (fun k => .q 6 (.done)))))))) (fun w' => True) rfl (by kernel_rfl) (by kernel_rfl) (fun c a d v w h => by cases d <;> exact h) trivial ?_
 refine tq (some 12) ?_; (try simp only [PU])
 refine tq (some 13) ?_; (try simp only [PU])
 refine tq (some 16) ?_; (try simp only [PU])
 refine tq (some 17) ?_; (try simp only [PU])
 refine tree_e rfl rfl ?_
 go_must (refine ev_sub_h (h := k) rfl rfl byteT38 rfl rfl hkc ?_)
 (try simp only [PU])
 refine wpList_nil ⟨trivial, ?_⟩
 refine tree_e rfl rfl ?_
 go_must (refine ev_conv_bs rfl rfl Tryd.underlying38 Tryd.underlying5 Tryd.underlying9 (bs := s.take k) rfl (HB0.out.keep (X' := X) (Keeps.refl Nob W).drew (fun _ _ _ => id) (fun _ _ h => h)) ?_)
 (try simp only [PU])
 refine wpList_nil ⟨trivial, ?_⟩
 refine tq (some 18) ?_; (try simp only [PU])
 refine tree_nil ?_
 go_wp2
 refine bodyPost_ret (by rw [results_tmp4 rfl]) rfl ?_
 exact ⟨rfl, (Keeps.refl Nob W).drew⟩
end Go.Proofs.WV

namespace Go.Proofs.WV
open Go.RowKit Go.Proofs.KL Go.Proofs.WM
set_option maxRecDepth 100000
set_option linter.unusedSimpArgs false
set_option linter.unusedVariables false

theorem drop_cons {s : Bs} {i : Nat} {c : UInt8} {q : Bs} (h : s.drop i = c :: q) : i < s.length ∧ s.getD i 0 = c ∧ s.drop (i + 1) = q := by
 have hi : i < s.length := by
  rcases Nat.lt_or_ge i s.length with h' | h'
  · exact h'
  · rw [List.drop_of_length_le h'] at h; cases h
 rw [List.drop_eq_getElem_cons hi] at h
 injection h with h1 h2
 exact ⟨hi, by rw [List.getD_eq_getElem?_getD, List.getElem?_eq_getElem hi]; exact h1, h2⟩
theorem dig_zero (c : UInt8) (h : isDigit c = true) : digB c = 0 ↔ c = 48 := by
 have := dig_int c h
 constructor
 · intro h0
   refine UInt8.toNat_inj.1 ?_
   show c.toNat = 48
   omega
 · rintro rfl; rfl
theorem notdig (c : UInt8) (h : isDigit c = false) : (c.toNat : Int) < 48 ∨ 57 < (c.toNat : Int) := by
 simp only [isDigit, Bool.and_eq_false_iff, decide_eq_false_iff_not, UInt8.le_iff_toNat_le] at h
 have e1 : (48 : UInt8).toNat = 48 := rfl
 have e2 : (57 : UInt8).toNat = 57 := rfl
 omega
theorem tailH_nil (N : Nat) (any : Bool) (n : Nat) : tailH N (some (any, n, [])) = (0, 0, false, true) := by simp [tailH]
theorem tailH_none (N : Nat) (n : Nat) (r : Bs) (h : r ≠ []) : tailH N (some (false, n, r)) = (0, 0, false, false) := by simp [tailH, h]
theorem neck_prefix {w : World} {g L c : Nat} {A : Option Addr} {X : Nat → Prop} {s : Bs} {fz : Nat × Nat} (hg : w.heap[g]? = some (.cells #[.int .u8 13, .int .u8 10, .int .u8 13, .int .u8 10] 5 fz)) (hb : BytesX w X (.slice A L c) s) :
  Calls Tryd.prog 89 #[.slice (some ⟨g, 0, none⟩) 4 4, .slice A L c] w fun e w' => e = .returned (.bool (s.isPrefixOf neckB)) ∧ w' = w := by
 have hn : BytesX w (fun _ => True) (.slice (some ⟨g, 0, none⟩) 4 4) neckB := by
  refine ⟨_, 4, rfl, Nat.le_refl _, fun i hi => ⟨g, 0, rfl, trivial, ?_⟩⟩
  rw [Nat.zero_add, blk_cell hg i]
  have hi' : i < 4 := hi
  match i, hi' with
  | 0, _ => rfl
  | 1, _ => rfl
  | 2, _ => rfl
  | 3, _ => rfl
 have h := Tryd.bytes_HasPrefix_all (some ⟨g, 0, none⟩) A 4 4 L c (neckB.map fun c => (c.toNat : Int)) (s.map fun c => (c.toNat : Int)) w rfl (by rw [List.length_map]; exact hb.len.1.symm) (Nat.le_refl _) hn.nums hb.nums
 rw [bytesOf_nums, bytesOf_nums] at h
 exact h
set_option maxHeartbeats 8000000 in
theorem head_yes {W : World} {X : Nat → Prop} {A : Option Addr} {n c : Nat} {s : Bs} (hb : BytesX W X (.slice A n c) s) (hl : n ≤ 2000000000) (hne : s.take 8 = beginB.take s.length) : Calls Tryd.prog 52 #[.slice A n c] W (HeadEnd W (headH s)) := by
 obtain ⟨hn, hc⟩ := hb.len
 have hb0 := hb.sub (l := 0) (h := min n 8) (Nat.zero_le _) (Nat.min_le_left _ _)
 simp only [Nat.sub_zero, List.drop_zero] at hb0
 have hki0 : min (n : Int) 8 = ((min n 8 : Nat) : Int) := by omega
 have hkn0 : min n 8 ≤ n ∧ min n 8 ≤ 8 ∧ (n ≤ 8 → min n 8 = n) ∧ (8 ≤ n → min n 8 = 8) := by omega
 have htest := begin_test s (k := min n 8) (by rw [hn])
 obtain ⟨k, hk⟩ : ∃ k, min n 8 = k := ⟨_, rfl⟩
 rw [hk] at hb0 hki0 hkn0 htest
 have HB0 := Lib.hid hb0
 have hki := hki0
 have Hkn := Lib.hid hkn0
 have hkc : k ≤ c := by omega
 have hk8 : (k : Int) ≤ 8 := by omega
 rw [decide_eq_true hne] at htest
 have hR : headH s = tailH n (numH false 0 (s.drop k)) := by
  unfold headH
  rw [if_pos hne, hn]
  rcases Nat.le_or_ge s.length 8 with h | h
  · rw [List.drop_of_length_le h, List.drop_of_length_le (by omega)]
  · rw [show k = 8 by omega]
 rw [hR]
 obtain ⟨R0, hR0⟩ : ∃ x, numH false 0 (s.drop k) = x := ⟨_, rfl⟩
 rw [hR0]
 have HR0 := Lib.hid hR0
 have HB := Lib.hid hb
 have Hn := Lib.hid hn
 have hN : (n : Int) ≤ 2000000000 := by omega
 have hNn : n ≤ 2000000000 := hl
 have Hc := Lib.hid hc
 clear hb hb0 hn hki0 hkn0 hk hne hR hR0 hl hc
 go_enter Tryd.func52, Tryd.ntmps52
 go_wp2_with fail
 refine wp_region_tree (.q 0 (.q 1 (.q 4 (.q 5 (.br [2] (fun k => .br [3] (fun k => .q 6 (.done)))))))) (fun w' => True) rfl (by kernel_rfl) (by kernel_rfl) (fun c a d v w h => by cases d <;> exact h) trivial ?_
 refine tq (some 12) ?_; (try simp only [PU])
 refine tq (some 13) ?_; (try simp only [PU])
 refine tq (some 16) ?_; (try simp only [PU])
 refine tq (some 17) ?_; (try simp only [PU])
 refine tree_e rfl rfl ?_
 go_must (refine ev_sub_h (h := k) rfl rfl byteT38 rfl rfl hkc ?_)
 (try simp only [PU])
 refine wpList_nil ⟨trivial, ?_⟩
 refine tree_e rfl rfl ?_
 go_must (refine ev_conv_bs rfl rfl Tryd.underlying38 Tryd.underlying5 Tryd.underlying9 (bs := s.take k) rfl (HB0.out.keep (X' := X) (Keeps.refl Nob W).drew (fun _ _ _ => id) (fun _ _ h => h)) ?_)
 (try simp only [PU])
 refine wpList_nil ⟨trivial, ?_⟩
 refine tq (some 18) ?_; (try simp only [PU])
 refine tree_nil ?_
 go_upto_region 5 with fail
 go_loopg [7, 3] (n - k) (fun K atv mv wr => ∃ (i m : Nat) (any : Bool) (r : Bs), atv = .int .i64 i ∧ mv = .int .i64 m ∧ r.length ≤ K ∧ i + r.length = n ∧ k ≤ i ∧ m ≤ 1000000 ∧ Hid ((any = true ↔ k < i) ∧ s.drop i = r ∧ (any = true → (s.getD k 0 = 48 ↔ m = 0)) ∧ (any = false → m = 0)) ∧ Hid (numH any m r = R0) ∧ Hid (Keeps Nob W wr))
 case atStart => exact ⟨k, 0, false, s.drop k, rfl, rfl, by rw [List.length_drop, ← Hn.out]; omega, by rw [List.length_drop, ← Hn.out]; have := Hkn.out; omega, Nat.le_refl _, by omega, Lib.hid ⟨by simp, rfl, by simp, fun _ => rfl⟩, HR0, Lib.hid (Keeps.refl Nob W).drew⟩
 case round =>
  obtain ⟨i, m, any, r, rfl, rfl, hl, hi, hki, hm, Hr, HE, HK⟩ := hrel
  rcases r with _ | ⟨ch, q⟩
  · have e : i = n := by simpa using hi
    subst e
    have HR := Lib.hid (show R0 = some (any, m, []) by rw [← HE.out]; unfold numH; rfl)
    clear hi hl HE
    go_wp2
    (try simp only [Exit.inBlock, Exit.then])
    refine bodyPost_ret (results_tmp4 rfl _ _ _) rfl ?_
    rw [HR.out, tailH_nil]
    exact ⟨rfl, HK.out⟩
  · obtain ⟨hin, hget, hdrop⟩ := drop_cons Hr.out.2.1
    rw [← Hn.out] at hin
    simp only [List.length_cons] at hi hl
    obtain ⟨b, o, rfl, hX, hcell⟩ := (HB.out.keep (X' := X) HK.out (fun _ _ _ => id) (fun _ _ h => h)).at (by omega)
    have ci := hcell i hin
    rw [hget] at ci
    unfold byteV at ci
    have hini : (i : Int) < n := by omega
    have hkii : (k : Int) ≤ i := by omega
    obtain ⟨cv, hcv⟩ : ∃ x : Int, (ch.toNat : Int) = x := ⟨_, rfl⟩
    have hcb : 0 ≤ cv ∧ cv ≤ 255 := by have := ch.toNat_lt; omega
    rcases hdg : isDigit ch with _ | _
    · have hrange := notdig ch hdg
      rw [hcv] at ci hrange
      have HR := Lib.hid (show R0 = some (any, m, ch :: q) by rw [← HE.out]; unfold numH; rw [hdg]; rfl)
      have hie : ((i : Int) == n) = false := beq_eq_false_iff_ne.2 (by omega)
      obtain ⟨L, hL⟩ : ∃ L, min n (i + 4) - i = L := ⟨_, rfl⟩
      obtain ⟨H, hH⟩ : ∃ H, min n (i + 4) = H := ⟨_, rfl⟩
      have hmin : min (n : Int) ((i : Int) + 4) = (H : Int) := by omega
      have hsub : (HB.out.keep (X' := X) HK.out (fun _ _ _ => id) (fun _ _ h => h)).sub (l := i) (h := H) (by omega) (by omega) = (HB.out.keep (X' := X) HK.out (fun _ _ _ => id) (fun _ _ h => h)).sub (l := i) (h := H) (by omega) (by omega) := rfl
      have hsb := (HB.out.keep (X' := X) HK.out (fun _ _ _ => id) (fun _ _ h => h)).sub (l := i) (h := H) (by omega) (by omega)
      rw [hH] at hL
      have Hih := Lib.hid (show i ≤ H ∧ H ≤ c ∧ L ≤ c - i ∧ (H - i = L) by have := Hc.out; omega)
      have hLb : ((L : Int) == 4) = decide (4 ≤ (ch :: q).length) := by
       rw [Bool.beq_eq_decide_eq, decide_eq_decide]
       simp only [List.length_cons]
       omega
      have htk : (s.drop i).take (H - i) = (ch :: q).take 4 := by
       rw [Hr.out.2.1, hL]
       rcases Nat.le_or_ge 4 (ch :: q).length with h4 | h4
       · rw [show L = 4 by simp only [List.length_cons] at h4; omega]
       · rw [List.take_of_length_le (by simp only [List.length_cons] at h4 ⊢; omega), List.take_of_length_le h4]
      rw [htk, hL] at hsb
      have Hsb := Lib.hid hsb
      have HL := Lib.hid hLb
      have Hcnt := Lib.hid (show n - (ch :: q).length + 4 = i + 4 by simp only [List.length_cons]; omega)
      cases any
      · have hik : i = k := by
         have := Hr.out.1
         have h' : ¬ k < i := fun h => by have := this.2 h; cases this
         omega
        subst hik
        clear hi hl HE hget hdrop hcell hdg hcv hsub hsb hL hLb htk hH hX
        rcases hrange with hr | hr
        · skip
          go_wp2_with (first
           | ((with_reducible refine at_dst (N := 74) rfl ?_); go_must (refine ev_sub (l := i) (h := H) rfl rfl byteT38 rfl rfl rfl Hih.out.1 Hih.out.2.1 ?_; rw [Hih.out.2.2.2]); (try simp only [PU]))
          )
          (try simp only [Exit.inBlock, Exit.then])
          refine bodyPost_ret (results_tmp4 rfl _ _ _) rfl ?_
          rw [HR.out, tailH_none _ _ _ (by simp)]
          exact ⟨rfl, HK.out⟩
        · skip
          go_wp2_with (first
           | ((with_reducible refine at_dst (N := 74) rfl ?_); go_must (refine ev_sub (l := i) (h := H) rfl rfl byteT38 rfl rfl rfl Hih.out.1 Hih.out.2.1 ?_; rw [Hih.out.2.2.2]); (try simp only [PU]))
          )
          (try simp only [Exit.inBlock, Exit.then])
          refine bodyPost_ret (results_tmp4 rfl _ _ _) rfl ?_
          rw [HR.out, tailH_none _ _ _ (by simp)]
          exact ⟨rfl, HK.out⟩
      · have hik : ((i : Int) == k) = false := beq_eq_false_iff_ne.2 (by have := Hr.out.1.1 rfl; omega)
        rcases hpre : ((ch :: q).take 4).isPrefixOf neckB with _ | _
        · have Hpre := Lib.hid hpre
          clear hi hl HE hget hdrop hcell hdg hcv hsub hsb hL hLb htk hH hX hpre
          rcases hrange with hr | hr
          · skip
            go_wp2_with (first
             | ((with_reducible refine at_dst (N := 74) rfl ?_); go_must (refine ev_sub (l := i) (h := H) rfl rfl byteT38 rfl rfl rfl Hih.out.1 Hih.out.2.1 ?_; rw [Hih.out.2.2.2]); (try simp only [PU]))
             | ((with_reducible refine at_dst (N := 79) rfl ?_); go_must (refine ev_ung rfl ?_; refine ev_slice (cs := #[.int .u8 13, .int .u8 10, .int .u8 13, .int .u8 10]) (t := 5) (n := 4) (c := 4) rfl (by first | (go_simp; done) | (go_simp; rfl)) ?_; intro gk w10 hgk hlk hbk hkk)
                have Hbk := Lib.hid hbk
                have Hkk := Lib.hid hkk
                have Hgk := Lib.hid hgk
                clear hbk hkk hgk
                (try simp only [PU]))
             | ((with_reducible refine at_dst (N := 80) rfl ?_); go_must (refine ev_ung rfl ?_; refine ev_conv_same rfl rfl byteT38 Tryd.underlying5 rfl Hbk.out ?_; intro w12 hbk2 hkk2)
                have Hkk := Lib.hid (Hkk.out.trans hkk2 (fun i hi e => by have := Hgk.out; omega))
                have Hbk := Lib.hid hbk2
                clear hbk2 hkk2
                (try simp only [PU]))
             | (go_at_call 89; go_must (refine (neck_prefix Hbk.out (Hsb.out.keep (X' := X) Hkk.out (fun _ _ _ => id) (fun _ _ h => h))).mono ?_; rintro e w11 ⟨rfl, rfl⟩; rw [Hpre.out]); (try simp only [PU]))
            )
            (try simp only [Exit.inBlock, Exit.then])
            refine bodyPost_ret (results_tmp4 rfl _ _ _) rfl ?_
            rw [HR.out]
            refine ⟨?_, HK.out.then Hkk.out⟩
            have hpp := Hpre.out
            simp only [tailH, hpp, HL.out, Hcnt.out]
            rfl
          · skip
            go_wp2_with (first
             | ((with_reducible refine at_dst (N := 74) rfl ?_); go_must (refine ev_sub (l := i) (h := H) rfl rfl byteT38 rfl rfl rfl Hih.out.1 Hih.out.2.1 ?_; rw [Hih.out.2.2.2]); (try simp only [PU]))
             | ((with_reducible refine at_dst (N := 79) rfl ?_); go_must (refine ev_ung rfl ?_; refine ev_slice (cs := #[.int .u8 13, .int .u8 10, .int .u8 13, .int .u8 10]) (t := 5) (n := 4) (c := 4) rfl (by first | (go_simp; done) | (go_simp; rfl)) ?_; intro gk w10 hgk hlk hbk hkk)
                have Hbk := Lib.hid hbk
                have Hkk := Lib.hid hkk
                have Hgk := Lib.hid hgk
                clear hbk hkk hgk
                (try simp only [PU]))
             | ((with_reducible refine at_dst (N := 80) rfl ?_); go_must (refine ev_ung rfl ?_; refine ev_conv_same rfl rfl byteT38 Tryd.underlying5 rfl Hbk.out ?_; intro w12 hbk2 hkk2)
                have Hkk := Lib.hid (Hkk.out.trans hkk2 (fun i hi e => by have := Hgk.out; omega))
                have Hbk := Lib.hid hbk2
                clear hbk2 hkk2
                (try simp only [PU]))
             | (go_at_call 89; go_must (refine (neck_prefix Hbk.out (Hsb.out.keep (X' := X) Hkk.out (fun _ _ _ => id) (fun _ _ h => h))).mono ?_; rintro e w11 ⟨rfl, rfl⟩; rw [Hpre.out]); (try simp only [PU]))
            )
            (try simp only [Exit.inBlock, Exit.then])
            refine bodyPost_ret (results_tmp4 rfl _ _ _) rfl ?_
            rw [HR.out]
            refine ⟨?_, HK.out.then Hkk.out⟩
            have hpp := Hpre.out
            simp only [tailH, hpp, HL.out, Hcnt.out]
            rfl
        · have Hpre := Lib.hid hpre
          clear hi hl HE hget hdrop hcell hdg hcv hsub hsb hL hLb htk hH hX hpre
          rcases hrange with hr | hr
          · skip
            go_wp2_with (first
             | ((with_reducible refine at_dst (N := 74) rfl ?_); go_must (refine ev_sub (l := i) (h := H) rfl rfl byteT38 rfl rfl rfl Hih.out.1 Hih.out.2.1 ?_; rw [Hih.out.2.2.2]); (try simp only [PU]))
             | ((with_reducible refine at_dst (N := 79) rfl ?_); go_must (refine ev_ung rfl ?_; refine ev_slice (cs := #[.int .u8 13, .int .u8 10, .int .u8 13, .int .u8 10]) (t := 5) (n := 4) (c := 4) rfl (by first | (go_simp; done) | (go_simp; rfl)) ?_; intro gk w10 hgk hlk hbk hkk)
                have Hbk := Lib.hid hbk
                have Hkk := Lib.hid hkk
                have Hgk := Lib.hid hgk
                clear hbk hkk hgk
                (try simp only [PU]))
             | ((with_reducible refine at_dst (N := 80) rfl ?_); go_must (refine ev_ung rfl ?_; refine ev_conv_same rfl rfl byteT38 Tryd.underlying5 rfl Hbk.out ?_; intro w12 hbk2 hkk2)
                have Hkk := Lib.hid (Hkk.out.trans hkk2 (fun i hi e => by have := Hgk.out; omega))
                have Hbk := Lib.hid hbk2
                clear hbk2 hkk2
                (try simp only [PU]))
             | (go_at_call 89; go_must (refine (neck_prefix Hbk.out (Hsb.out.keep (X' := X) Hkk.out (fun _ _ _ => id) (fun _ _ h => h))).mono ?_; rintro e w11 ⟨rfl, rfl⟩; rw [Hpre.out]); (try simp only [PU]))
            )
            (try simp only [Exit.inBlock, Exit.then])
            refine bodyPost_ret (results_tmp4 rfl _ _ _) rfl ?_
            rw [HR.out]
            refine ⟨?_, HK.out.then Hkk.out⟩
            have hpp := Hpre.out
            simp only [tailH, hpp, HL.out, Hcnt.out]
            rfl
          · skip
            go_wp2_with (first
             | ((with_reducible refine at_dst (N := 74) rfl ?_); go_must (refine ev_sub (l := i) (h := H) rfl rfl byteT38 rfl rfl rfl Hih.out.1 Hih.out.2.1 ?_; rw [Hih.out.2.2.2]); (try simp only [PU]))
             | ((with_reducible refine at_dst (N := 79) rfl ?_); go_must (refine ev_ung rfl ?_; refine ev_slice (cs := #[.int .u8 13, .int .u8 10, .int .u8 13, .int .u8 10]) (t := 5) (n := 4) (c := 4) rfl (by first | (go_simp; done) | (go_simp; rfl)) ?_; intro gk w10 hgk hlk hbk hkk)
                have Hbk := Lib.hid hbk
                have Hkk := Lib.hid hkk
                have Hgk := Lib.hid hgk
                clear hbk hkk hgk
                (try simp only [PU]))
             | ((with_reducible refine at_dst (N := 80) rfl ?_); go_must (refine ev_ung rfl ?_; refine ev_conv_same rfl rfl byteT38 Tryd.underlying5 rfl Hbk.out ?_; intro w12 hbk2 hkk2)
                have Hkk := Lib.hid (Hkk.out.trans hkk2 (fun i hi e => by have := Hgk.out; omega))
                have Hbk := Lib.hid hbk2
                clear hbk2 hkk2
                (try simp only [PU]))
             | (go_at_call 89; go_must (refine (neck_prefix Hbk.out (Hsb.out.keep (X' := X) Hkk.out (fun _ _ _ => id) (fun _ _ h => h))).mono ?_; rintro e w11 ⟨rfl, rfl⟩; rw [Hpre.out]); (try simp only [PU]))
            )
            (try simp only [Exit.inBlock, Exit.then])
            refine bodyPost_ret (results_tmp4 rfl _ _ _) rfl ?_
            rw [HR.out]
            refine ⟨?_, HK.out.then Hkk.out⟩
            have hpp := Hpre.out
            simp only [tailH, hpp, HL.out, Hcnt.out]
            rfl
    · obtain ⟨hd0, hd1, hd2⟩ := dig_int ch hdg
      rw [hcv] at ci hd0 hd1 hd2
      have HS := Lib.hid (show (if (any = true ∧ m = 0) ∨ 1000000 < m * 10 + digB ch then none else numH true (m * 10 + digB ch) q) = R0 by rw [← HE.out]; conv => rhs; unfold numH; rw [if_pos hdg])
      have Hd := Lib.hid (show ((m * 10 + digB ch : Nat) : Int) = (m : Int) * 10 + (cv - 48) by rw [hd2]; rfl)
      have Hq := Lib.hid (And.intro hget hdrop)
      have Hdz := Lib.hid (dig_zero ch hdg)
      have hmi : (m : Int) ≤ 1000000 := by omega
      by_cases hmx : 1000000 < (m : Int) * 10 + (cv - 48)
      · have HR := Lib.hid (show R0 = none by rw [← HS.out, if_pos (.inr (by have := Hd.out; omega))])
        clear hi hl HE hget hdrop hcell hdg hcv hX hd2
        go_wp2
        (try simp only [Exit.inBlock, Exit.then])
        refine bodyPost_ret (results_tmp4 rfl _ _ _) rfl ?_
        rw [HR.out]
        exact ⟨rfl, HK.out⟩
      · cases any
        · have hik : i = k := by
           have := Hr.out.1
           have h' : ¬ k < i := fun h => by have := this.2 h; cases this
           omega
          have hm0 : m = 0 := Hr.out.2.2.2 rfl
          subst hik
          subst hm0
          have HR := Lib.hid (show numH true (0 * 10 + digB ch) q = R0 by rw [← HS.out, if_neg (by have := Hd.out; simp; omega)])
          clear HE hget hdrop hcell hdg hcv hX hd2
          go_wp2
          go_roundg (n - i - 1)
          case measure => omega
          case rel => exact ⟨i + 1, 0 * 10 + digB ch, true, q, by rfl, by rw [Hd.out]; congr 1; omega, by omega, by omega, by omega, by have := Hd.out; omega, Lib.hid ⟨by simp, Hq.out.2, fun _ => by rw [Hq.out.1, Nat.zero_mul, Nat.zero_add]; exact Hdz.out.symm, by simp⟩, HR, HK⟩
        · have hkli : (k : Int) < i := by have := Hr.out.1.1 rfl; omega
          have ck := hcell k (by omega)
          unfold byteV at ck
          have Hz := Lib.hid (Hr.out.2.2.1 rfl)
          obtain ⟨d0, hd0'⟩ : ∃ d, s.getD k 0 = d := ⟨_, rfl⟩
          rw [hd0'] at ck
          have Hd0 := Lib.hid hd0'
          obtain ⟨dv, hdv⟩ : ∃ x : Int, (d0.toNat : Int) = x := ⟨_, rfl⟩
          rw [hdv] at ck
          by_cases h48 : dv = 48
          · have hm0 : m = 0 := Hz.out.1 (by rw [hd0']; exact UInt8.toNat_inj.1 (by show d0.toNat = 48; omega))
            have HR := Lib.hid (show R0 = none by rw [← HS.out, if_pos (.inl ⟨rfl, hm0⟩)])
            clear hi hl HE hget hdrop hcell hdg hcv hX hd2 hd0' hdv
            subst h48
            go_wp2
            (try simp only [Exit.inBlock, Exit.then])
            refine bodyPost_ret (results_tmp4 rfl _ _ _) rfl ?_
            rw [HR.out]
            exact ⟨rfl, HK.out⟩
          · have h48b : (dv == 48) = false := beq_eq_false_iff_ne.2 h48
            have hm0 : m ≠ 0 := fun e => h48 (by have := Hz.out.2 e; rw [hd0'] at this; subst this; exact hdv.symm)
            have HR := Lib.hid (show numH true (m * 10 + digB ch) q = R0 by rw [← HS.out, if_neg (by have := Hd.out; simp; omega)])
            have Hm0 := Lib.hid hm0
            have Hz2 := Lib.hid (show ¬ s.getD k 0 = 48 from fun e => hm0 (Hz.out.1 e))
            clear HE hget hdrop hcell hdg hcv hX hd2 hd0' hdv hm0
            go_wp2
            go_roundg (n - i - 1)
            case measure => omega
            case rel => exact ⟨i + 1, m * 10 + digB ch, true, q, by rfl, by rw [Hd.out], by omega, by omega, by omega, by have := Hd.out; omega, Lib.hid ⟨by simp; omega, Hq.out.2, fun _ => ⟨fun h => absurd h Hz2.out, fun h => absurd h (by have := Hm0.out; omega)⟩, by simp⟩, HR, HK⟩
end Go.Proofs.WV

namespace Go.Proofs.WM

def bareB : Bool → Bs → Bs
 | _, [] => []
 | false, c :: r => if isBlank c then bareB false r else if c = 34 then c :: bareB true r else c :: bareB false r
 | true, [c] => [c]
 | true, c :: d :: r => if c = 92 then c :: d :: bareB true r else if c = 34 then c :: bareB false (d :: r) else c :: bareB true (d :: r)
def Clear (w : Bs) : Prop := ∀ c ∈ w, isBlank c = false ∧ c ≠ 34
instance (w : Bs) : Decidable (Clear w) := inferInstanceAs (Decidable (∀ c ∈ w, isBlank c = false ∧ c ≠ 34))
def Stays (p : Bs) : Prop := ∀ x, bareB false (p ++ x) = p ++ bareB false x
theorem Stays.append {a b : Bs} (ha : Stays a) (hb : Stays b) : Stays (a ++ b) := fun x => by rw [List.append_assoc, ha, hb, List.append_assoc]
end Go.Proofs.WM

namespace Go.Proofs.WV
open Go.RowKit Go.Proofs.KL Go.Proofs.WM
set_option maxRecDepth 100000
set_option linter.unusedSimpArgs false
set_option linter.unusedVariables false

theorem str_at {T : ByteArray} {i : Nat} {c : UInt8} {q : Bs} (h : (bl T).drop i = c :: q) : ∃ hi : i < T.size, ((T[i].toNat : Nat) : Int) = (c.toNat : Int) := by
 obtain ⟨h1, h2, -⟩ := drop_cons h
 have hi : i < T.size := by rw [bl_len] at h1; exact h1
 refine ⟨hi, ?_⟩
 have h3 : (bl T)[i]? = some T[i] := by
  rw [List.getElem?_eq_getElem h1]; rfl
 rw [List.getD_eq_getElem?_getD, h3] at h2
 have h4 : T[i] = c := h2
 rw [h4]
theorem byte_eq (c : UInt8) (n : Nat) (hn : n < 256) : c = UInt8.ofNat n ↔ (c.toNat : Int) = (n : Int) := by
 constructor
 · rintro rfl
   simp [Nat.mod_eq_of_lt hn]
 · intro h
   exact UInt8.toNat_inj.1 (by simp [Nat.mod_eq_of_lt hn]; omega)
end Go.Proofs.WV

namespace Go.Proofs.WV
open Go.RowKit Go.Proofs.KL Go.Proofs.WM
set_option maxRecDepth 100000
set_option linter.unusedSimpArgs false
set_option linter.unusedVariables false

theorem own_made {w : World} {base g : Nat} {cs : Array Value} {s : Bs} (hg : w.heap[g]? = some (.cells cs 5 (0, 0))) (hb : base ≤ g) (hc : cs = (s.map byteV).toArray) (hm : s.length ≤ maxLen) : OwnB w base (.slice (some ⟨g, 0, none⟩) s.length s.length) s := by
 subst hc
 refine .inr ⟨g, s.length, _, (0, 0), rfl, hb, hg, .inl (Nat.zero_le _), Nat.le_refl _, hm, by simp, ?_⟩
 simp [List.take_of_length_le]
theorem news_made {w : World} {g : Nat} {cs : Array Value} {s : Bs} (hg : w.heap[g]? = some (.cells cs 5 (0, 0))) (hc : cs = (s.map byteV).toArray) : ∀ j u, (s.map byteV)[j]? = some u → w.cell? ((⟨g, 0, none⟩ : Addr).add j) = some u := by
 subst hc
 intro j u hj
 rw [addr_add0, blk_cell hg j, List.getElem?_toArray]
 exact hj
theorem byteV1 {ch : UInt8} {cv : Int} (h : (ch.toNat : Int) = cv) : (#[.int .u8 cv] : Array Value) = ([ch].map byteV).toArray := by subst h; rfl
set_option maxHeartbeats 8000000 in
theorem quoted43 {W : World} {T : ByteArray} (hT : T.size ≤ 1000000000000) : Calls Tryd.prog 43 #[.string T] W fun e w' => e = .returned (.string (mkB (quoteB (bl T)))) ∧ Keeps Nob W w' := by
 obtain ⟨R, hR⟩ : ∃ x, [34] ++ (bl T).flatMap esc = x := ⟨_, rfl⟩
 have HRl := Lib.hid (show R.length ≤ 10000000000000 by
  have h := flatMap_le (bl T)
  rw [bl_len] at h
  rw [← hR, List.length_append]
  simp only [List.length_cons, List.length_nil]
  omega)
 have hq : quoteB (bl T) = R ++ [34] := by rw [← hR]; rfl
 rw [hq]
 have HR := Lib.hid hR
 obtain ⟨n, hn⟩ : ∃ n, T.size = n := ⟨_, rfl⟩
 have Hn := Lib.hid hn
 have hni : (n : Int) ≤ 1000000000000 := by omega
 clear hR hT hq
 go_enter Tryd.func43, Tryd.ntmps43
 go_wp2_with (first
  | ((with_reducible refine at_dst (N := 7) rfl ?_); go_must (refine ev_slice (cs := #[.int .u8 34]) (t := 5) (n := 1) (c := 1) rfl (by first | (go_simp; done) | (go_simp; rfl)) ?_; intro g7 w7 hg7 hl7 hb7 hk7)
     have HO := Lib.hid (own_made (s := [34]) hb7 hg7 rfl (by decide))
     have HK := Lib.hid hk7
     clear hb7 hk7 hg7 hl7
     (try simp only [PU]))
 )
 go_loopg [5, 4] n (fun K iv ov wr => ∃ (i : Nat) (oA : Option Addr) (oc : Nat) (out r : Bs), iv = .int .i64 i ∧ ov = .slice oA out.length oc ∧ i + K = n ∧ i + r.length = n ∧ Hid ((bl T).drop i = r) ∧ Hid (OwnB wr W.heap.size (.slice oA out.length oc) out) ∧ Hid (Keeps Nob W wr) ∧ Hid (out ++ r.flatMap esc = R))
 case atStart => exact ⟨0, _, _, [34], bl T, rfl, rfl, by omega, by rw [bl_len]; omega, Lib.hid rfl, HO, HK, HR⟩
 case round =>
  obtain ⟨i, oA, oc, out, r, rfl, rfl, hK, hir, Hr, HO, HK, HE⟩ := hrel
  have Hol := Lib.hid (show out.length ≤ 10000000000000 by have := congrArg List.length HE.out; rw [List.length_append] at this; have := HRl.out; omega)
  rcases r with _ | ⟨ch, q⟩
  · have e : i = n := by simpa using hir
    subst e
    have hii : (i : Int) = T.size := by omega
    have HRR := Lib.hid (show out = R by rw [← HE.out, List.flatMap_nil, List.append_nil])
    have Hcv := Lib.hid (rfl : (0 : Int) = 0)
    clear hir hK
    go_wp2_with (first
     | ((with_reducible refine at_dst (N := 57) rfl ?_); go_must (refine ev_slice (cs := #[.int .u8 34]) (t := 5) (n := 1) (c := 1) rfl (by first | (go_simp; done) | (go_simp; rfl)) ?_; intro gb wb hgb hlb hbb hkb)
        have Hbb := Lib.hid hbb
        have HKb := Lib.hid (HK.out.trans hkb (fun _ _ h => h))
        have HOb := Lib.hid (HO.out.keep hkb (fun _ _ => id))
        clear hbb hkb hgb hlb
        (try simp only [PU]))
     | ((with_reducible refine at_dst (N := 58) rfl ?_); go_must (refine ev_app_sl rfl rfl byteT38 (base := W.heap.size) rfl HOb.out rfl (news := [34]) rfl (fun _ => ⟨_, rfl, news_made Hbb.out rfl⟩) (by have := Hol.out; omega) HKb.out.size ?_; intro v' wc ho2 ha2; obtain ⟨nA, nc, hv'⟩ := ho2.slice; subst hv')
        have HO2 := Lib.hid ho2
        have HK2 := Lib.hid (HKb.out.trans ha2.keep (fun i hi e => by have := (HOb.out.lt i e.symm).1; omega))
        clear ho2 ha2
        (try simp only [PU]))
     | ((with_reducible refine at_dst (N := 59) rfl ?_); go_must (refine ev_conv_bs rfl rfl Tryd.underlying38 Tryd.underlying5 Tryd.underlying9 (bs := out ++ [34]) rfl HO2.out.bytes ?_); (try simp only [PU]))
    )
    go_ret
    rw [← HRR.out]
    exact ⟨rfl, HK2.out⟩
  · obtain ⟨hlt, hc⟩ := str_at Hr.out
    obtain ⟨hin, hget, hdrop⟩ := drop_cons Hr.out
    simp only [List.length_cons] at hir
    have Hq := Lib.hid hdrop
    have H34 := Lib.hid (byte_eq ch 34 (by decide))
    have H92 := Lib.hid (byte_eq ch 92 (by decide))
    have H10 := Lib.hid (byte_eq ch 10 (by decide))
    obtain ⟨cv, hcv⟩ : ∃ x : Int, (ch.toNat : Int) = x := ⟨_, rfl⟩
    have Hcv := Lib.hid hcv
    have hcr : 0 ≤ cv ∧ cv ≤ 255 := by have := ch.toNat_lt; omega
    rw [hcv] at hc H34 H92 H10
    have hini : (i : Int) < (T.size : Int) := by omega
    clear hin hget hdrop hcv
    by_cases h34 : cv = 34
    · have hch : ch = 34 := H34.out.2 h34
      have Hesc := Lib.hid (show esc ch = [92, 34] by rw [hch]; rfl)
      subst h34
      clear hch
      go_wp2_with (first
       | ((with_reducible refine at_dst (N := 37) rfl ?_); go_must (refine ev_slice (cs := #[.int .u8 92, .int .u8 34]) (t := 5) (n := 2) (c := 2) rfl (by first | (go_simp; done) | (go_simp; rfl)) ?_; intro gb wb hgb hlb hbb hkb)
          have Hbb := Lib.hid hbb
          have HKb := Lib.hid (HK.out.trans hkb (fun _ _ h => h))
          have HOb := Lib.hid (HO.out.keep hkb (fun _ _ => id))
          clear hbb hkb hgb hlb
          (try simp only [PU]))
       | ((with_reducible refine at_dst (N := 38) rfl ?_); go_must (refine ev_app_sl rfl rfl byteT38 (base := W.heap.size) rfl HOb.out rfl (news := [92, 34]) rfl (fun _ => ⟨_, rfl, news_made Hbb.out rfl⟩) (by have := Hol.out; omega) HKb.out.size ?_; intro v' wc ho2 ha2; obtain ⟨nA, nc, hv'⟩ := ho2.slice; subst hv')
          have HO2 := Lib.hid ho2
          have HK2 := Lib.hid (HKb.out.trans ha2.keep (fun i hi e => by have := (HOb.out.lt i e.symm).1; omega))
          clear ho2 ha2
          (try simp only [PU]))
      )
      go_roundg (n - i - 1)
      case measure => omega
      case rel => exact ⟨i + 1, nA, nc, _, q, by rfl, by rw [List.length_append] <;> rfl, by omega, by omega, Lib.hid Hq.out, HO2, HK2, Lib.hid (by rw [← HE.out, List.flatMap_cons, Hesc.out, List.append_assoc])⟩
    have b1 : (cv == 34) = false := beq_eq_false_iff_ne.2 h34
    by_cases h92 : cv = 92
    · have hch : ch = 92 := H92.out.2 h92
      have Hesc := Lib.hid (show esc ch = [92, 92] by rw [hch]; rfl)
      subst h92
      clear hch h34
      go_wp2_with (first
       | ((with_reducible refine at_dst (N := 37) rfl ?_); go_must (refine ev_slice (cs := #[.int .u8 92, .int .u8 92]) (t := 5) (n := 2) (c := 2) rfl (by first | (go_simp; done) | (go_simp; rfl)) ?_; intro gb wb hgb hlb hbb hkb)
          have Hbb := Lib.hid hbb
          have HKb := Lib.hid (HK.out.trans hkb (fun _ _ h => h))
          have HOb := Lib.hid (HO.out.keep hkb (fun _ _ => id))
          clear hbb hkb hgb hlb
          (try simp only [PU]))
       | ((with_reducible refine at_dst (N := 38) rfl ?_); go_must (refine ev_app_sl rfl rfl byteT38 (base := W.heap.size) rfl HOb.out rfl (news := [92, 92]) rfl (fun _ => ⟨_, rfl, news_made Hbb.out rfl⟩) (by have := Hol.out; omega) HKb.out.size ?_; intro v' wc ho2 ha2; obtain ⟨nA, nc, hv'⟩ := ho2.slice; subst hv')
          have HO2 := Lib.hid ho2
          have HK2 := Lib.hid (HKb.out.trans ha2.keep (fun i hi e => by have := (HOb.out.lt i e.symm).1; omega))
          clear ho2 ha2
          (try simp only [PU]))
      )
      go_roundg (n - i - 1)
      case measure => omega
      case rel => exact ⟨i + 1, nA, nc, _, q, by rfl, by rw [List.length_append] <;> rfl, by omega, by omega, Lib.hid Hq.out, HO2, HK2, Lib.hid (by rw [← HE.out, List.flatMap_cons, Hesc.out, List.append_assoc])⟩
    have b2 : (cv == 92) = false := beq_eq_false_iff_ne.2 h92
    by_cases h10 : cv = 10
    · have hch : ch = 10 := H10.out.2 h10
      have Hesc := Lib.hid (show esc ch = [92, 110] by rw [hch]; rfl)
      subst h10
      clear hch h34 h92
      go_wp2_with (first
       | ((with_reducible refine at_dst (N := 43) rfl ?_); go_must (refine ev_slice (cs := #[.int .u8 92, .int .u8 110]) (t := 5) (n := 2) (c := 2) rfl (by first | (go_simp; done) | (go_simp; rfl)) ?_; intro gb wb hgb hlb hbb hkb)
          have Hbb := Lib.hid hbb
          have HKb := Lib.hid (HK.out.trans hkb (fun _ _ h => h))
          have HOb := Lib.hid (HO.out.keep hkb (fun _ _ => id))
          clear hbb hkb hgb hlb
          (try simp only [PU]))
       | ((with_reducible refine at_dst (N := 44) rfl ?_); go_must (refine ev_app_sl rfl rfl byteT38 (base := W.heap.size) rfl HOb.out rfl (news := [92, 110]) rfl (fun _ => ⟨_, rfl, news_made Hbb.out rfl⟩) (by have := Hol.out; omega) HKb.out.size ?_; intro v' wc ho2 ha2; obtain ⟨nA, nc, hv'⟩ := ho2.slice; subst hv')
          have HO2 := Lib.hid ho2
          have HK2 := Lib.hid (HKb.out.trans ha2.keep (fun i hi e => by have := (HOb.out.lt i e.symm).1; omega))
          clear ho2 ha2
          (try simp only [PU]))
      )
      go_roundg (n - i - 1)
      case measure => omega
      case rel => exact ⟨i + 1, nA, nc, _, q, by rfl, by rw [List.length_append] <;> rfl, by omega, by omega, Lib.hid Hq.out, HO2, HK2, Lib.hid (by rw [← HE.out, List.flatMap_cons, Hesc.out, List.append_assoc])⟩
    have b3 : (cv == 10) = false := beq_eq_false_iff_ne.2 h10
    have hesc0 : esc ch = if ch < 32 ∨ 126 < ch then [92, 117, 48, 48, hexB (ch / 16), hexB (ch % 16)] else [ch] := by
     unfold esc
     have a1 : ch ≠ 34 := fun e => h34 (H34.out.1 e)
     have a2 : ch ≠ 92 := fun e => h92 (H92.out.1 e)
     have a3 : ch ≠ 10 := fun e => h10 (H10.out.1 e)
     rw [if_neg (by simp only [not_or]; exact ⟨a1, a2⟩), if_neg a3]
    have hlow : ch < 32 ↔ cv < 32 := by rw [UInt8.lt_iff_toNat_lt]; have := Hcv.out; show ch.toNat < 32 ↔ _; omega
    have hhigh : 126 < ch ↔ 126 < cv := by rw [UInt8.lt_iff_toNat_lt]; have := Hcv.out; show 126 < ch.toNat ↔ _; omega
    clear h34 h92 h10
    by_cases hpl : 32 ≤ cv ∧ cv ≤ 126
    · have Hesc := Lib.hid (show esc ch = [ch] by rw [hesc0, if_neg (by rw [hlow, hhigh]; omega)])
      obtain ⟨hpl1, hpl2⟩ := hpl
      have hpl3 : cv < 127 := by omega
      clear hesc0 hlow hhigh
      go_wp2_with (first
       | ((with_reducible refine at_dst (N := 54) rfl ?_); go_must (refine ev_slice (cs := #[.int .u8 cv]) (t := 5) (n := 1) (c := 1) rfl (by first | (go_simp; done) | (go_simp; rfl)) ?_; intro gb wb hgb hlb hbb hkb)
          have Hbb := Lib.hid hbb
          have HKb := Lib.hid (HK.out.trans hkb (fun _ _ h => h))
          have HOb := Lib.hid (HO.out.keep hkb (fun _ _ => id))
          clear hbb hkb hgb hlb
          (try simp only [PU]))
       | ((with_reducible refine at_dst (N := 55) rfl ?_); go_must (refine ev_app_sl rfl rfl byteT38 (base := W.heap.size) rfl HOb.out rfl (news := [ch]) rfl (fun _ => ⟨_, rfl, news_made Hbb.out (byteV1 Hcv.out)⟩) (by have := Hol.out; omega) HKb.out.size ?_; intro v' wc ho2 ha2; obtain ⟨nA, nc, hv'⟩ := ho2.slice; subst hv')
          have HO2 := Lib.hid ho2
          have HK2 := Lib.hid (HKb.out.trans ha2.keep (fun i hi e => by have := (HOb.out.lt i e.symm).1; omega))
          clear ho2 ha2
          (try simp only [PU]))
      )
      go_roundg (n - i - 1)
      case measure => omega
      case rel => exact ⟨i + 1, nA, nc, _, q, by rfl, by rw [List.length_append] <;> rfl, by omega, by omega, Lib.hid Hq.out, HO2, HK2, Lib.hid (by rw [← HE.out, List.flatMap_cons, Hesc.out, List.append_assoc])⟩
    · have Hesc := Lib.hid (show esc ch = [92, 117, 48, 48, hexB (ch / 16), hexB (ch % 16)] by rw [hesc0, if_pos (by rw [hlow, hhigh]; omega)])
      clear hesc0 hlow hhigh
      by_cases hlo : cv < 32
      · clear hpl
        have hq1 : 0 ≤ cv / 16 := by omega
        have hq2 : 0 ≤ cv % 16 := by omega
        obtain ⟨d1, hd1⟩ : ∃ x, hexB (ch / 16) = x := ⟨_, rfl⟩
        obtain ⟨d2, hd2⟩ : ∃ x, hexB (ch % 16) = x := ⟨_, rfl⟩
        rw [hd1, hd2] at Hesc
        have hz1 : (({ data := #[48, 49, 50, 51, 52, 53, 54, 55, 56, 57, 97, 98, 99, 100, 101, 102] } : ByteArray)[(cv / 16).toNat]?) = some d1 := by
         rw [hex_index _ (by omega), ← hd1]
         congr 2
         apply UInt8.toNat.inj
         rw [UInt8.toNat_div]
         have h2 := Hcv.out
         simp
         omega
        have hz2 : (({ data := #[48, 49, 50, 51, 52, 53, 54, 55, 56, 57, 97, 98, 99, 100, 101, 102] } : ByteArray)[(cv % 16).toNat]?) = some d2 := by
         rw [hex_index _ (by omega), ← hd2]
         congr 2
         apply UInt8.toNat.inj
         rw [UInt8.toNat_mod]
         have h2 := Hcv.out
         simp
         omega
        have hq3 : cv / 16 < 16 := by omega
        have hq4 : cv % 16 < 16 := by omega
        have hl1 : (cv / 16).toNat < ({ data := #[48, 49, 50, 51, 52, 53, 54, 55, 56, 57, 97, 98, 99, 100, 101, 102] } : ByteArray).size := by show (cv / 16).toNat < 16; omega
        have hl2 : (cv % 16).toNat < ({ data := #[48, 49, 50, 51, 52, 53, 54, 55, 56, 57, 97, 98, 99, 100, 101, 102] } : ByteArray).size := by show (cv % 16).toNat < 16; omega
        have hx1 : ({ data := #[48, 49, 50, 51, 52, 53, 54, 55, 56, 57, 97, 98, 99, 100, 101, 102] } : ByteArray)[(cv / 16).toNat]'hl1 = d1 := Option.some.inj ((getElem?_pos ({ data := #[48, 49, 50, 51, 52, 53, 54, 55, 56, 57, 97, 98, 99, 100, 101, 102] } : ByteArray) (cv / 16).toNat hl1).symm.trans hz1)
        have hx2 : ({ data := #[48, 49, 50, 51, 52, 53, 54, 55, 56, 57, 97, 98, 99, 100, 101, 102] } : ByteArray)[(cv % 16).toNat]'hl2 = d2 := Option.some.inj ((getElem?_pos ({ data := #[48, 49, 50, 51, 52, 53, 54, 55, 56, 57, 97, 98, 99, 100, 101, 102] } : ByteArray) (cv % 16).toNat hl2).symm.trans hz2)
        have htd : cv.tdiv 16 = cv / 16 := Int.tdiv_eq_ediv_of_nonneg hcr.1
        have htm : cv.tmod 16 = cv % 16 := Int.tmod_eq_emod_of_nonneg hcr.1
        have hwr1 : IntKind.u8.wrap (cv / 16) = cv / 16 := by simp [IntKind.wrap, IntKind.bits, IntKind.signed]; omega
        have hwr2 : IntKind.u8.wrap (cv % 16) = cv % 16 := by simp [IntKind.wrap, IntKind.bits, IntKind.signed]; omega
        clear hz1 hz2 hd1 hd2
        go_wp2_with fail
        refine wp_region_tree (.q 0 (.q 1 (.q 2 (.q 3 (.q 4 (.q 5 (.q 6 (.q 7 (.q 8 (.br [9] (fun k => .br [10] (fun k => .q 11 (.done))))))))))))) (fun w' => True) rfl (by kernel_rfl) (by kernel_rfl) (fun c a d v w h => by cases d <;> exact h) trivial ?_
        refine tq (some 17) ?_; (try simp only [PU])
        refine tq (some 18) ?_; (try simp only [PU])
        refine tq (some 19) ?_; (try simp only [PU])
        refine tq (some 20) ?_; (try simp only [PU])
        refine tq (some 21) ?_; (try simp only [PU])
        refine tq (some 22) ?_; (try simp only [PU])
        refine tq (some 23) ?_; (try simp only [PU])
        refine tq (some 24) ?_; (try simp only [PU])
        refine tq (some 25) ?_; (try simp only [PU])
        refine tree_e rfl rfl ?_
        go_must (refine ev_slice (cs := #[.int .u8 92, .int .u8 117, .int .u8 48, .int .u8 48, .int .u8 d1.toNat, .int .u8 d2.toNat]) (t := 5) (n := 6) (c := 6) rfl (by first | (go_simp; done) | (go_simp; rfl)) ?_; intro gb wb hgb hlb hbb hkb)
        (try simp only [PU])
        have Hbb := Lib.hid hbb
        have HKb := Lib.hid ((HK.out.then (Keeps.refl Nob wr).drew).trans hkb (fun _ _ h => h))
        have HOb := Lib.hid ((HO.out.keep (Keeps.refl Nob wr).drew (fun _ _ => id)).keep hkb (fun _ _ => id))
        clear hbb hkb hgb hlb
        refine wpList_nil ⟨trivial, ?_⟩
        refine tree_e rfl rfl ?_
        go_must (refine ev_app_sl rfl rfl byteT38 (base := W.heap.size) rfl HOb.out rfl (news := [92, 117, 48, 48, d1, d2]) rfl (fun _ => ⟨_, rfl, news_made Hbb.out rfl⟩) (by have := Hol.out; omega) HKb.out.size ?_; intro v' wc ho2 ha2; obtain ⟨nA, nc, hv'⟩ := ho2.slice; subst hv')
        (try simp only [PU])
        have HO2 := Lib.hid ho2
        have HK2 := Lib.hid (HKb.out.trans ha2.keep (fun i hi e => by have := (HOb.out.lt i e.symm).1; omega))
        clear ho2 ha2
        refine wpList_nil ⟨trivial, ?_⟩
        refine tq (some 4) ?_; (try simp only [PU])
        refine tree_nil ?_
        go_wp2
        go_roundg (n - i - 1)
        case measure => omega
        case rel => exact ⟨i + 1, nA, nc, _, q, by rfl, by rw [List.length_append] <;> rfl, by omega, by omega, Lib.hid Hq.out, HO2, HK2, Lib.hid (by rw [← HE.out, List.flatMap_cons, Hesc.out, List.append_assoc])⟩
      · have hhi : 127 ≤ cv := by omega
        have hge : 32 ≤ cv := by omega
        clear hpl hlo
        have hq1 : 0 ≤ cv / 16 := by omega
        have hq2 : 0 ≤ cv % 16 := by omega
        obtain ⟨d1, hd1⟩ : ∃ x, hexB (ch / 16) = x := ⟨_, rfl⟩
        obtain ⟨d2, hd2⟩ : ∃ x, hexB (ch % 16) = x := ⟨_, rfl⟩
        rw [hd1, hd2] at Hesc
        have hz1 : (({ data := #[48, 49, 50, 51, 52, 53, 54, 55, 56, 57, 97, 98, 99, 100, 101, 102] } : ByteArray)[(cv / 16).toNat]?) = some d1 := by
         rw [hex_index _ (by omega), ← hd1]
         congr 2
         apply UInt8.toNat.inj
         rw [UInt8.toNat_div]
         have h2 := Hcv.out
         simp
         omega
        have hz2 : (({ data := #[48, 49, 50, 51, 52, 53, 54, 55, 56, 57, 97, 98, 99, 100, 101, 102] } : ByteArray)[(cv % 16).toNat]?) = some d2 := by
         rw [hex_index _ (by omega), ← hd2]
         congr 2
         apply UInt8.toNat.inj
         rw [UInt8.toNat_mod]
         have h2 := Hcv.out
         simp
         omega
        have hq3 : cv / 16 < 16 := by omega
        have hq4 : cv % 16 < 16 := by omega
        have hl1 : (cv / 16).toNat < ({ data := #[48, 49, 50, 51, 52, 53, 54, 55, 56, 57, 97, 98, 99, 100, 101, 102] } : ByteArray).size := by show (cv / 16).toNat < 16; omega
        have hl2 : (cv % 16).toNat < ({ data := #[48, 49, 50, 51, 52, 53, 54, 55, 56, 57, 97, 98, 99, 100, 101, 102] } : ByteArray).size := by show (cv % 16).toNat < 16; omega
        have hx1 : ({ data := #[48, 49, 50, 51, 52, 53, 54, 55, 56, 57, 97, 98, 99, 100, 101, 102] } : ByteArray)[(cv / 16).toNat]'hl1 = d1 := Option.some.inj ((getElem?_pos ({ data := #[48, 49, 50, 51, 52, 53, 54, 55, 56, 57, 97, 98, 99, 100, 101, 102] } : ByteArray) (cv / 16).toNat hl1).symm.trans hz1)
        have hx2 : ({ data := #[48, 49, 50, 51, 52, 53, 54, 55, 56, 57, 97, 98, 99, 100, 101, 102] } : ByteArray)[(cv % 16).toNat]'hl2 = d2 := Option.some.inj ((getElem?_pos ({ data := #[48, 49, 50, 51, 52, 53, 54, 55, 56, 57, 97, 98, 99, 100, 101, 102] } : ByteArray) (cv % 16).toNat hl2).symm.trans hz2)
        have htd : cv.tdiv 16 = cv / 16 := Int.tdiv_eq_ediv_of_nonneg hcr.1
        have htm : cv.tmod 16 = cv % 16 := Int.tmod_eq_emod_of_nonneg hcr.1
        have hwr1 : IntKind.u8.wrap (cv / 16) = cv / 16 := by simp [IntKind.wrap, IntKind.bits, IntKind.signed]; omega
        have hwr2 : IntKind.u8.wrap (cv % 16) = cv % 16 := by simp [IntKind.wrap, IntKind.bits, IntKind.signed]; omega
        clear hz1 hz2 hd1 hd2
        go_wp2_with fail
        refine wp_region_tree (.q 0 (.q 1 (.q 2 (.q 3 (.q 4 (.q 5 (.q 6 (.q 7 (.q 8 (.br [9] (fun k => .br [10] (fun k => .q 11 (.done))))))))))))) (fun w' => True) rfl (by kernel_rfl) (by kernel_rfl) (fun c a d v w h => by cases d <;> exact h) trivial ?_
        refine tq (some 17) ?_; (try simp only [PU])
        refine tq (some 18) ?_; (try simp only [PU])
        refine tq (some 19) ?_; (try simp only [PU])
        refine tq (some 20) ?_; (try simp only [PU])
        refine tq (some 21) ?_; (try simp only [PU])
        refine tq (some 22) ?_; (try simp only [PU])
        refine tq (some 23) ?_; (try simp only [PU])
        refine tq (some 24) ?_; (try simp only [PU])
        refine tq (some 25) ?_; (try simp only [PU])
        refine tree_e rfl rfl ?_
        go_must (refine ev_slice (cs := #[.int .u8 92, .int .u8 117, .int .u8 48, .int .u8 48, .int .u8 d1.toNat, .int .u8 d2.toNat]) (t := 5) (n := 6) (c := 6) rfl (by first | (go_simp; done) | (go_simp; rfl)) ?_; intro gb wb hgb hlb hbb hkb)
        (try simp only [PU])
        have Hbb := Lib.hid hbb
        have HKb := Lib.hid ((HK.out.then (Keeps.refl Nob wr).drew).trans hkb (fun _ _ h => h))
        have HOb := Lib.hid ((HO.out.keep (Keeps.refl Nob wr).drew (fun _ _ => id)).keep hkb (fun _ _ => id))
        clear hbb hkb hgb hlb
        refine wpList_nil ⟨trivial, ?_⟩
        refine tree_e rfl rfl ?_
        go_must (refine ev_app_sl rfl rfl byteT38 (base := W.heap.size) rfl HOb.out rfl (news := [92, 117, 48, 48, d1, d2]) rfl (fun _ => ⟨_, rfl, news_made Hbb.out rfl⟩) (by have := Hol.out; omega) HKb.out.size ?_; intro v' wc ho2 ha2; obtain ⟨nA, nc, hv'⟩ := ho2.slice; subst hv')
        (try simp only [PU])
        have HO2 := Lib.hid ho2
        have HK2 := Lib.hid (HKb.out.trans ha2.keep (fun i hi e => by have := (HOb.out.lt i e.symm).1; omega))
        clear ho2 ha2
        refine wpList_nil ⟨trivial, ?_⟩
        refine tq (some 4) ?_; (try simp only [PU])
        refine tree_nil ?_
        go_wp2
        go_roundg (n - i - 1)
        case measure => omega
        case rel => exact ⟨i + 1, nA, nc, _, q, by rfl, by rw [List.length_append] <;> rfl, by omega, by omega, Lib.hid Hq.out, HO2, HK2, Lib.hid (by rw [← HE.out, List.flatMap_cons, Hesc.out, List.append_assoc])⟩
end Go.Proofs.WV
