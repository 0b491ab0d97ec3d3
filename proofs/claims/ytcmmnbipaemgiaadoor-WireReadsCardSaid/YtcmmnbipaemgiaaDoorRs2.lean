/-
 Whether two values are the same, by the program (Same) and by the specification, in memory. Condition: both lie, and are not larger than an int counts.
-/
import Derived.Test.YtcmmnbipaemgiaaDoorRs1
import Derived.Deep.LoopGhost
import Derived.Deep.DeepCutAuto
import Derived.Deep.CutBlock
import Derived.Shelf.Bytes.SlSmallAll
namespace Go.Proofs.WV
open Go.RowKit Go.Proofs.KL Go.Proofs.WM
set_option maxRecDepth 100000
set_option linter.unusedSimpArgs false
set_option linter.unusedVariables false

theorem equal54 {W : World} {X Y : Nat → Prop} {v v' : Value} {ks ks' : List ByteArray} (h : StrsX W X v ks) (h' : StrsX W Y v' ks') (hl : ks.length ≤ 1000000000000) (hl' : ks'.length ≤ 1000000000000) :
  Calls Tryd.prog 54 #[v, v'] W fun e w' => e = .returned (.bool (decide (ks = ks'))) ∧ Keeps Nob W w' := by
 obtain ⟨A, c, rfl, hc, hx⟩ := h
 obtain ⟨A', c', rfl, hc', hx'⟩ := h'
 by_cases hn : ks.length = ks'.length
 · by_cases h0 : ks.length = 0
   · have e1 : ks = [] := List.length_eq_zero_iff.1 h0
     have e2 : ks' = [] := List.length_eq_zero_iff.1 (by omega)
     subst e1 e2
     refine (Tryd.slices_Equal_string_empty A A' c 0 c' W (by omega)).mono ?_
     rintro e w' ⟨rfl, rfl⟩
     exact ⟨rfl, Keeps.refl _ _⟩
   · obtain ⟨b, o, rfl, -, -⟩ := hx 0 (by omega)
     obtain ⟨b', o', rfl, -, -⟩ := hx' 0 (by omega)
     have g1 : ∀ j, j < ks.length → W.cell? ⟨b, o + j, none⟩ = some (.string (ks.getD j ByteArray.empty)) := fun j hj => by
      obtain ⟨b2, o2, e, -, hcell⟩ := hx j hj
      injection e with e; injection e with e1 e2; subst e1 e2; exact hcell
     have g2 : ∀ j, j < ks'.length → W.cell? ⟨b', o' + j, none⟩ = some (.string (ks'.getD j ByteArray.empty)) := fun j hj => by
      obtain ⟨b2, o2, e, -, hcell⟩ := hx' j hj
      injection e with e; injection e with e1 e2; subst e1 e2; exact hcell
     refine (Tryd.slices_Equal_string b o ks.length c b' o' ks'.length c' ks ks' W (Nat.le_refl _) (Nat.le_refl _) (by omega) (by omega) g1 g2).mono ?_
     rintro e w' ⟨rfl, q, rfl⟩
     rw [List.take_length, List.take_length]
     exact ⟨rfl, Keeps.drewN (Keeps.refl _ _) q⟩
 · refine (Tryd.slices_Equal_string_lens A A' ks.length c ks'.length c' W hn).mono ?_
   rintro e w' ⟨rfl, rfl⟩
   rw [decide_eq_false (fun e : ks = ks' => hn (by rw [e]))]
   exact ⟨rfl, Keeps.refl _ _⟩
theorem sameL_len : ∀ (a b : List J), a.length ≠ b.length → sameL a b = false
 | [], [], h => absurd rfl h
 | [], _ :: _, _ => by unfold sameL; rfl
 | _ :: _, [], _ => by unfold sameL; rfl
 | v :: r, v' :: r', h => by unfold sameL; rw [sameL_len r r' (by simpa using h), Bool.and_false]
theorem sameL_get : ∀ (a b : List J), a.length = b.length → (sameL a b = true ↔ ∀ i, i < a.length → sameJ (a.getD i default) (b.getD i default) = true)
 | [], [], _ => by unfold sameL; simp
 | v :: r, v' :: r', h => by
   unfold sameL
   rw [Bool.and_eq_true, sameL_get r r' (by simpa using h)]
   constructor
   · rintro ⟨h1, h2⟩ i hi
     cases i with
     | zero => simpa using h1
     | succ i => simp only [List.getD_cons_succ]; exact h2 i (by simpa using hi)
   · intro h3
     exact ⟨by simpa using h3 0 (by simp), fun i hi => by simpa using h3 (i + 1) (by simpa using hi)⟩
set_option maxHeartbeats 4000000 in
theorem equal55 {w W : World} {X Y : Nat → Prop} {A A' : Option Addr} {c c' : Nat} {u u' : Nat → Nat → Value} {vs vs' : List J} (hw : Keeps Nob w W) (hl : vs.length ≤ 1000000000000) (hl' : vs'.length ≤ 1000000000000)
  (hA : ∀ i, i < vs.length → ∃ b o, A = some ⟨b, o, none⟩ ∧ X b ∧ Six w b (o + i * 6) (u i 0) (u i 1) (u i 2) (u i 3) (u i 4) (u i 5))
  (hv : ∀ i, i < vs.length → JX w X (.agg #[u i 0, u i 1, u i 2, u i 3, u i 4, u i 5]) (vs.getD i default))
  (hA' : ∀ i, i < vs'.length → ∃ b o, A' = some ⟨b, o, none⟩ ∧ Y b ∧ Six w b (o + i * 6) (u' i 0) (u' i 1) (u' i 2) (u' i 3) (u' i 4) (u' i 5))
  (hv' : ∀ i, i < vs'.length → JX w Y (.agg #[u' i 0, u' i 1, u' i 2, u' i 3, u' i 4, u' i 5]) (vs'.getD i default))
  (hp : ∀ i, i < vs.length → i < vs'.length → ∀ W', Keeps Nob w W' → Calls Tryd.prog 23 #[.agg #[u i 0, u i 1, u i 2, u i 3, u i 4, u i 5], .agg #[u' i 0, u' i 1, u' i 2, u' i 3, u' i 4, u' i 5]] W' fun e w' => e = .returned (.bool (sameJ (vs.getD i default) (vs'.getD i default))) ∧ Keeps Nob W' w') :
  Calls Tryd.prog 55 #[.slice A vs.length c, .slice A' vs'.length c', .func (.func 23) #[] #[]] W fun e w' => e = .returned (.bool (sameL vs vs')) ∧ Keeps Nob W w' := by
 obtain ⟨i25, hi25, hs25⟩ := info25
 have HI := Lib.hid (And.intro hi25 hs25)
 have HA := Lib.hid hA
 have HV := Lib.hid hv
 have HA' := Lib.hid hA'
 have HV' := Lib.hid hv'
 have HP := Lib.hid hp
 have HW := Lib.hid hw
 clear hA hv hA' hv' hp hw hi25 hs25
 by_cases hn : vs.length = vs'.length
 · rw [← hn] at hl' ⊢
   obtain ⟨R, hR⟩ : ∃ x, sameL vs vs' = x := ⟨_, rfl⟩
   rw [hR]
   have HR := Lib.hid hR
   obtain ⟨len, hlen⟩ : ∃ x, vs.length = x := ⟨_, rfl⟩
   have Hlen := Lib.hid (And.intro hlen (show vs'.length = len by omega))
   rw [hlen] at hl ⊢
   clear hR hlen hn hl'
   go_enter Tryd.func55, Tryd.ntmps55
   go_wp2
   go_loopw [7, 8, 9, 17] (fun n1 n2 n3 iv wr => ∃ j : Nat, iv = .int .i64 j ∧ j ≤ len ∧ Hid (Keeps Nob W wr) ∧ Hid (∀ i, i < j → sameJ (vs.getD i default) (vs'.getD i default) = true)) (fun _ _ _ iv _ => len - (intOf iv).toNat)
   case atStart => exact ⟨0, rfl, Nat.zero_le _, Lib.hid (Keeps.refl _ _), Lib.hid (fun i h => absurd h (Nat.not_lt_zero _))⟩
   case round =>
    obtain ⟨j, rfl, hj, HKr, HF⟩ := hrel
    by_cases hlt : j < len
    · obtain ⟨b1, o1, rfl, -, h6⟩ := HA.out j (by rw [Hlen.out.1]; exact hlt)
      obtain ⟨b2, o2, rfl, -, h6'⟩ := HA'.out j (by rw [Hlen.out.2]; exact hlt)
      obtain ⟨⟨e0, e1, e2⟩, e3, e4, e5⟩ := h6.keep (HW.out.trans HKr.out (fun _ _ h => h)) id
      have H6' := Lib.hid (h6'.keep (HW.out.trans HKr.out (fun _ _ h => h)) id)
      have Hrun := Lib.hid (fun W' hk => HP.out j (by rw [Hlen.out.1]; exact hlt) (by rw [Hlen.out.2]; exact hlt) W' hk)
      have hsix := (HV.out j (by rw [Hlen.out.1]; exact hlt)).six
      have hsix' := (HV'.out j (by rw [Hlen.out.2]; exact hlt)).six
      generalize u j 0 = x0 at *
      generalize u j 1 = x1 at *
      generalize u j 2 = x2 at *
      generalize u j 3 = x3 at *
      generalize u j 4 = x4 at *
      generalize u j 5 = x5 at *
      generalize u' j 0 = x0' at *
      generalize u' j 1 = x1' at *
      generalize u' j 2 = x2' at *
      generalize u' j 3 = x3' at *
      generalize u' j 4 = x4' at *
      generalize u' j 5 = x5' at *
      obtain ⟨y0, y1, y2, y3, yA, yn, yc, yB, ym, yd, ⟨rfl, rfl, rfl⟩, rfl, rfl, rfl⟩ := hsix
      obtain ⟨z0, z1, z2, z3, zA, zn, zc, zB, zm, zd, ⟨rfl, rfl, rfl⟩, rfl, rfl, rfl⟩ := hsix'
      obtain ⟨fj, hfj⟩ : ∃ x, sameJ (vs.getD j default) (vs'.getD j default) = x := ⟨_, rfl⟩
      rw [hfj] at Hrun
      have Hfj := Lib.hid hfj
      clear h6 h6' hfj
      cases fj
      · skip
        go_wp2_with (first
         | ((with_reducible refine at_dst (N := 8) rfl ?_); go_must (refine ev_alloc rfl rfl zero25 rfl ?_; intro g5 w2 hg5 hl5 hb5 hk5)
            have Hb5 := Lib.hid hb5
            have HK2 := Lib.hid hk5
            clear hb5 hk5
            (try simp only [PU]))
         | ((with_reducible refine at_store (t := 25) (p := 8) rfl ?_); go_must (refine ev_store (cs' := #[.int .i64 y0, .bool y1, .int .i64 y2, .string y3, .slice yA yn yc, .slice yB ym yd]) rfl rfl rfl rfl rfl rfl HI.out.1 HI.out.2 rfl Hb5.out (Nat.le_of_ble_eq_true rfl) rfl ?_; intro w3 hb3 hk3)
            have HKa := Lib.hid (show Keeps Nob wr w3 from HK2.out.own hk3 hg5)
            have HK3 := Lib.hid (show Keeps Nob W w3 from HKr.out.trans HKa.out (fun _ _ h => h))
            have Hb3 := Lib.hid hb3
            clear e0 e1 e2 e3 e4 e5
            obtain ⟨⟨e0, e1, e2⟩, e3, e4, e5⟩ := H6'.out.keep HKa.out id
            clear hb3 hk3
            (try simp only [PU]))
         | ((with_reducible refine at_dst (N := 9) rfl ?_); go_must (refine ev_alloc rfl rfl zero25 rfl ?_; intro g6 w4 hg6 hl6 hb6 hk6)
            have Hb6 := Lib.hid hb6
            have HK4 := Lib.hid hk6
            clear hb6 hk6
            (try simp only [PU]))
         | ((with_reducible refine at_store (t := 25) (p := 9) rfl ?_); go_must (refine ev_store (cs' := #[.int .i64 z0, .bool z1, .int .i64 z2, .string z3, .slice zA zn zc, .slice zB zm zd]) rfl rfl rfl rfl rfl rfl HI.out.1 HI.out.2 rfl Hb6.out (Nat.le_of_ble_eq_true rfl) rfl ?_; intro w5 hb7 hk7)
            have HKb := Lib.hid (show Keeps Nob w3 w5 from HK4.out.own hk7 hg6)
            have HK5 := Lib.hid (show Keeps Nob W w5 from HK3.out.trans HKb.out (fun _ _ h => h))
            have hb8 := HKb.out.blk Hb3.out id
            have s0 := (blk_cell hb8 0).trans rfl
            have s1 := (blk_cell hb8 1).trans rfl
            have s2 := (blk_cell hb8 2).trans rfl
            have s3 := (blk_cell hb8 3).trans rfl
            have s4 := (blk_cell hb8 4).trans rfl
            have s5 := (blk_cell hb8 5).trans rfl
            have r0 := (blk_cell hb7 0).trans rfl
            have r1 := (blk_cell hb7 1).trans rfl
            have r2 := (blk_cell hb7 2).trans rfl
            have r3 := (blk_cell hb7 3).trans rfl
            have r4 := (blk_cell hb7 4).trans rfl
            have r5 := (blk_cell hb7 5).trans rfl
            clear hb7 hk7 hb8
            (try simp only [PU]))
         | (go_at_call 23; go_must (refine (Hrun.out w5 (HW.out.trans HK5.out (fun _ _ h => h))).mono ?_; rintro e w6 ⟨rfl, hk8⟩); have HK6 := Lib.hid (HK5.out.trans hk8 (fun _ _ h => h)); clear hk8; (try simp only [PU]))
        )
        go_ret
        refine ⟨?_, HK6.out⟩
        rcases hfl : sameL vs vs' with _ | _
        · rw [← HR.out, hfl]; rfl
        · have := (sameL_get vs vs' (by rw [Hlen.out.1, Hlen.out.2])).1 hfl j (by rw [Hlen.out.1]; exact hlt)
          rw [Hfj.out] at this
          cases this
      · skip
        go_wp2_with (first
         | ((with_reducible refine at_dst (N := 8) rfl ?_); go_must (refine ev_alloc rfl rfl zero25 rfl ?_; intro g5 w2 hg5 hl5 hb5 hk5)
            have Hb5 := Lib.hid hb5
            have HK2 := Lib.hid hk5
            clear hb5 hk5
            (try simp only [PU]))
         | ((with_reducible refine at_store (t := 25) (p := 8) rfl ?_); go_must (refine ev_store (cs' := #[.int .i64 y0, .bool y1, .int .i64 y2, .string y3, .slice yA yn yc, .slice yB ym yd]) rfl rfl rfl rfl rfl rfl HI.out.1 HI.out.2 rfl Hb5.out (Nat.le_of_ble_eq_true rfl) rfl ?_; intro w3 hb3 hk3)
            have HKa := Lib.hid (show Keeps Nob wr w3 from HK2.out.own hk3 hg5)
            have HK3 := Lib.hid (show Keeps Nob W w3 from HKr.out.trans HKa.out (fun _ _ h => h))
            have Hb3 := Lib.hid hb3
            clear e0 e1 e2 e3 e4 e5
            obtain ⟨⟨e0, e1, e2⟩, e3, e4, e5⟩ := H6'.out.keep HKa.out id
            clear hb3 hk3
            (try simp only [PU]))
         | ((with_reducible refine at_dst (N := 9) rfl ?_); go_must (refine ev_alloc rfl rfl zero25 rfl ?_; intro g6 w4 hg6 hl6 hb6 hk6)
            have Hb6 := Lib.hid hb6
            have HK4 := Lib.hid hk6
            clear hb6 hk6
            (try simp only [PU]))
         | ((with_reducible refine at_store (t := 25) (p := 9) rfl ?_); go_must (refine ev_store (cs' := #[.int .i64 z0, .bool z1, .int .i64 z2, .string z3, .slice zA zn zc, .slice zB zm zd]) rfl rfl rfl rfl rfl rfl HI.out.1 HI.out.2 rfl Hb6.out (Nat.le_of_ble_eq_true rfl) rfl ?_; intro w5 hb7 hk7)
            have HKb := Lib.hid (show Keeps Nob w3 w5 from HK4.out.own hk7 hg6)
            have HK5 := Lib.hid (show Keeps Nob W w5 from HK3.out.trans HKb.out (fun _ _ h => h))
            have hb8 := HKb.out.blk Hb3.out id
            have s0 := (blk_cell hb8 0).trans rfl
            have s1 := (blk_cell hb8 1).trans rfl
            have s2 := (blk_cell hb8 2).trans rfl
            have s3 := (blk_cell hb8 3).trans rfl
            have s4 := (blk_cell hb8 4).trans rfl
            have s5 := (blk_cell hb8 5).trans rfl
            have r0 := (blk_cell hb7 0).trans rfl
            have r1 := (blk_cell hb7 1).trans rfl
            have r2 := (blk_cell hb7 2).trans rfl
            have r3 := (blk_cell hb7 3).trans rfl
            have r4 := (blk_cell hb7 4).trans rfl
            have r5 := (blk_cell hb7 5).trans rfl
            clear hb7 hk7 hb8
            (try simp only [PU]))
         | (go_at_call 23; go_must (refine (Hrun.out w5 (HW.out.trans HK5.out (fun _ _ h => h))).mono ?_; rintro e w6 ⟨rfl, hk8⟩); have HK6 := Lib.hid (HK5.out.trans hk8 (fun _ _ h => h)); clear hk8; (try simp only [PU]))
        )
        go_roundw
        case rel =>
         refine ⟨j + 1, by go_num, by omega, HK6, Lib.hid (fun i hi => ?_)⟩
         by_cases e : i = j
         · rw [e]; exact Hfj.out
         · exact HF.out i (by omega)
        case measure => simp [intOf]; omega
    · have hj' : j = len := by omega
      subst hj'
      go_wp2
      go_ret
      have hfl := (sameL_get vs vs' (by rw [Hlen.out.1, Hlen.out.2])).2 (fun i hi => HF.out i (by rw [← Hlen.out.1]; exact hi))
      rw [HR.out] at hfl
      exact ⟨by rw [hfl]; rfl, HKr.out⟩
 · rw [sameL_len vs vs' hn]
   generalize vs.length = n at *
   generalize vs'.length = n' at *
   go_enter Tryd.func55, Tryd.ntmps55
   go_wp2
   go_ret
   exact ⟨rfl, Keeps.refl _ _⟩
end Go.Proofs.WV

namespace Go.Proofs.WV
open Go.RowKit Go.Proofs.KL Go.Proofs.WM
set_option maxRecDepth 100000
set_option linter.unusedSimpArgs false
set_option linter.unusedVariables false

def sameC (k k' : Int) (b b' : Bool) (n n' : Int) (t t' : ByteArray) (E1 E2 : Bool) : Bool := decide (k = k') && (b == b') && decide (n = n') && decide (t.toList = t'.toList) && E1 && E2
theorem str_eq (t t' : ByteArray) : decide (t = t') = decide (t.toList = t'.toList) := by
 rw [decide_eq_decide, Lib.toList_data, Lib.toList_data]
 constructor
 · rintro rfl; rfl
 · intro h; obtain ⟨a⟩ := t; obtain ⟨a'⟩ := t'; have h2 : a = a' := Array.toList_inj.1 h; rw [h2]
set_option maxHeartbeats 4000000 in
theorem same23 {w : World} {X Y : Nat → Prop} {v : Value} {j : J} (h : JX w X v j) : ∀ (v2 : Value) (j2 : J), JX w Y v2 j2 → ∀ W, Keeps Nob w W → sizeJ j ≤ 1000000000000 → sizeJ j2 ≤ 1000000000000 → Calls Tryd.prog 23 #[v, v2] W fun e w' => e = .returned (.bool (sameJ j j2)) ∧ Keeps Nob W w' := by
 induction h with
 | mk k b n t ks vs kv A c u h1 hc hA hv ih =>
   intro v2 j2 h2 W hW hb hb2
   cases h2 with
   | mk k' b' n' t' ks' vs' kv' A' c' u' h1' hc' hA' hv' =>
     have hsz : vs.length ≤ 1000000000000 ∧ ks.length ≤ 1000000000000 ∧ sizeL vs ≤ 1000000000000 := by have h1 := size_len vs; unfold sizeJ at hb; omega
     have hsz2 : vs'.length ≤ 1000000000000 ∧ ks'.length ≤ 1000000000000 ∧ sizeL vs' ≤ 1000000000000 := by have h1 := size_len vs'; unfold sizeJ at hb2; omega
     obtain ⟨kA, kc, rfl, hkc, hkx⟩ := id h1
     obtain ⟨kA', kc', rfl, hkc', hkx'⟩ := id h1'
     have H54 := Lib.hid (fun W' (hk : Keeps Nob w W') => equal54 (h1.after hk) (h1'.after hk) hsz.2.1 hsz2.2.1)
     have H55 := Lib.hid (fun W' (hk : Keeps Nob w W') => equal55 (c := c) (c' := c') hk hsz.1 hsz2.1 hA hv hA' hv' (fun i hi hi' W'' hk' => ih i hi _ _ (hv' i hi') W'' hk'
      (by have := size_get (vs := vs) (i := i) hi; omega) (by have := size_get (vs := vs') (i := i) hi'; omega)))
     have HW := Lib.hid hW
     have hsame : sameJ (.mk k b n t ks vs) (.mk k' b' n' t' ks' vs') = sameC k k' b b' n n' t t' (decide (ks = ks')) (sameL vs vs') := by unfold sameJ sameC; rw [str_eq]
     rw [hsame]
     obtain ⟨E1, hE1⟩ : ∃ x, decide (ks = ks') = x := ⟨_, rfl⟩
     obtain ⟨E2, hE2⟩ : ∃ x, sameL vs vs' = x := ⟨_, rfl⟩
     rw [hE1] at H54 ⊢
     rw [hE2] at H55 ⊢
     generalize ks.length = nk at *
     generalize vs.length = nv at *
     generalize ks'.length = nk' at *
     generalize vs'.length = nv' at *
     clear h1 h1' hc hc' hA hA' hv hv' ih hW hb hb2 hsz hsz2 hkc hkc' hkx hkx' hsame hE1 hE2
     obtain ⟨R, hR⟩ : ∃ x, sameC k k' b b' n n' t t' E1 E2 = x := ⟨_, rfl⟩
     rw [hR]
     have HR := Lib.hid hR
     clear hR
     go_enter Tryd.func23, Tryd.ntmps23
     go_wp2_with (first
      | ((with_reducible refine at_dst (N := 2) rfl ?_); go_must (refine ev_box (cs := #[.int .i64 k, .bool b, .int .i64 n, .string t, .slice kA nk kc, .slice A nv c]) rfl rfl rfl ?_; intro g1 w1 hg1 hl1 hb1 hk1)
         have Hb1 := Lib.hid hb1
         have HK1 := Lib.hid hk1
         clear hb1 hk1
         (try simp only [PU]))
      | ((with_reducible refine at_dst (N := 3) rfl ?_); go_must (refine ev_box (cs := #[.int .i64 k', .bool b', .int .i64 n', .string t', .slice kA' nk' kc', .slice A' nv' c']) rfl rfl rfl ?_; intro g2 w2 hg2 hl2 hb2 hk2)
         have hb3 := hk2.blk Hb1.out id
         have s0 := (blk_cell hb3 0).trans rfl
         have s1 := (blk_cell hb3 1).trans rfl
         have s2 := (blk_cell hb3 2).trans rfl
         have s3 := (blk_cell hb3 3).trans rfl
         have s4 := (blk_cell hb3 4).trans rfl
         have r0 := (blk_cell hb2 0).trans rfl
         have r1 := (blk_cell hb2 1).trans rfl
         have r2 := (blk_cell hb2 2).trans rfl
         have r3 := (blk_cell hb2 3).trans rfl
         have r4 := (blk_cell hb2 4).trans rfl
         have Hb2 := Lib.hid (And.intro hb3 hb2)
         have HK2 := Lib.hid (HK1.out.trans hk2 (fun _ _ h => h))
         clear hb2 hk2 hb3
         (try simp only [PU]))
      | (go_at_call 54; go_must (refine (H54.out w2 (HW.out.trans HK2.out (fun _ _ h => h))).mono ?_; rintro e w3 ⟨rfl, hk3⟩)
         have s5 := (blk_cell (hk3.blk Hb2.out.1 id) 5).trans rfl
         have r5 := (blk_cell (hk3.blk Hb2.out.2 id) 5).trans rfl
         have HK3 := Lib.hid (HK2.out.trans hk3 (fun _ _ h => h)); clear hk3; (try simp only [PU]))
      | (go_at_call 55; go_must (refine (H55.out w3 (HW.out.trans HK3.out (fun _ _ h => h))).mono ?_; rintro e w4 ⟨rfl, hk4⟩); have HK4 := Lib.hid (HK3.out.trans hk4 (fun _ _ h => h)); clear hk4; (try simp only [PU]))
     )
     all_goals
      go_ret
      refine ⟨?_, by first | exact HK4.out | exact HK3.out | exact HK2.out⟩
      rw [← HR.out]
      first
      | (simp [sameC, *]; done)
      | (simp_all [sameC]; done)
end Go.Proofs.WV

namespace Go.Proofs.WV
open Go.RowKit Go.Proofs.KL Go.Proofs.WM
set_option maxRecDepth 100000
set_option linter.unusedSimpArgs false
set_option linter.unusedVariables false

theorem keys_eq (ks ks' : List ByteArray) (hl : ks.length = ks'.length) : ks = ks' ↔ ∀ i, i < ks.length → ks.getD i ByteArray.empty = ks'.getD i ByteArray.empty := by
 constructor
 · rintro rfl i _; rfl
 · intro h
   refine List.ext_getElem hl (fun i h1 h2 => ?_)
   have := h i h1
   simpa [List.getD_eq_getElem?_getD, h1, h2] using this
theorem str_ne {t t' : ByteArray} (h : ¬ t = t') : ¬ t.toList = t'.toList := fun e => h (by
 have := str_eq t t'
 rw [decide_eq_true e] at this
 exact of_decide_eq_true this)
def diffC (k k' : Int) (b b' : Bool) (n n' : Int) (t t' : ByteArray) (nk nk' nv nv' : Nat) : Prop := k ≠ k' ∨ b ≠ b' ∨ n ≠ n' ∨ t ≠ t' ∨ nk ≠ nk' ∨ nv ≠ nv'
set_option maxHeartbeats 4000000 in
theorem differ20 {W : World} {k k' : Int} {b b' : Bool} {n n' : Int} {t t' : ByteArray} {kA kA' A A' : Option Addr} {nk nk' kc kc' nv nv' c c' : Nat} (h : diffC k k' b b' n n' t t' nk nk' nv nv') :
  Calls Tryd.prog 20 #[.agg #[.int .i64 k, .bool b, .int .i64 n, .string t, .slice kA nk kc, .slice A nv c], .agg #[.int .i64 k', .bool b', .int .i64 n', .string t', .slice kA' nk' kc', .slice A' nv' c']] W fun e w' => e = .returned (.bool false) ∧ Keeps Nob W w' := by
 unfold diffC at h
 by_cases h0 : k = k'
 · subst h0
   by_cases h1 : b = b'
   · subst h1
     by_cases h2 : n = n'
     · subst h2
       by_cases h3 : t = t'
       · subst h3
         by_cases h4 : nk = nk'
         · subst h4
           have h5 : nv ≠ nv' := by
            rcases h with h | h | h | h | h | h
            · exact absurd rfl h
            · exact absurd rfl h
            · exact absurd rfl h
            · exact absurd rfl h
            · exact absurd rfl h
            · exact h
           have q1 : ((nv : Int) != (nv' : Int)) = true := by simp; omega
           clear h
           go_enter Tryd.func20, Tryd.ntmps20
           go_wp2_with (first
            | ((with_reducible refine at_dst (N := 2) rfl ?_); go_must (refine ev_box (cs := #[.int .i64 k, .bool b, .int .i64 n, .string t, .slice kA nk kc, .slice A nv c]) rfl rfl rfl ?_; intro g1 w1 hg1 hl1 hb1 hk1)
               have Hb1 := Lib.hid hb1
               have HK1 := Lib.hid hk1
               clear hb1 hk1
               (try simp only [PU]))
            | ((with_reducible refine at_dst (N := 3) rfl ?_); go_must (refine ev_box (cs := #[.int .i64 k, .bool b, .int .i64 n, .string t, .slice kA' nk kc', .slice A' nv' c']) rfl rfl rfl ?_; intro g2 w2 hg2 hl2 hb2 hk2)
               have hb3 := hk2.blk Hb1.out id
               have s0 := (blk_cell hb3 0).trans rfl
               have s1 := (blk_cell hb3 1).trans rfl
               have s2 := (blk_cell hb3 2).trans rfl
               have s3 := (blk_cell hb3 3).trans rfl
               have s4 := (blk_cell hb3 4).trans rfl
               have s5 := (blk_cell hb3 5).trans rfl
               have r0 := (blk_cell hb2 0).trans rfl
               have r1 := (blk_cell hb2 1).trans rfl
               have r2 := (blk_cell hb2 2).trans rfl
               have r3 := (blk_cell hb2 3).trans rfl
               have r4 := (blk_cell hb2 4).trans rfl
               have r5 := (blk_cell hb2 5).trans rfl
               have HK2 := Lib.hid (HK1.out.trans hk2 (fun _ _ h => h))
               clear hb2 hk2 hb3
               (try simp only [PU]))
           )
           go_ret
           exact ⟨rfl, HK2.out⟩
         · have q1 : ((nk : Int) != (nk' : Int)) = true := by simp; omega
           clear h
           go_enter Tryd.func20, Tryd.ntmps20
           go_wp2_with (first
            | ((with_reducible refine at_dst (N := 2) rfl ?_); go_must (refine ev_box (cs := #[.int .i64 k, .bool b, .int .i64 n, .string t, .slice kA nk kc, .slice A nv c]) rfl rfl rfl ?_; intro g1 w1 hg1 hl1 hb1 hk1)
               have Hb1 := Lib.hid hb1
               have HK1 := Lib.hid hk1
               clear hb1 hk1
               (try simp only [PU]))
            | ((with_reducible refine at_dst (N := 3) rfl ?_); go_must (refine ev_box (cs := #[.int .i64 k, .bool b, .int .i64 n, .string t, .slice kA' nk' kc', .slice A' nv' c']) rfl rfl rfl ?_; intro g2 w2 hg2 hl2 hb2 hk2)
               have hb3 := hk2.blk Hb1.out id
               have s0 := (blk_cell hb3 0).trans rfl
               have s1 := (blk_cell hb3 1).trans rfl
               have s2 := (blk_cell hb3 2).trans rfl
               have s3 := (blk_cell hb3 3).trans rfl
               have s4 := (blk_cell hb3 4).trans rfl
               have s5 := (blk_cell hb3 5).trans rfl
               have r0 := (blk_cell hb2 0).trans rfl
               have r1 := (blk_cell hb2 1).trans rfl
               have r2 := (blk_cell hb2 2).trans rfl
               have r3 := (blk_cell hb2 3).trans rfl
               have r4 := (blk_cell hb2 4).trans rfl
               have r5 := (blk_cell hb2 5).trans rfl
               have HK2 := Lib.hid (HK1.out.trans hk2 (fun _ _ h => h))
               clear hb2 hk2 hb3
               (try simp only [PU]))
           )
           go_ret
           exact ⟨rfl, HK2.out⟩
       · have q1 := str_ne h3
         clear h
         go_enter Tryd.func20, Tryd.ntmps20
         go_wp2_with (first
          | ((with_reducible refine at_dst (N := 2) rfl ?_); go_must (refine ev_box (cs := #[.int .i64 k, .bool b, .int .i64 n, .string t, .slice kA nk kc, .slice A nv c]) rfl rfl rfl ?_; intro g1 w1 hg1 hl1 hb1 hk1)
             have Hb1 := Lib.hid hb1
             have HK1 := Lib.hid hk1
             clear hb1 hk1
             (try simp only [PU]))
          | ((with_reducible refine at_dst (N := 3) rfl ?_); go_must (refine ev_box (cs := #[.int .i64 k, .bool b, .int .i64 n, .string t', .slice kA' nk' kc', .slice A' nv' c']) rfl rfl rfl ?_; intro g2 w2 hg2 hl2 hb2 hk2)
             have hb3 := hk2.blk Hb1.out id
             have s0 := (blk_cell hb3 0).trans rfl
             have s1 := (blk_cell hb3 1).trans rfl
             have s2 := (blk_cell hb3 2).trans rfl
             have s3 := (blk_cell hb3 3).trans rfl
             have s4 := (blk_cell hb3 4).trans rfl
             have s5 := (blk_cell hb3 5).trans rfl
             have r0 := (blk_cell hb2 0).trans rfl
             have r1 := (blk_cell hb2 1).trans rfl
             have r2 := (blk_cell hb2 2).trans rfl
             have r3 := (blk_cell hb2 3).trans rfl
             have r4 := (blk_cell hb2 4).trans rfl
             have r5 := (blk_cell hb2 5).trans rfl
             have HK2 := Lib.hid (HK1.out.trans hk2 (fun _ _ h => h))
             clear hb2 hk2 hb3
             (try simp only [PU]))
         )
         go_ret
         exact ⟨rfl, HK2.out⟩
     · have q1 : (n != n') = true := by simpa using h2
       clear h
       go_enter Tryd.func20, Tryd.ntmps20
       go_wp2_with (first
        | ((with_reducible refine at_dst (N := 2) rfl ?_); go_must (refine ev_box (cs := #[.int .i64 k, .bool b, .int .i64 n, .string t, .slice kA nk kc, .slice A nv c]) rfl rfl rfl ?_; intro g1 w1 hg1 hl1 hb1 hk1)
           have Hb1 := Lib.hid hb1
           have HK1 := Lib.hid hk1
           clear hb1 hk1
           (try simp only [PU]))
        | ((with_reducible refine at_dst (N := 3) rfl ?_); go_must (refine ev_box (cs := #[.int .i64 k, .bool b, .int .i64 n', .string t', .slice kA' nk' kc', .slice A' nv' c']) rfl rfl rfl ?_; intro g2 w2 hg2 hl2 hb2 hk2)
           have hb3 := hk2.blk Hb1.out id
           have s0 := (blk_cell hb3 0).trans rfl
           have s1 := (blk_cell hb3 1).trans rfl
           have s2 := (blk_cell hb3 2).trans rfl
           have s3 := (blk_cell hb3 3).trans rfl
           have s4 := (blk_cell hb3 4).trans rfl
           have s5 := (blk_cell hb3 5).trans rfl
           have r0 := (blk_cell hb2 0).trans rfl
           have r1 := (blk_cell hb2 1).trans rfl
           have r2 := (blk_cell hb2 2).trans rfl
           have r3 := (blk_cell hb2 3).trans rfl
           have r4 := (blk_cell hb2 4).trans rfl
           have r5 := (blk_cell hb2 5).trans rfl
           have HK2 := Lib.hid (HK1.out.trans hk2 (fun _ _ h => h))
           clear hb2 hk2 hb3
           (try simp only [PU]))
       )
       go_ret
       exact ⟨rfl, HK2.out⟩
   · clear h
     cases b
     · cases b'
       · exact absurd rfl h1
       clear h1
       go_enter Tryd.func20, Tryd.ntmps20
       go_wp2_with (first
        | ((with_reducible refine at_dst (N := 2) rfl ?_); go_must (refine ev_box (cs := #[.int .i64 k, .bool false, .int .i64 n, .string t, .slice kA nk kc, .slice A nv c]) rfl rfl rfl ?_; intro g1 w1 hg1 hl1 hb1 hk1)
           have Hb1 := Lib.hid hb1
           have HK1 := Lib.hid hk1
           clear hb1 hk1
           (try simp only [PU]))
        | ((with_reducible refine at_dst (N := 3) rfl ?_); go_must (refine ev_box (cs := #[.int .i64 k, .bool true, .int .i64 n', .string t', .slice kA' nk' kc', .slice A' nv' c']) rfl rfl rfl ?_; intro g2 w2 hg2 hl2 hb2 hk2)
           have hb3 := hk2.blk Hb1.out id
           have s0 := (blk_cell hb3 0).trans rfl
           have s1 := (blk_cell hb3 1).trans rfl
           have s2 := (blk_cell hb3 2).trans rfl
           have s3 := (blk_cell hb3 3).trans rfl
           have s4 := (blk_cell hb3 4).trans rfl
           have s5 := (blk_cell hb3 5).trans rfl
           have r0 := (blk_cell hb2 0).trans rfl
           have r1 := (blk_cell hb2 1).trans rfl
           have r2 := (blk_cell hb2 2).trans rfl
           have r3 := (blk_cell hb2 3).trans rfl
           have r4 := (blk_cell hb2 4).trans rfl
           have r5 := (blk_cell hb2 5).trans rfl
           have HK2 := Lib.hid (HK1.out.trans hk2 (fun _ _ h => h))
           clear hb2 hk2 hb3
           (try simp only [PU]))
       )
       go_ret
       exact ⟨rfl, HK2.out⟩
     · cases b'
       case true => exact absurd rfl h1
       clear h1
       go_enter Tryd.func20, Tryd.ntmps20
       go_wp2_with (first
        | ((with_reducible refine at_dst (N := 2) rfl ?_); go_must (refine ev_box (cs := #[.int .i64 k, .bool true, .int .i64 n, .string t, .slice kA nk kc, .slice A nv c]) rfl rfl rfl ?_; intro g1 w1 hg1 hl1 hb1 hk1)
           have Hb1 := Lib.hid hb1
           have HK1 := Lib.hid hk1
           clear hb1 hk1
           (try simp only [PU]))
        | ((with_reducible refine at_dst (N := 3) rfl ?_); go_must (refine ev_box (cs := #[.int .i64 k, .bool false, .int .i64 n', .string t', .slice kA' nk' kc', .slice A' nv' c']) rfl rfl rfl ?_; intro g2 w2 hg2 hl2 hb2 hk2)
           have hb3 := hk2.blk Hb1.out id
           have s0 := (blk_cell hb3 0).trans rfl
           have s1 := (blk_cell hb3 1).trans rfl
           have s2 := (blk_cell hb3 2).trans rfl
           have s3 := (blk_cell hb3 3).trans rfl
           have s4 := (blk_cell hb3 4).trans rfl
           have s5 := (blk_cell hb3 5).trans rfl
           have r0 := (blk_cell hb2 0).trans rfl
           have r1 := (blk_cell hb2 1).trans rfl
           have r2 := (blk_cell hb2 2).trans rfl
           have r3 := (blk_cell hb2 3).trans rfl
           have r4 := (blk_cell hb2 4).trans rfl
           have r5 := (blk_cell hb2 5).trans rfl
           have HK2 := Lib.hid (HK1.out.trans hk2 (fun _ _ h => h))
           clear hb2 hk2 hb3
           (try simp only [PU]))
       )
       go_ret
       exact ⟨rfl, HK2.out⟩
 · have q1 : (k != k') = true := by simpa using h0
   clear h
   go_enter Tryd.func20, Tryd.ntmps20
   go_wp2_with (first
    | ((with_reducible refine at_dst (N := 2) rfl ?_); go_must (refine ev_box (cs := #[.int .i64 k, .bool b, .int .i64 n, .string t, .slice kA nk kc, .slice A nv c]) rfl rfl rfl ?_; intro g1 w1 hg1 hl1 hb1 hk1)
       have Hb1 := Lib.hid hb1
       have HK1 := Lib.hid hk1
       clear hb1 hk1
       (try simp only [PU]))
    | ((with_reducible refine at_dst (N := 3) rfl ?_); go_must (refine ev_box (cs := #[.int .i64 k', .bool b', .int .i64 n', .string t', .slice kA' nk' kc', .slice A' nv' c']) rfl rfl rfl ?_; intro g2 w2 hg2 hl2 hb2 hk2)
       have hb3 := hk2.blk Hb1.out id
       have s0 := (blk_cell hb3 0).trans rfl
       have s1 := (blk_cell hb3 1).trans rfl
       have s2 := (blk_cell hb3 2).trans rfl
       have s3 := (blk_cell hb3 3).trans rfl
       have s4 := (blk_cell hb3 4).trans rfl
       have s5 := (blk_cell hb3 5).trans rfl
       have r0 := (blk_cell hb2 0).trans rfl
       have r1 := (blk_cell hb2 1).trans rfl
       have r2 := (blk_cell hb2 2).trans rfl
       have r3 := (blk_cell hb2 3).trans rfl
       have r4 := (blk_cell hb2 4).trans rfl
       have r5 := (blk_cell hb2 5).trans rfl
       have HK2 := Lib.hid (HK1.out.trans hk2 (fun _ _ h => h))
       clear hb2 hk2 hb3
       (try simp only [PU]))
   )
   go_ret
   exact ⟨rfl, HK2.out⟩
end Go.Proofs.WV

namespace Go.Proofs.WV
open Go.RowKit Go.Proofs.KL Go.Proofs.WM
set_option maxRecDepth 100000
set_option linter.unusedSimpArgs false
set_option linter.unusedVariables false

set_option maxHeartbeats 4000000 in
theorem same20 {w : World} {X Y : Nat → Prop} {v : Value} {j : J} (h : JX w X v j) : ∀ (v2 : Value) (j2 : J), JX w Y v2 j2 → ∀ W, Keeps Nob w W → sizeJ j ≤ 1000000000000 → sizeJ j2 ≤ 1000000000000 → Calls Tryd.prog 20 #[v, v2] W fun e w' => e = .returned (.bool (sameJ j j2)) ∧ Keeps Nob W w' := by
 induction h with
 | mk k b n t ks vs kv A c u h1 hc hA hv ih =>
   intro v2 j2 h2 W hW hb hb2
   cases h2 with
   | mk k' b' n' t' ks' vs' kv' A' c' u' h1' hc' hA' hv' =>
     have hsz : vs.length ≤ 1000000000000 ∧ ks.length ≤ 1000000000000 ∧ sizeL vs ≤ 1000000000000 := by have h1 := size_len vs; unfold sizeJ at hb; omega
     have hsz2 : vs'.length ≤ 1000000000000 ∧ ks'.length ≤ 1000000000000 ∧ sizeL vs' ≤ 1000000000000 := by have h1 := size_len vs'; unfold sizeJ at hb2; omega
     obtain ⟨kA, kc, rfl, hkc, hkx⟩ := id h1
     obtain ⟨kA', kc', rfl, hkc', hkx'⟩ := id h1'
     by_cases hd : diffC k k' b b' n n' t t' ks.length ks'.length vs.length vs'.length
     · have hf : sameJ (.mk k b n t ks vs) (.mk k' b' n' t' ks' vs') = false := by
        rcases hs : sameJ (.mk k b n t ks vs) (.mk k' b' n' t' ks' vs') with _ | _
        · rfl
        · have := (sameJ_iff _ _).1 hs
          injection this with e1 e2 e3 e4 e5 e6
          subst e1 e2 e3 e4 e5 e6
          unfold diffC at hd
          simp at hd
       rw [hf]
       exact differ20 hd
     have hq : (k = k' ∧ b = b' ∧ n = n' ∧ t = t') ∧ ks.length = ks'.length ∧ vs.length = vs'.length := by
      unfold diffC at hd
      simp only [not_or, ne_eq, Decidable.not_not] at hd
      obtain ⟨h1, h2, h3, h4, h5, h6⟩ := hd
      exact ⟨⟨h1, h2, h3, h4⟩, h5, h6⟩
     obtain ⟨⟨rfl, rfl, rfl, rfl⟩, hkl, hvl⟩ := hq
     have hsame : sameJ (.mk k b n t ks vs) (.mk k b n t ks' vs') = (decide (ks = ks') && sameL vs vs') := by unfold sameJ; simp
     rw [hsame]
     obtain ⟨R, hR⟩ : ∃ x, (decide (ks = ks') && sameL vs vs') = x := ⟨_, rfl⟩
     rw [hR]
     have HR := Lib.hid hR
     have HW := Lib.hid hW
     have HA := Lib.hid hA
     have HA' := Lib.hid hA'
     have Hkx := Lib.hid hkx
     have Hkx' := Lib.hid hkx'
     have IH := Lib.hid (fun i (hi : i < vs.length) (hi' : i < vs'.length) W'' hk' => ih i hi _ _ (hv' i hi') W'' hk'
      (by have := size_get (vs := vs) (i := i) hi; omega) (by have := size_get (vs := vs') (i := i) hi'; omega))
     obtain ⟨nk, hnk⟩ : ∃ x, ks.length = x := ⟨_, rfl⟩
     obtain ⟨nv, hnv⟩ : ∃ x, vs.length = x := ⟨_, rfl⟩
     have Hnk := Lib.hid (And.intro hnk (hkl.symm.trans hnk))
     have Hnv := Lib.hid (And.intro hnv (hvl.symm.trans hnv))
     rw [← hkl, ← hvl, hnk, hnv]
     rw [hnk, hnv] at hsz
     obtain ⟨hs1, hs2, -⟩ := hsz
     clear h1 h1' hc hc' hA hA' hv hv' ih hW hb hb2 hsz2 hkc hkc' hkx hkx' hsame hR hd hnk hnv hkl hvl
     go_enter Tryd.func20, Tryd.ntmps20
     go_wp2_with (first
      | ((with_reducible refine at_dst (N := 2) rfl ?_); go_must (refine ev_box (cs := #[.int .i64 k, .bool b, .int .i64 n, .string t, .slice kA nk kc, .slice A nv c]) rfl rfl rfl ?_; intro g1 w1 hg1 hl1 hb1 hk1)
         have Hb1 := Lib.hid hb1
         have HK1 := Lib.hid hk1
         clear hb1 hk1
         (try simp only [PU]))
      | ((with_reducible refine at_dst (N := 3) rfl ?_); go_must (refine ev_box (cs := #[.int .i64 k, .bool b, .int .i64 n, .string t, .slice kA' nk kc', .slice A' nv c']) rfl rfl rfl ?_; intro g2 w2 hg2 hl2 hb2 hk2)
         have hb3 := hk2.blk Hb1.out id
         have s0 := (blk_cell hb3 0).trans rfl
         have s1 := (blk_cell hb3 1).trans rfl
         have s2 := (blk_cell hb3 2).trans rfl
         have s3 := (blk_cell hb3 3).trans rfl
         have s4 := (blk_cell hb3 4).trans rfl
         have s5 := (blk_cell hb3 5).trans rfl
         have r0 := (blk_cell hb2 0).trans rfl
         have r1 := (blk_cell hb2 1).trans rfl
         have r2 := (blk_cell hb2 2).trans rfl
         have r3 := (blk_cell hb2 3).trans rfl
         have r4 := (blk_cell hb2 4).trans rfl
         have r5 := (blk_cell hb2 5).trans rfl
         have Hb2 := Lib.hid (And.intro hb3 hb2)
         have HK2 := Lib.hid (HK1.out.trans hk2 (fun _ _ h => h))
         clear hb2 hk2 hb3
         (try simp only [PU]))
     )
     clear s0 s1 s2 s3 s4 s5 r0 r1 r2 r3 r4 r5
     go_loopw [5, 54] (fun n1 iv wr => ∃ j : Nat, iv = .int .i64 j ∧ j ≤ nk ∧ Hid (Keeps Nob w2 wr) ∧ Hid (∀ i, i < j → ks.getD i ByteArray.empty = ks'.getD i ByteArray.empty)) (fun _ iv _ => nk - (intOf iv).toNat)
     case atStart => exact ⟨0, rfl, Nat.zero_le _, Lib.hid (Keeps.refl _ _), Lib.hid (fun i h => absurd h (Nat.not_lt_zero _))⟩
     case round =>
      obtain ⟨j, rfl, hj, HKr, HF⟩ := hrel
      by_cases hlt : j < nk
      · obtain ⟨q1, o1, rfl, -, x1⟩ := Hkx.out j (by rw [Hnk.out.1]; exact hlt)
        obtain ⟨q2, o2, rfl, -, x2⟩ := Hkx'.out j (by rw [Hnk.out.2]; exact hlt)
        have HKw := Lib.hid (show Keeps Nob w wr from (HW.out.trans HK2.out (fun _ _ h => h)).trans HKr.out (fun _ _ h => h))
        have e1 := HKw.out.cell x1 id
        have e2 := HKw.out.cell x2 id
        have c1 := (blk_cell (HKr.out.blk Hb2.out.1 id) 4).trans rfl
        have c2 := (blk_cell (HKr.out.blk Hb2.out.2 id) 4).trans rfl
        obtain ⟨y1, hy1⟩ : ∃ x, ks.getD j ByteArray.empty = x := ⟨_, rfl⟩
        obtain ⟨y2, hy2⟩ : ∃ x, ks'.getD j ByteArray.empty = x := ⟨_, rfl⟩
        rw [hy1] at e1
        rw [hy2] at e2
        have Hy := Lib.hid (And.intro hy1 hy2)
        clear x1 x2 hy1 hy2
        by_cases hyy : y1 = y2
        · subst hyy
          go_wp2_with fail
          refine wp_region_perm [(0, true), (1, true), (2, true), (3, true), (4, true), (5, true), (6, true), (7, true), (8, true), (9, true), (10, true)] (fun w' => (w'.cell? ⟨g1, 4, none⟩ = some (.slice (some ⟨q1, o1, none⟩) nk kc) ∧ w'.cell? ⟨g2, 4, none⟩ = some (.slice (some ⟨q2, o2, none⟩) nk kc')) ∧ w'.cell? ⟨q1, o1 + j, none⟩ = some (.string y1) ∧ w'.cell? ⟨q2, o2 + j, none⟩ = some (.string y1)) rfl (by kernel_rfl) (by kernel_rfl) (by decide) (fun c a d v w h => by cases d <;> exact h) ⟨⟨c1, c2⟩, e1, e2⟩ ?_
          refine pq (some 57) ?_; (try simp only [PU])
          refine pq (some 58) ?_; (try simp only [PU])
          refine pq (some 59) ?_; (try simp only [PU])
          refine pq (some 60) ?_; (try simp only [PU])
          refine pq (some 61) ?_; (try simp only [PU])
          refine pq (some 62) ?_; (try simp only [PU])
          refine pq (some 63) ?_; (try simp only [PU])
          refine pq (some 64) ?_; (try simp only [PU])
          refine pq (some 65) ?_; (try simp only [PU])
          refine pq (some 66) ?_; (try simp only [PU])
          refine pq (some 67) ?_; (try simp only [PU])
          refine perm_nil ?_
          go_wp2
          go_roundw
          case rel =>
           refine ⟨j + 1, by go_num, by omega, Lib.hid (HKr.out.then (Keeps.refl Nob wr).drew), Lib.hid (fun i hi => ?_)⟩
           by_cases e : i = j
           · rw [e, Hy.out.1, Hy.out.2]
           · exact HF.out i (by omega)
          case measure => simp [intOf]; omega
        · have hne : (y1.toList == y2.toList) = false := by simpa using str_ne hyy
          have Hyy := Lib.hid hyy
          clear hyy
          go_wp2_with fail
          refine wp_region_perm [(0, true), (1, true), (2, true), (3, true), (4, true), (5, true), (6, true), (7, true), (8, true), (9, true), (10, true)] (fun w' => (w'.cell? ⟨g1, 4, none⟩ = some (.slice (some ⟨q1, o1, none⟩) nk kc) ∧ w'.cell? ⟨g2, 4, none⟩ = some (.slice (some ⟨q2, o2, none⟩) nk kc')) ∧ w'.cell? ⟨q1, o1 + j, none⟩ = some (.string y1) ∧ w'.cell? ⟨q2, o2 + j, none⟩ = some (.string y2)) rfl (by kernel_rfl) (by kernel_rfl) (by decide) (fun c a d v w h => by cases d <;> exact h) ⟨⟨c1, c2⟩, e1, e2⟩ ?_
          refine pq (some 57) ?_; (try simp only [PU])
          refine pq (some 58) ?_; (try simp only [PU])
          refine pq (some 59) ?_; (try simp only [PU])
          refine pq (some 60) ?_; (try simp only [PU])
          refine pq (some 61) ?_; (try simp only [PU])
          refine pq (some 62) ?_; (try simp only [PU])
          refine pq (some 63) ?_; (try simp only [PU])
          refine pq (some 64) ?_; (try simp only [PU])
          refine pq (some 65) ?_; (try simp only [PU])
          refine pq (some 66) ?_; (try simp only [PU])
          refine pq (some 67) ?_; (try simp only [PU])
          refine perm_nil ?_
          go_wp2
          go_ret
          refine ⟨?_, HK2.out.trans ((HKr.out.then (Keeps.refl Nob wr).drew)) (fun _ _ h => h)⟩
          have hkn : ¬ ks = ks' := fun e => by
           have := (keys_eq ks ks' (by rw [Hnk.out.1, Hnk.out.2])).1 e j (by rw [Hnk.out.1]; exact hlt)
           rw [Hy.out.1, Hy.out.2] at this
           exact Hyy.out this
          rw [← HR.out, decide_eq_false hkn]
          rfl
      · have hj' : j = nk := by omega
        subst hj'
        obtain ⟨wq, rfl⟩ : ∃ x, x = wr := ⟨_, rfl⟩
        have hkk : ks = ks' := (keys_eq ks ks' (by rw [Hnk.out.1, Hnk.out.2])).2 (fun i hi => HF.out i (by rw [← Hnk.out.1]; exact hi))
        have HRv := Lib.hid (show sameL vs vs' = R by rw [← HR.out, decide_eq_true hkk]; rfl)
        have HK3 := Lib.hid (show Keeps Nob W wq from HK2.out.trans HKr.out (fun _ _ h => h))
        have Hb3 := Lib.hid (And.intro (HKr.out.blk Hb2.out.1 id) (HKr.out.blk Hb2.out.2 id))
        have s5 := (blk_cell Hb3.out.1 5).trans rfl
        clear hkk
        go_wp2
        go_loopw [6, 72] (fun n1 iv wr => ∃ j : Nat, iv = .int .i64 j ∧ j ≤ nv ∧ Hid (Keeps Nob wq wr) ∧ Hid (∀ i, i < j → sameJ (vs.getD i default) (vs'.getD i default) = true)) (fun _ iv _ => nv - (intOf iv).toNat)
        case atStart => exact ⟨0, rfl, Nat.zero_le _, Lib.hid (Keeps.refl _ _), Lib.hid (fun i h => absurd h (Nat.not_lt_zero _))⟩
        case round =>
         obtain ⟨m, rfl, hm, HKm, HG⟩ := hrel
         clear s5
         by_cases hlt2 : m < nv
         · obtain ⟨q1, o1, rfl, -, h6⟩ := HA.out m (by rw [Hnv.out.1]; exact hlt2)
           obtain ⟨q2, o2, rfl, -, h6'⟩ := HA'.out m (by rw [Hnv.out.2]; exact hlt2)
           have HKw := Lib.hid (show Keeps Nob w wr from (HW.out.trans HK3.out (fun _ _ h => h)).trans HKm.out (fun _ _ h => h))
           obtain ⟨⟨e0, e1, e2⟩, e3, e4, e5⟩ := h6.keep HKw.out id
           obtain ⟨⟨f0, f1, f2⟩, f3, f4, f5⟩ := h6'.keep HKw.out id
           have c1 := (blk_cell (HKm.out.blk Hb3.out.1 id) 5).trans rfl
           have c2 := (blk_cell (HKm.out.blk Hb3.out.2 id) 5).trans rfl
           have Hrun := Lib.hid (fun W' hk => IH.out m (by rw [Hnv.out.1]; exact hlt2) (by rw [Hnv.out.2]; exact hlt2) W' hk)
           generalize u m 0 = x0 at *
           generalize u m 1 = x1 at *
           generalize u m 2 = x2 at *
           generalize u m 3 = x3 at *
           generalize u m 4 = x4 at *
           generalize u m 5 = x5 at *
           generalize u' m 0 = x0' at *
           generalize u' m 1 = x1' at *
           generalize u' m 2 = x2' at *
           generalize u' m 3 = x3' at *
           generalize u' m 4 = x4' at *
           generalize u' m 5 = x5' at *
           obtain ⟨fj, hfj⟩ : ∃ x, sameJ (vs.getD m default) (vs'.getD m default) = x := ⟨_, rfl⟩
           rw [hfj] at Hrun
           have Hfj := Lib.hid hfj
           clear h6 h6' hfj
           cases fj
           · skip
             go_wp2_with fail
             refine wp_region_perm [(0, true), (1, true), (2, true), (3, true), (4, true), (5, true), (6, true), (7, true), (8, true), (9, true), (10, false), (11, true)] (fun w' => (w'.cell? ⟨g1, 5, none⟩ = some (.slice (some ⟨q1, o1, none⟩) nv c) ∧ w'.cell? ⟨g2, 5, none⟩ = some (.slice (some ⟨q2, o2, none⟩) nv c')) ∧ (w'.cell? ⟨q1, o1 + m * 6, none⟩ = some x0 ∧ w'.cell? ⟨q1, o1 + m * 6 + 1, none⟩ = some x1 ∧ w'.cell? ⟨q1, o1 + m * 6 + 2, none⟩ = some x2 ∧ w'.cell? ⟨q1, o1 + m * 6 + 3, none⟩ = some x3 ∧ w'.cell? ⟨q1, o1 + m * 6 + 4, none⟩ = some x4 ∧ w'.cell? ⟨q1, o1 + m * 6 + 5, none⟩ = some x5) ∧ w'.cell? ⟨q2, o2 + m * 6, none⟩ = some x0' ∧ w'.cell? ⟨q2, o2 + m * 6 + 1, none⟩ = some x1' ∧ w'.cell? ⟨q2, o2 + m * 6 + 2, none⟩ = some x2' ∧ w'.cell? ⟨q2, o2 + m * 6 + 3, none⟩ = some x3' ∧ w'.cell? ⟨q2, o2 + m * 6 + 4, none⟩ = some x4' ∧ w'.cell? ⟨q2, o2 + m * 6 + 5, none⟩ = some x5') rfl (by kernel_rfl) (by kernel_rfl) (by decide) (fun c a d v w h => by cases d <;> exact h) ⟨⟨c1, c2⟩, ⟨e0, e1, e2, e3, e4, e5⟩, f0, f1, f2, f3, f4, f5⟩ ?_
             refine pq (some 75) ?_; (try simp only [PU])
             refine pq (some 76) ?_; (try simp only [PU])
             refine pq (some 77) ?_; (try simp only [PU])
             refine pq (some 78) ?_; (try simp only [PU])
             refine pq (some 79) ?_; (try simp only [PU])
             refine pq (some 80) ?_; (try simp only [PU])
             refine pq (some 81) ?_; (try simp only [PU])
             refine pq (some 82) ?_; (try simp only [PU])
             refine pq (some 83) ?_; (try simp only [PU])
             refine pq (some 84) ?_; (try simp only [PU])
             refine perm_e rfl ?_
             go_wp2_with (go_at_call 20; go_must (refine (Hrun.out _ (HKw.out.then (Keeps.refl Nob wr).drew)).mono ?_; rintro e w4 ⟨rfl, hk4⟩))
             have HK4 := Lib.hid hk4
             clear hk4
             (try simp only [PU])
             refine ⟨⟨⟨HK4.out.cell (w := wr.drew) c1 id, HK4.out.cell (w := wr.drew) c2 id⟩, ⟨HK4.out.cell (w := wr.drew) e0 id, HK4.out.cell (w := wr.drew) e1 id, HK4.out.cell (w := wr.drew) e2 id, HK4.out.cell (w := wr.drew) e3 id, HK4.out.cell (w := wr.drew) e4 id, HK4.out.cell (w := wr.drew) e5 id⟩, HK4.out.cell (w := wr.drew) f0 id, HK4.out.cell (w := wr.drew) f1 id, HK4.out.cell (w := wr.drew) f2 id, HK4.out.cell (w := wr.drew) f3 id, HK4.out.cell (w := wr.drew) f4 id, HK4.out.cell (w := wr.drew) f5 id⟩, ?_⟩
             refine pq (some 86) ?_; (try simp only [PU])
             refine perm_nil ?_
             go_wp2
             go_ret
             refine ⟨?_, HK3.out.trans (HKm.out.trans ((Keeps.refl Nob wr).drew.trans HK4.out (fun _ _ h => h)) (fun _ _ h => h)) (fun _ _ h => h)⟩
             rcases hfl : sameL vs vs' with _ | _
             · rw [← HRv.out, hfl]; rfl
             · have := (sameL_get vs vs' (by rw [Hnv.out.1, Hnv.out.2])).1 hfl m (by rw [Hnv.out.1]; exact hlt2)
               rw [Hfj.out] at this
               cases this
           · skip
             go_wp2_with fail
             refine wp_region_perm [(0, true), (1, true), (2, true), (3, true), (4, true), (5, true), (6, true), (7, true), (8, true), (9, true), (10, false), (11, true)] (fun w' => (w'.cell? ⟨g1, 5, none⟩ = some (.slice (some ⟨q1, o1, none⟩) nv c) ∧ w'.cell? ⟨g2, 5, none⟩ = some (.slice (some ⟨q2, o2, none⟩) nv c')) ∧ (w'.cell? ⟨q1, o1 + m * 6, none⟩ = some x0 ∧ w'.cell? ⟨q1, o1 + m * 6 + 1, none⟩ = some x1 ∧ w'.cell? ⟨q1, o1 + m * 6 + 2, none⟩ = some x2 ∧ w'.cell? ⟨q1, o1 + m * 6 + 3, none⟩ = some x3 ∧ w'.cell? ⟨q1, o1 + m * 6 + 4, none⟩ = some x4 ∧ w'.cell? ⟨q1, o1 + m * 6 + 5, none⟩ = some x5) ∧ w'.cell? ⟨q2, o2 + m * 6, none⟩ = some x0' ∧ w'.cell? ⟨q2, o2 + m * 6 + 1, none⟩ = some x1' ∧ w'.cell? ⟨q2, o2 + m * 6 + 2, none⟩ = some x2' ∧ w'.cell? ⟨q2, o2 + m * 6 + 3, none⟩ = some x3' ∧ w'.cell? ⟨q2, o2 + m * 6 + 4, none⟩ = some x4' ∧ w'.cell? ⟨q2, o2 + m * 6 + 5, none⟩ = some x5') rfl (by kernel_rfl) (by kernel_rfl) (by decide) (fun c a d v w h => by cases d <;> exact h) ⟨⟨c1, c2⟩, ⟨e0, e1, e2, e3, e4, e5⟩, f0, f1, f2, f3, f4, f5⟩ ?_
             refine pq (some 75) ?_; (try simp only [PU])
             refine pq (some 76) ?_; (try simp only [PU])
             refine pq (some 77) ?_; (try simp only [PU])
             refine pq (some 78) ?_; (try simp only [PU])
             refine pq (some 79) ?_; (try simp only [PU])
             refine pq (some 80) ?_; (try simp only [PU])
             refine pq (some 81) ?_; (try simp only [PU])
             refine pq (some 82) ?_; (try simp only [PU])
             refine pq (some 83) ?_; (try simp only [PU])
             refine pq (some 84) ?_; (try simp only [PU])
             refine perm_e rfl ?_
             go_wp2_with (go_at_call 20; go_must (refine (Hrun.out _ (HKw.out.then (Keeps.refl Nob wr).drew)).mono ?_; rintro e w4 ⟨rfl, hk4⟩))
             have HK4 := Lib.hid hk4
             clear hk4
             (try simp only [PU])
             refine ⟨⟨⟨HK4.out.cell (w := wr.drew) c1 id, HK4.out.cell (w := wr.drew) c2 id⟩, ⟨HK4.out.cell (w := wr.drew) e0 id, HK4.out.cell (w := wr.drew) e1 id, HK4.out.cell (w := wr.drew) e2 id, HK4.out.cell (w := wr.drew) e3 id, HK4.out.cell (w := wr.drew) e4 id, HK4.out.cell (w := wr.drew) e5 id⟩, HK4.out.cell (w := wr.drew) f0 id, HK4.out.cell (w := wr.drew) f1 id, HK4.out.cell (w := wr.drew) f2 id, HK4.out.cell (w := wr.drew) f3 id, HK4.out.cell (w := wr.drew) f4 id, HK4.out.cell (w := wr.drew) f5 id⟩, ?_⟩
             refine pq (some 86) ?_; (try simp only [PU])
             refine perm_nil ?_
             go_wp2
             go_roundw
             case rel =>
              refine ⟨m + 1, by go_num, by omega, Lib.hid (HKm.out.trans ((Keeps.refl Nob wr).drew.trans HK4.out (fun _ _ h => h)) (fun _ _ h => h)), Lib.hid (fun i hi => ?_)⟩
              by_cases e : i = m
              · rw [e]; exact Hfj.out
              · exact HG.out i (by omega)
             case measure => simp [intOf]; omega
         · have hm' : m = nv := by omega
           subst hm'
           go_wp2
           go_ret
           refine ⟨?_, HK3.out.trans HKm.out (fun _ _ h => h)⟩
           have hfl := (sameL_get vs vs' (by rw [Hnv.out.1, Hnv.out.2])).2 (fun i hi => HG.out i (by rw [← Hnv.out.1]; exact hi))
           rw [HRv.out] at hfl
           rw [hfl]; rfl
end Go.Proofs.WV

namespace Go.Proofs.WV
open Go.RowKit Go.Proofs.KL Go.Proofs.WM
set_option maxRecDepth 100000
set_option linter.unusedSimpArgs false
set_option linter.unusedVariables false

structure Rd (w : World) (r : Nat) (T : ByteArray) (s : Bs) : Prop where
 blk : w.heap[r]? = some (.cells #[.string T, .int .i64 (T.size - s.length : Nat)] 80 (0, 0))
 suf : ∃ p, bl T = p ++ s
 len : T.size ≤ 1000000
theorem Rd.lt {w : World} {r : Nat} {T : ByteArray} {s : Bs} (h : Rd w r T s) : r < w.heap.size := blk_lt h.blk
theorem Rd.keep {M : Nat → Prop} {w w' : World} {r : Nat} {T : ByteArray} {s : Bs} (h : Rd w r T s) (hk : Keeps M w w') (hn : ¬ M r) : Rd w' r T s := ⟨hk.blk h.blk hn, h.suf, h.len⟩
theorem Rd.le {w : World} {r : Nat} {T : ByteArray} {s : Bs} (h : Rd w r T s) : s.length ≤ T.size := by
 obtain ⟨p, hp⟩ := h.suf
 have := congrArg List.length hp
 rw [bl_len, List.length_append] at this
 omega
theorem Rd.cons {w : World} {r : Nat} {T : ByteArray} {c : UInt8} {q : Bs} (h : Rd w r T (c :: q)) :
  ∃ (a : Nat) (ha : a < T.size), (w.heap[r]? = some (.cells #[.string T, .int .i64 (a : Nat)] 80 (0, 0)) ∧ ((T[a].toNat : Nat) : Int) = (c.toNat : Int)) ∧ T.size ≤ 1000000 ∧ a + (q.length + 1) = T.size ∧
   ∀ w', w'.heap[r]? = some (.cells #[.string T, .int .i64 ((a : Int) + 1)] 80 (0, 0)) → Rd w' r T q := by
 have hl := h.le
 obtain ⟨p, hp⟩ := h.suf
 have hlen := congrArg List.length hp
 rw [bl_len, List.length_append, List.length_cons] at hlen
 simp only [List.length_cons] at hl
 have ha : T.size - (q.length + 1) < T.size := by omega
 have hpa : T.size - (q.length + 1) = p.length := by omega
 have hb := h.blk
 rw [List.length_cons] at hb
 refine ⟨T.size - (q.length + 1), ha, ⟨hb, ?_⟩, h.len, by omega, fun w' hw => ⟨?_, ⟨p ++ [c], by rw [hp]; simp⟩, h.len⟩⟩
 · have hg : T[T.size - (q.length + 1)] = c := by
    have h1 : (bl T)[p.length]? = some c := by rw [hp]; simp
    have h2 : (bl T)[T.size - (q.length + 1)]? = some c := by rw [hpa]; exact h1
    have h3 : (bl T)[T.size - (q.length + 1)]? = some T[T.size - (q.length + 1)] := by
     rw [List.getElem?_eq_getElem (by rw [bl_len]; exact ha)]
     rfl
    rw [h3] at h2
    exact Option.some.inj h2
   rw [hg]
 · rw [hw, show T.size - q.length = T.size - (q.length + 1) + 1 by omega]
   rfl
theorem Rd.nil {w : World} {r : Nat} {T : ByteArray} (h : Rd w r T []) : w.heap[r]? = some (.cells #[.string T, .int .i64 (T.size : Nat)] 80 (0, 0)) := h.blk
def headN : Bs → Int
 | [] => 0
 | c :: _ => c.toNat
theorem headN_lt (s : Bs) : 0 ≤ headN s ∧ headN s ≤ 255 := by
 cases s with
 | nil => simp [headN]
 | cons c q => have := c.toNat_lt; simp only [headN]; omega
def stopAt (T : ByteArray) (n : Nat) : Ending := .panicked [{ v := .iface 76 (.int .i64 (T.size - n : Nat)), recovered := false }]
theorem infoS3 : ∃ i, Tryd.prog.info? 3 = some i ∧ i.size = 1 := by
 have h : (Tryd.prog.info? 3).map (·.size) = some 1 := by kernel_rfl
 obtain ⟨i, hi, hs⟩ := Option.map_eq_some_iff.1 h
 exact ⟨i, hi, hs⟩
set_option maxHeartbeats 1000000 in
theorem fail47 {w : World} {r : Nat} {T : ByteArray} {s : Bs} (h : Rd w r T s) (n : Nat) (hn : n ≤ T.size) : Calls Tryd.prog 47 #[.pointer (some ⟨r, 0, none⟩), .int .i64 (T.size - n : Nat)] w fun e w' => e = stopAt T n ∧ w' = w := by
 obtain ⟨a, ha⟩ : ∃ a, T.size - n = a := ⟨_, rfl⟩
 unfold stopAt
 rw [ha]
 have hle : a ≤ T.size := by omega
 have hT := h.len
 have c0 := (blk_cell h.blk 0).trans rfl
 clear h ha hn
 have hmin : (if (T.size : Int) < (a : Int) then (T.size : Int) else (a : Int)) = (a : Int) := by rw [if_neg (by omega)]
 have hmin2 : min (a : Int) (T.size : Int) = (a : Int) := by omega
 go_enter Tryd.func47, Tryd.ntmps47
 go_wp2
 first
 | exact ⟨rfl, rfl⟩
 | exact ⟨rfl, rfl, rfl⟩
set_option maxHeartbeats 1000000 in
theorem next73 {w : World} {r : Nat} {T : ByteArray} {s : Bs} (h : Rd w r T s) : Calls Tryd.prog 73 #[.pointer (some ⟨r, 0, none⟩)] w fun e w' => e = .returned (.int .u8 (headN s)) ∧ Keeps Nob w w' := by
 cases s with
 | nil =>
   have hT := h.len
   have c0 := (blk_cell h.nil 0).trans rfl
   have c1 := (blk_cell h.nil 1).trans rfl
   clear h
   go_enter Tryd.func73, Tryd.ntmps73
   go_wp2_with fail
   refine wp_region_perm [(0, true), (1, true), (2, true), (3, true), (4, true), (5, true), (6, true), (7, true), (8, true), (9, true)] (fun w' => w'.cell? ⟨r, 0, none⟩ = some (.string T) ∧ w'.cell? ⟨r, 1, none⟩ = some (.int .i64 T.size)) rfl (by kernel_rfl) (by kernel_rfl) (by decide) (fun c a d v w h => by cases d <;> exact h) ⟨c0, c1⟩ ?_
   refine pq (some 3) ?_; (try simp only [PU])
   refine pq (some 4) ?_; (try simp only [PU])
   refine pq (some 5) ?_; (try simp only [PU])
   refine pq (some 6) ?_; (try simp only [PU])
   refine pq (some 7) ?_; (try simp only [PU])
   refine pq (some 8) ?_; (try simp only [PU])
   refine pq (some 9) ?_; (try simp only [PU])
   refine pq (some 10) ?_; (try simp only [PU])
   refine pq (some 11) ?_; (try simp only [PU])
   refine pq (some 12) ?_; (try simp only [PU])
   refine perm_nil ?_
   go_wp2
   go_ret
   exact ⟨rfl, (Keeps.refl Nob w).drew⟩
 | cons c q =>
   obtain ⟨a, ha, ⟨hb, hc⟩, hT, -, -⟩ := h.cons
   have c0 := (blk_cell hb 0).trans rfl
   have c1 := (blk_cell hb 1).trans rfl
   show Calls _ _ _ _ fun e w' => e = .returned (.int .u8 (c.toNat : Int)) ∧ _
   generalize (c.toNat : Int) = cv at *
   clear h hb
   go_enter Tryd.func73, Tryd.ntmps73
   go_wp2_with fail
   refine wp_region_perm [(0, true), (1, true), (2, true), (3, true), (4, true), (5, true), (6, true), (7, true), (8, true), (9, true)] (fun w' => w'.cell? ⟨r, 0, none⟩ = some (.string T) ∧ w'.cell? ⟨r, 1, none⟩ = some (.int .i64 a)) rfl (by kernel_rfl) (by kernel_rfl) (by decide) (fun c a d v w h => by cases d <;> exact h) ⟨c0, c1⟩ ?_
   refine pq (some 3) ?_; (try simp only [PU])
   refine pq (some 4) ?_; (try simp only [PU])
   refine pq (some 5) ?_; (try simp only [PU])
   refine pq (some 6) ?_; (try simp only [PU])
   refine pq (some 7) ?_; (try simp only [PU])
   refine pq (some 8) ?_; (try simp only [PU])
   refine pq (some 9) ?_; (try simp only [PU])
   refine pq (some 10) ?_; (try simp only [PU])
   refine pq (some 11) ?_; (try simp only [PU])
   refine pq (some 12) ?_; (try simp only [PU])
   refine perm_nil ?_
   go_wp2_with fail
   refine wp_region_perm [(0, true), (1, true), (2, true), (3, true), (4, true), (5, true), (6, true), (7, true), (8, true), (9, true)] (fun w' => w'.cell? ⟨r, 0, none⟩ = some (.string T) ∧ w'.cell? ⟨r, 1, none⟩ = some (.int .i64 a)) rfl (by kernel_rfl) (by kernel_rfl) (by decide) (fun c a d v w h => by cases d <;> exact h) ⟨c0, c1⟩ ?_
   refine pq (some 13) ?_; (try simp only [PU])
   refine pq (some 14) ?_; (try simp only [PU])
   refine pq (some 15) ?_; (try simp only [PU])
   refine pq (some 16) ?_; (try simp only [PU])
   refine pq (some 17) ?_; (try simp only [PU])
   refine pq (some 18) ?_; (try simp only [PU])
   refine pq (some 19) ?_; (try simp only [PU])
   refine pq (some 20) ?_; (try simp only [PU])
   refine pq (some 21) ?_; (try simp only [PU])
   refine pq (some 2) ?_; (try simp only [PU])
   refine perm_nil ?_
   go_wp2
   go_ret
   exact ⟨rfl, ((Keeps.refl Nob w).drew).then (Keeps.refl Nob w.drew).drew⟩
def isB (c0 : UInt8) : Bs → Bool × Bs
 | [] => (false, [])
 | c :: q => if c = c0 then (true, q) else (false, c :: q)
theorem isB_at (c0 : UInt8) (q : Bs) : isB c0 (c0 :: q) = (true, q) := by simp [isB]
theorem isB_ne {c c0 : UInt8} (h : ¬ c = c0) (q : Bs) : isB c0 (c :: q) = (false, c :: q) := by simp [isB, h]
def IsOut (w : World) (r : Nat) (T : ByteArray) (x : Bool × Bs) (e : Ending) (w' : World) : Prop := e = .returned (.bool x.1) ∧ Rd w' r T x.2 ∧ Keeps (· = r) w w'
set_option maxHeartbeats 2000000 in
theorem is101 {w : World} {r : Nat} {T : ByteArray} {s : Bs} (h : Rd w r T s) (c0 : UInt8) (v0 : Int) (hv0 : v0 = (c0.toNat : Int)) : Calls Tryd.prog 101 #[.pointer (some ⟨r, 0, none⟩), .int .u8 v0] w (IsOut w r T (isB c0 s)) := by
 obtain ⟨i3, hi3, hs3⟩ := infoS3
 have HI := Lib.hid (And.intro hi3 hs3)
 clear hi3 hs3
 cases s with
 | nil =>
   have hT := h.len
   have c0' := (blk_cell h.nil 0).trans rfl
   have c1' := (blk_cell h.nil 1).trans rfl
   have H := Lib.hid h
   clear h hv0
   go_enter Tryd.func101, Tryd.ntmps101
   go_wp2_with fail
   refine wp_region_perm [(0, true), (1, true), (2, true), (3, true), (4, true), (5, true), (6, true), (7, true), (8, true), (9, true), (10, true), (11, true), (12, true), (13, true), (14, true), (15, true), (16, true), (17, true), (18, true), (19, true), (20, true), (21, true), (22, true)] (fun w' => w'.cell? ⟨r, 0, none⟩ = some (.string T) ∧ w'.cell? ⟨r, 1, none⟩ = some (.int .i64 T.size)) rfl (by kernel_rfl) (by kernel_rfl) (by decide) (fun c a d v w h => by cases d <;> exact h) ⟨c0', c1'⟩ ?_
   refine pq (some 5) ?_; (try simp only [PU])
   refine pq (some 6) ?_; (try simp only [PU])
   refine pq (some 7) ?_; (try simp only [PU])
   refine pq (some 8) ?_; (try simp only [PU])
   refine pq (some 9) ?_; (try simp only [PU])
   refine pq (some 10) ?_; (try simp only [PU])
   refine pq (some 11) ?_; (try simp only [PU])
   refine pq (some 12) ?_; (try simp only [PU])
   refine pq (some 13) ?_; (try simp only [PU])
   refine pq (some 14) ?_; (try simp only [PU])
   refine pq (some 15) ?_; (try simp only [PU])
   refine perm_skip (some 16) rfl rfl rfl ?_; (try simp only [PU])
   refine perm_skip (some 17) rfl rfl rfl ?_; (try simp only [PU])
   refine perm_skip (some 18) rfl rfl rfl ?_; (try simp only [PU])
   refine perm_skip (some 19) rfl rfl rfl ?_; (try simp only [PU])
   refine perm_skip (some 20) rfl rfl rfl ?_; (try simp only [PU])
   refine perm_skip (some 21) rfl rfl rfl ?_; (try simp only [PU])
   refine perm_skip (some 22) rfl rfl rfl ?_; (try simp only [PU])
   refine perm_skip (some 23) rfl rfl rfl ?_; (try simp only [PU])
   refine perm_skip (some 24) rfl rfl rfl ?_; (try simp only [PU])
   refine perm_skip (some 25) rfl rfl rfl ?_; (try simp only [PU])
   refine perm_skip (some 26) rfl rfl rfl ?_; (try simp only [PU])
   refine pq (some 27) ?_; (try simp only [PU])
   refine perm_nil ?_
   go_wp2
   go_ret
   exact ⟨rfl, H.out.keep (Keeps.refl Nob w).drew id, (Keeps.refl _ w).drew⟩
 | cons c q =>
   obtain ⟨a, ha, ⟨hb, hc⟩, hT, -, hn⟩ := h.cons
   have c0' := (blk_cell hb 0).trans rfl
   have c1' := (blk_cell hb 1).trans rfl
   have H := Lib.hid h
   have Hn := Lib.hid hn
   have Hb := Lib.hid hb
   have hai : (a : Int) < (T.size : Int) := by omega
   clear h hb hn
   by_cases he : c = c0
   · subst he
     rw [isB_at]
     subst hv0
     generalize (c.toNat : Int) = cv at *
     go_enter Tryd.func101, Tryd.ntmps101
     go_wp2_with fail
     refine wp_region_perm [(0, true), (1, true), (2, true), (3, true), (4, true), (5, true), (6, true), (7, true), (8, true), (9, true), (10, true), (11, true), (12, true), (13, true), (14, true), (15, true), (16, true), (17, true), (18, true), (19, true), (20, true), (21, true), (22, true)] (fun w' => w'.cell? ⟨r, 0, none⟩ = some (.string T) ∧ w'.cell? ⟨r, 1, none⟩ = some (.int .i64 a)) rfl (by kernel_rfl) (by kernel_rfl) (by decide) (fun c a d v w h => by cases d <;> exact h) ⟨c0', c1'⟩ ?_
     refine pq (some 5) ?_; (try simp only [PU])
     refine pq (some 6) ?_; (try simp only [PU])
     refine pq (some 7) ?_; (try simp only [PU])
     refine pq (some 8) ?_; (try simp only [PU])
     refine pq (some 9) ?_; (try simp only [PU])
     refine pq (some 10) ?_; (try simp only [PU])
     refine pq (some 11) ?_; (try simp only [PU])
     refine pq (some 12) ?_; (try simp only [PU])
     refine pq (some 13) ?_; (try simp only [PU])
     refine pq (some 14) ?_; (try simp only [PU])
     refine pq (some 15) ?_; (try simp only [PU])
     refine pq (some 16) ?_; (try simp only [PU])
     refine pq (some 17) ?_; (try simp only [PU])
     refine pq (some 18) ?_; (try simp only [PU])
     refine pq (some 19) ?_; (try simp only [PU])
     refine pq (some 20) ?_; (try simp only [PU])
     refine pq (some 21) ?_; (try simp only [PU])
     refine pq (some 22) ?_; (try simp only [PU])
     refine pq (some 23) ?_; (try simp only [PU])
     refine pq (some 24) ?_; (try simp only [PU])
     refine pq (some 25) ?_; (try simp only [PU])
     refine pq (some 26) ?_; (try simp only [PU])
     refine pq (some 27) ?_; (try simp only [PU])
     refine perm_nil ?_
     go_wp2_with ((with_reducible refine at_store (t := 3) rfl ?_); go_must (refine ev_store (W := w.drew) (cs' := #[.string T, .int .i64 ((a : Int) + 1)]) rfl rfl rfl rfl rfl rfl HI.out.1 HI.out.2 rfl Hb.out (Nat.le_of_ble_eq_true rfl) rfl ?_; intro w1 hb1 hk1); have Hb1 := Lib.hid hb1; have HK1 := Lib.hid hk1; clear hb1 hk1; (try simp only [PU]))
     go_ret
     exact ⟨rfl, Hn.out w1 Hb1.out, (Keeps.refl _ w).drew.trans HK1.out (fun _ _ h => h)⟩
   · rw [isB_ne he]
     have hne : ((c.toNat : Int) == v0) = false := by
      subst hv0
      exact beq_eq_false_iff_ne.2 (fun e => he (UInt8.toNat_inj.1 (by omega)))
     generalize (c.toNat : Int) = cv at *
     clear hv0
     go_enter Tryd.func101, Tryd.ntmps101
     go_wp2_with fail
     refine wp_region_perm [(0, true), (1, true), (2, true), (3, true), (4, true), (5, true), (6, true), (7, true), (8, true), (9, true), (10, true), (11, true), (12, true), (13, true), (14, true), (15, true), (16, true), (17, true), (18, true), (19, true), (20, true), (21, true), (22, true)] (fun w' => w'.cell? ⟨r, 0, none⟩ = some (.string T) ∧ w'.cell? ⟨r, 1, none⟩ = some (.int .i64 a)) rfl (by kernel_rfl) (by kernel_rfl) (by decide) (fun c a d v w h => by cases d <;> exact h) ⟨c0', c1'⟩ ?_
     refine pq (some 5) ?_; (try simp only [PU])
     refine pq (some 6) ?_; (try simp only [PU])
     refine pq (some 7) ?_; (try simp only [PU])
     refine pq (some 8) ?_; (try simp only [PU])
     refine pq (some 9) ?_; (try simp only [PU])
     refine pq (some 10) ?_; (try simp only [PU])
     refine pq (some 11) ?_; (try simp only [PU])
     refine pq (some 12) ?_; (try simp only [PU])
     refine pq (some 13) ?_; (try simp only [PU])
     refine pq (some 14) ?_; (try simp only [PU])
     refine pq (some 15) ?_; (try simp only [PU])
     refine pq (some 16) ?_; (try simp only [PU])
     refine pq (some 17) ?_; (try simp only [PU])
     refine pq (some 18) ?_; (try simp only [PU])
     refine pq (some 19) ?_; (try simp only [PU])
     refine pq (some 20) ?_; (try simp only [PU])
     refine pq (some 21) ?_; (try simp only [PU])
     refine pq (some 22) ?_; (try simp only [PU])
     refine pq (some 23) ?_; (try simp only [PU])
     refine pq (some 24) ?_; (try simp only [PU])
     refine pq (some 25) ?_; (try simp only [PU])
     refine pq (some 26) ?_; (try simp only [PU])
     refine pq (some 27) ?_; (try simp only [PU])
     refine perm_nil ?_
     go_wp2
     go_ret
     exact ⟨rfl, H.out.keep (Keeps.refl Nob w).drew id, (Keeps.refl _ w).drew⟩
theorem digit_head (s : Bs) : startsDigit s = (decide (48 ≤ headN s) && decide (headN s ≤ 57)) := by
 cases s with
 | nil => rfl
 | cons c q =>
   show isDigit c = _
   unfold isDigit headN
   rw [Bool.eq_iff_iff]
   simp only [Bool.and_eq_true, decide_eq_true_eq, UInt8.le_iff_toNat_le]
   have h1 : (48 : UInt8).toNat = 48 := rfl
   have h2 : (57 : UInt8).toNat = 57 := rfl
   rw [h1, h2]
   omega
set_option maxHeartbeats 1000000 in
theorem digit76 {w : World} {r : Nat} {T : ByteArray} {s : Bs} (h : Rd w r T s) : Calls Tryd.prog 76 #[.pointer (some ⟨r, 0, none⟩)] w fun e w' => e = .returned (.bool (startsDigit s)) ∧ Keeps Nob w w' := by
 have H73 := Lib.hid (fun W (hk : Keeps Nob w W) => next73 (h.keep hk id))
 have hb := headN_lt s
 rw [digit_head]
 obtain ⟨hv, hhv⟩ : ∃ x, headN s = x := ⟨_, rfl⟩
 rw [hhv] at H73 hb ⊢
 obtain ⟨hb0, hb1⟩ := hb
 clear h hhv
 by_cases h48 : 48 ≤ hv
 · by_cases h57 : hv ≤ 57
   · go_enter Tryd.func76, Tryd.ntmps76
     have HK := Lib.hid (Keeps.refl Nob w)
     go_wp2_with (go_at_call 73; go_must (refine (H73.out _ HK.out).mono ?_; rintro e w1 ⟨rfl, hk1⟩); have HK := Lib.hid (HK.out.trans hk1 (fun _ _ h => h)); clear hk1; (try simp only [PU]))
     go_ret
     exact ⟨by simp [h48, h57], HK.out⟩
   · go_enter Tryd.func76, Tryd.ntmps76
     have HK := Lib.hid (Keeps.refl Nob w)
     go_wp2_with (go_at_call 73; go_must (refine (H73.out _ HK.out).mono ?_; rintro e w1 ⟨rfl, hk1⟩); have HK := Lib.hid (HK.out.trans hk1 (fun _ _ h => h)); clear hk1; (try simp only [PU]))
     go_ret
     exact ⟨by simp [h48, h57], HK.out⟩
 · go_enter Tryd.func76, Tryd.ntmps76
   have HK := Lib.hid (Keeps.refl Nob w)
   go_wp2_with (go_at_call 73; go_must (refine (H73.out _ HK.out).mono ?_; rintro e w1 ⟨rfl, hk1⟩); have HK := Lib.hid (HK.out.trans hk1 (fun _ _ h => h)); clear hk1; (try simp only [PU]))
   go_ret
   exact ⟨by simp; omega, HK.out⟩
theorem idxBlank (c : UInt8) : 0 ≤ Lib.indexByte [32, 9, 10, 13] c ↔ isBlank c = true := by
 by_cases h1 : c = 32
 · subst h1; decide
 by_cases h2 : c = 9
 · subst h2; decide
 by_cases h3 : c = 10
 · subst h3; decide
 by_cases h4 : c = 13
 · subst h4; decide
 have e1 : ((32 : UInt8) == c) = false := beq_eq_false_iff_ne.2 (fun e => h1 e.symm)
 have e2 : ((9 : UInt8) == c) = false := beq_eq_false_iff_ne.2 (fun e => h2 e.symm)
 have e3 : ((10 : UInt8) == c) = false := beq_eq_false_iff_ne.2 (fun e => h3 e.symm)
 have e4 : ((13 : UInt8) == c) = false := beq_eq_false_iff_ne.2 (fun e => h4 e.symm)
 simp [Lib.indexByte, isBlank, e1, e2, e3, e4, h1, h2, h3, h4]
theorem u8_back (c : UInt8) : ((c.toNat : Int)).toNat.toUInt8 = c := by
 rw [Int.toNat_natCast]
 exact UInt8.ofNat_toNat
theorem blank72 (c : UInt8) (cv : Int) (hcv : cv = (c.toNat : Int)) (w : World) : Calls Tryd.prog 72 #[.string ⟨#[32, 9, 10, 13]⟩, .int .u8 cv] w fun e w' => (∃ iv : Int, e = .returned (.int .i64 iv) ∧ (0 ≤ iv ↔ isBlank c = true)) ∧ w' = w := by
 subst hcv
 refine (Tryd.strings_IndexByte ⟨#[32, 9, 10, 13]⟩ (c.toNat : Int) w).mono ?_
 rintro e w' ⟨rfl, rfl⟩
 rw [u8_back]
 exact ⟨⟨_, rfl, idxBlank c⟩, rfl⟩
def DoneOut (w : World) (r : Nat) (T : ByteArray) (s : Bs) (e : Ending) (w' : World) : Prop := (∃ x, e = .returned x) ∧ Rd w' r T s ∧ Keeps (· = r) w w'
set_option maxHeartbeats 2000000 in
theorem blanks45 {w : World} {r : Nat} {T : ByteArray} {s : Bs} (h : Rd w r T s) : Calls Tryd.prog 45 #[.pointer (some ⟨r, 0, none⟩)] w (DoneOut w r T (blanksB s)) := by
 obtain ⟨i3, hi3, hs3⟩ := infoS3
 have HI := Lib.hid (And.intro hi3 hs3)
 have H := Lib.hid h
 clear hi3 hs3 h
 go_enter Tryd.func45, Tryd.ntmps45
 go_wp2
 go_loopg [] s.length (fun k wr => ∃ s' : Bs, s'.length ≤ k ∧ Hid (Rd wr r T s') ∧ Hid (Keeps (· = r) w wr) ∧ Hid (blanksB s' = blanksB s))
 case atStart => exact ⟨s, Nat.le_refl _, H, Lib.hid (Keeps.refl _ _), Lib.hid rfl⟩
 case round =>
  obtain ⟨s', hl, Hr, HK, HE⟩ := hrel
  cases s' with
  | nil =>
    have hT := Hr.out.len
    have c0' := (blk_cell Hr.out.nil 0).trans rfl
    have c1' := (blk_cell Hr.out.nil 1).trans rfl
    go_wp2_with fail
    refine wp_region_perm [(0, true), (1, true), (2, true), (3, true), (4, true), (5, true), (6, true), (7, true), (8, true), (9, true), (10, true), (11, true), (12, true), (13, true), (14, true), (15, true), (16, true), (17, true), (18, true), (19, true), (20, false), (21, true), (22, true)] (fun w' => w'.cell? ⟨r, 0, none⟩ = some (.string T) ∧ w'.cell? ⟨r, 1, none⟩ = some (.int .i64 T.size)) rfl (by kernel_rfl) (by kernel_rfl) (by decide) (fun c a d v w h => by cases d <;> exact h) ⟨c0', c1'⟩ ?_
    refine pq (some 2) ?_; (try simp only [PU])
    refine pq (some 3) ?_; (try simp only [PU])
    refine pq (some 4) ?_; (try simp only [PU])
    refine pq (some 5) ?_; (try simp only [PU])
    refine pq (some 6) ?_; (try simp only [PU])
    refine pq (some 7) ?_; (try simp only [PU])
    refine pq (some 8) ?_; (try simp only [PU])
    refine pq (some 9) ?_; (try simp only [PU])
    refine pq (some 10) ?_; (try simp only [PU])
    refine pq (some 11) ?_; (try simp only [PU])
    refine pq (some 12) ?_; (try simp only [PU])
    refine perm_skip (some 13) rfl rfl rfl ?_; (try simp only [PU])
    refine perm_skip (some 14) rfl rfl rfl ?_; (try simp only [PU])
    refine perm_skip (some 15) rfl rfl rfl ?_; (try simp only [PU])
    refine perm_skip (some 16) rfl rfl rfl ?_; (try simp only [PU])
    refine perm_skip (some 17) rfl rfl rfl ?_; (try simp only [PU])
    refine perm_skip (some 18) rfl rfl rfl ?_; (try simp only [PU])
    refine perm_skip (some 19) rfl rfl rfl ?_; (try simp only [PU])
    refine perm_skip (some 20) rfl rfl rfl ?_; (try simp only [PU])
    refine perm_skip (some 21) rfl rfl rfl ?_; (try simp only [PU])
    refine perm_e rfl ?_
    go_wp2_with fail
    (try simp only [PU])
    refine ⟨⟨c0', c1'⟩, ?_⟩
    refine perm_skip (some 23) rfl rfl rfl ?_; (try simp only [PU])
    refine pq (some 24) ?_; (try simp only [PU])
    refine perm_nil ?_
    go_wp2
    go_end0
    refine ⟨⟨_, rfl⟩, ?_, HK.out.then (Keeps.refl Nob wr).drew⟩
    rw [← HE.out]
    exact Hr.out.keep (Keeps.refl Nob wr).drew id
  | cons c q =>
    obtain ⟨a, ha, ⟨hb, hc⟩, hT, -, hn⟩ := Hr.out.cons
    have c0' := (blk_cell hb 0).trans rfl
    have c1' := (blk_cell hb 1).trans rfl
    have Hn := Lib.hid hn
    have Hb := Lib.hid hb
    have hai : (a : Int) < (T.size : Int) := by omega
    have H72 := Lib.hid (fun cv (h : cv = (c.toNat : Int)) w => blank72 c cv h w)
    obtain ⟨cv, hcv⟩ : ∃ x : Int, (c.toNat : Int) = x := ⟨_, rfl⟩
    rw [hcv] at hc
    have Hcv := Lib.hid hcv.symm
    clear hb hn hcv
    simp only [List.length_cons] at hl
    rcases hbl : isBlank c with _ | _
    · rw [hbl] at H72
      have Hbl := Lib.hid hbl
      clear hbl
      go_wp2_with fail
      refine wp_region_perm [(0, true), (1, true), (2, true), (3, true), (4, true), (5, true), (6, true), (7, true), (8, true), (9, true), (10, true), (11, true), (12, true), (13, true), (14, true), (15, true), (16, true), (17, true), (18, true), (19, true), (20, false), (21, true), (22, true)] (fun w' => w'.cell? ⟨r, 0, none⟩ = some (.string T) ∧ w'.cell? ⟨r, 1, none⟩ = some (.int .i64 a)) rfl (by kernel_rfl) (by kernel_rfl) (by decide) (fun c a d v w h => by cases d <;> exact h) ⟨c0', c1'⟩ ?_
      refine pq (some 2) ?_; (try simp only [PU])
      refine pq (some 3) ?_; (try simp only [PU])
      refine pq (some 4) ?_; (try simp only [PU])
      refine pq (some 5) ?_; (try simp only [PU])
      refine pq (some 6) ?_; (try simp only [PU])
      refine pq (some 7) ?_; (try simp only [PU])
      refine pq (some 8) ?_; (try simp only [PU])
      refine pq (some 9) ?_; (try simp only [PU])
      refine pq (some 10) ?_; (try simp only [PU])
      refine pq (some 11) ?_; (try simp only [PU])
      refine pq (some 12) ?_; (try simp only [PU])
      refine pq (some 13) ?_; (try simp only [PU])
      refine pq (some 14) ?_; (try simp only [PU])
      refine pq (some 15) ?_; (try simp only [PU])
      refine pq (some 16) ?_; (try simp only [PU])
      refine pq (some 17) ?_; (try simp only [PU])
      refine pq (some 18) ?_; (try simp only [PU])
      refine pq (some 19) ?_; (try simp only [PU])
      refine pq (some 20) ?_; (try simp only [PU])
      refine pq (some 21) ?_; (try simp only [PU])
      refine perm_e rfl ?_
      go_wp2_with (go_at_call 72; go_must (refine (H72.out _ Hcv.out _).mono ?_; rintro e w1 ⟨⟨iv, rfl, hiv⟩, rfl⟩))
      have hneg : iv < 0 := by rcases Int.lt_or_le iv 0 with h | h; exact h; exact absurd (hiv.1 h) (by decide)
      clear hiv
      (try simp only [PU])
      refine ⟨⟨c0', c1'⟩, ?_⟩
      refine pq (some 23) ?_; (try simp only [PU])
      refine pq (some 24) ?_; (try simp only [PU])
      refine perm_nil ?_
      go_wp2
      go_end0
      refine ⟨⟨_, rfl⟩, ?_, HK.out.then (Keeps.refl Nob wr).drew⟩
      rw [← HE.out, show blanksB (c :: q) = c :: q by simp [blanksB, Hbl.out]]
      exact Hr.out.keep (Keeps.refl Nob wr).drew id
    · rw [hbl] at H72
      have Hbl := Lib.hid hbl
      clear hbl
      go_wp2_with fail
      refine wp_region_perm [(0, true), (1, true), (2, true), (3, true), (4, true), (5, true), (6, true), (7, true), (8, true), (9, true), (10, true), (11, true), (12, true), (13, true), (14, true), (15, true), (16, true), (17, true), (18, true), (19, true), (20, false), (21, true), (22, true)] (fun w' => w'.cell? ⟨r, 0, none⟩ = some (.string T) ∧ w'.cell? ⟨r, 1, none⟩ = some (.int .i64 a)) rfl (by kernel_rfl) (by kernel_rfl) (by decide) (fun c a d v w h => by cases d <;> exact h) ⟨c0', c1'⟩ ?_
      refine pq (some 2) ?_; (try simp only [PU])
      refine pq (some 3) ?_; (try simp only [PU])
      refine pq (some 4) ?_; (try simp only [PU])
      refine pq (some 5) ?_; (try simp only [PU])
      refine pq (some 6) ?_; (try simp only [PU])
      refine pq (some 7) ?_; (try simp only [PU])
      refine pq (some 8) ?_; (try simp only [PU])
      refine pq (some 9) ?_; (try simp only [PU])
      refine pq (some 10) ?_; (try simp only [PU])
      refine pq (some 11) ?_; (try simp only [PU])
      refine pq (some 12) ?_; (try simp only [PU])
      refine pq (some 13) ?_; (try simp only [PU])
      refine pq (some 14) ?_; (try simp only [PU])
      refine pq (some 15) ?_; (try simp only [PU])
      refine pq (some 16) ?_; (try simp only [PU])
      refine pq (some 17) ?_; (try simp only [PU])
      refine pq (some 18) ?_; (try simp only [PU])
      refine pq (some 19) ?_; (try simp only [PU])
      refine pq (some 20) ?_; (try simp only [PU])
      refine pq (some 21) ?_; (try simp only [PU])
      refine perm_e rfl ?_
      go_wp2_with (go_at_call 72; go_must (refine (H72.out _ Hcv.out _).mono ?_; rintro e w1 ⟨⟨iv, rfl, hiv⟩, rfl⟩))
      have hpos : 0 ≤ iv := hiv.2 (by first | trivial | rfl)
      clear hiv
      (try simp only [PU])
      refine ⟨⟨c0', c1'⟩, ?_⟩
      refine pq (some 23) ?_; (try simp only [PU])
      refine pq (some 24) ?_; (try simp only [PU])
      refine perm_nil ?_
      go_wp2_with ((with_reducible refine at_store (t := 3) rfl ?_); go_must (refine ev_store (W := wr.drew) (cs' := #[.string T, .int .i64 ((a : Int) + 1)]) rfl rfl rfl rfl rfl rfl HI.out.1 HI.out.2 rfl Hb.out (Nat.le_of_ble_eq_true rfl) rfl ?_; intro w1 hb1 hk1); have Hb1 := Lib.hid hb1; have HK1 := Lib.hid hk1; clear hb1 hk1; (try simp only [PU]))
      go_roundg q.length
      case measure => omega
      case rel => exact ⟨q, Nat.le_refl _, Lib.hid (Hn.out w1 Hb1.out), Lib.hid (HK.out.trans ((Keeps.refl _ wr).drew.trans HK1.out (fun _ _ h => h)) (fun _ _ h => h)), Lib.hid (by rw [← HE.out]; simp [blanksB, Hbl.out])⟩
end Go.Proofs.WV

namespace Go.Proofs.WV
open Go.RowKit Go.Proofs.KL Go.Proofs.WM
set_option maxRecDepth 100000
set_option linter.unusedSimpArgs false
set_option linter.unusedVariables false

def EndU (w : World) (r : Nat) (T : ByteArray) : Except Nat Bs → Ending → World → Prop
 | .ok s', e, w' => DoneOut w r T s' e w'
 | .error n, e, w' => e = stopAt T n ∧ Keeps (· = r) w w'
def EndR (w : World) (r : Nat) (T : ByteArray) {α : Type} (val : α → Value) : R α → Ending → World → Prop
 | .ok x, e, w' => e = .returned (val x.1) ∧ Rd w' r T x.2 ∧ Keeps (· = r) w w'
 | .error n, e, w' => e = stopAt T n ∧ Keeps (· = r) w w'
theorem wordB_nil (r : Bs) : wordB [] r = .ok r := by cases r <;> rfl
theorem drop_byte (W : ByteArray) (i : Nat) (h : i < W.size) : (bl W).drop i = W[i] :: (bl W).drop (i + 1) := by
 rw [List.drop_eq_getElem_cons (by rw [bl_len]; exact h)]
 rfl
set_option maxHeartbeats 2000000 in
theorem word74 {w : World} {r : Nat} {T : ByteArray} {s : Bs} (h : Rd w r T s) (V : ByteArray) (hV : V.size ≤ 10) (hz : ∀ i (hi : i < V.size), V[i] ≠ 0) : Calls Tryd.prog 74 #[.pointer (some ⟨r, 0, none⟩), .string V] w (EndU w r T (wordB (bl V) s)) := by
 obtain ⟨i3, hi3, hs3⟩ := infoS3
 have HI := Lib.hid (And.intro hi3 hs3)
 have H := Lib.hid h
 have Hz := Lib.hid hz
 obtain ⟨R, hR⟩ : ∃ x, wordB (bl V) s = x := ⟨_, rfl⟩
 rw [hR]
 have HR := Lib.hid hR
 clear hi3 hs3 h hz hR
 go_enter Tryd.func74, Tryd.ntmps74
 go_wp2
 go_loopw [4, 7] (fun n1 iv wr => ∃ (i : Nat) (s' : Bs), iv = .int .i64 i ∧ i ≤ V.size ∧ Hid (Rd wr r T s') ∧ Hid (Keeps (· = r) w wr) ∧ Hid (wordB ((bl V).drop i) s' = R)) (fun _ iv _ => V.size - (intOf iv).toNat)
 case atStart => exact ⟨0, s, rfl, Nat.zero_le _, H, Lib.hid (Keeps.refl _ _), HR⟩
 case round =>
  obtain ⟨i, s', rfl, hi, Hr, HK, HE⟩ := hrel
  by_cases hlt : i < V.size
  · have hdr := drop_byte V i hlt
    obtain ⟨c, hc⟩ : ∃ c, V[i] = c := ⟨_, rfl⟩
    have hvi : ((V[i].toNat : Nat) : Int) = (c.toNat : Int) := by rw [hc]
    have hc0 : c ≠ 0 := hc ▸ Hz.out i hlt
    rw [hc] at hdr
    obtain ⟨cv, hcv⟩ : ∃ x : Int, (c.toNat : Int) = x := ⟨_, rfl⟩
    rw [hcv] at hvi
    have HE2 := Lib.hid (show wordB (c :: (bl V).drop (i + 1)) s' = R by rw [← hdr]; exact HE.out)
    have Hcv := Lib.hid hcv
    have Hc0 := Lib.hid hc0
    have H73 := Lib.hid (fun W (hk : Keeps Nob wr W) => next73 (Hr.out.keep hk id))
    have hcases : (headN s' ≠ cv ∧ wordB (c :: (bl V).drop (i + 1)) s' = .error s'.length) ∨ (headN s' = cv ∧ ∃ q, s' = c :: q) := by
     cases s' with
     | nil => exact .inl ⟨fun e => hc0 (UInt8.toNat_inj.1 (by simp only [headN] at e; show c.toNat = 0; omega)), rfl⟩
     | cons d q =>
       by_cases hd : d = c
       · subst hd; exact .inr ⟨hcv, q, rfl⟩
       · exact .inl ⟨fun e => hd (UInt8.toNat_inj.1 (by simp only [headN] at e; omega)), by simp [wordB, hd]⟩
    obtain ⟨hv, hhv⟩ : ∃ x, headN s' = x := ⟨_, rfl⟩
    rw [hhv] at H73 hcases
    clear hdr hc hcv hc0 hhv
    rcases hcases with ⟨hne, herr⟩ | ⟨heq, q, hq⟩
    · have hne2 : (hv != cv) = true := by simpa using hne
      have HR2 := Lib.hid (show R = .error s'.length by rw [← HE2.out, herr])
      have Hle := Lib.hid Hr.out.le
      have Hfail := Lib.hid (fun W (hk : Keeps Nob wr W) => fail47 (Hr.out.keep hk id) s'.length Hr.out.le)
      obtain ⟨n, hn⟩ : ∃ x, s'.length = x := ⟨_, rfl⟩
      rw [hn] at HR2 Hfail
      have Hn := Lib.hid hn
      clear hne herr hn
      go_wp2_with fail
      refine wp_region_perm [(0, true), (2, true), (3, true), (4, true), (1, false), (5, true)] (fun w' => True) rfl (by kernel_rfl) (by kernel_rfl) (by decide) (fun c a d v w h => by cases d <;> exact h) trivial ?_
      refine pq (some 10) ?_; (try simp only [PU])
      refine pq (some 12) ?_; (try simp only [PU])
      refine pq (some 13) ?_; (try simp only [PU])
      refine pq (some 14) ?_; (try simp only [PU])
      refine perm_e rfl ?_
      go_wp2_with (go_at_call 73; go_must (refine (H73.out _ (Keeps.refl Nob wr).drew).mono ?_; rintro e w1 ⟨rfl, hk1⟩); have HK1 := Lib.hid (show Keeps Nob wr w1 from (Keeps.refl Nob wr).drew.trans hk1 (fun _ _ h => h)); clear hk1; (try simp only [PU]))
      refine ⟨trivial, ?_⟩
      refine pq (some 15) ?_; (try simp only [PU])
      refine perm_nil ?_
      have q1 := (blk_cell (HK1.out.blk Hr.out.blk id) 1).trans rfl
      rw [Hn.out] at q1
      go_wp2_with (go_at_call 47; go_must (refine (Hfail.out _ HK1.out).mono ?_; rintro e w2 ⟨rfl, rfl⟩); unfold stopAt; (try simp only [PU]))
      refine ⟨rfl, ?_⟩
      rw [HR2.out]
      exact ⟨rfl, HK.out.then HK1.out⟩
    · subst heq
      subst hq
      have HR2 := Lib.hid (show wordB ((bl V).drop (i + 1)) q = R by rw [← HE2.out]; simp [wordB])
      obtain ⟨a, ha, ⟨hb, -⟩, hT, -, hn⟩ := Hr.out.cons
      have Hn := Lib.hid hn
      have Hb := Lib.hid hb
      clear hn hb
      go_wp2_with fail
      refine wp_region_perm [(0, true), (2, true), (3, true), (4, true), (1, false), (5, true)] (fun w' => True) rfl (by kernel_rfl) (by kernel_rfl) (by decide) (fun c a d v w h => by cases d <;> exact h) trivial ?_
      refine pq (some 10) ?_; (try simp only [PU])
      refine pq (some 12) ?_; (try simp only [PU])
      refine pq (some 13) ?_; (try simp only [PU])
      refine pq (some 14) ?_; (try simp only [PU])
      refine perm_e rfl ?_
      go_wp2_with (go_at_call 73; go_must (refine (H73.out _ (Keeps.refl Nob wr).drew).mono ?_; rintro e w1 ⟨rfl, hk1⟩); have HK1 := Lib.hid (show Keeps Nob wr w1 from (Keeps.refl Nob wr).drew.trans hk1 (fun _ _ h => h)); clear hk1; (try simp only [PU]))
      refine ⟨trivial, ?_⟩
      refine pq (some 15) ?_; (try simp only [PU])
      refine perm_nil ?_
      have Hb1 := Lib.hid (HK1.out.blk Hb.out id)
      have q1 := (blk_cell Hb1.out 1).trans rfl
      go_wp2_with ((with_reducible refine at_store (t := 3) rfl ?_); go_must (refine ev_store (cs' := #[.string T, .int .i64 ((a : Int) + 1)]) rfl rfl rfl rfl rfl rfl HI.out.1 HI.out.2 rfl Hb1.out (Nat.le_of_ble_eq_true rfl) rfl ?_; intro w2 hb2 hk2); have Hb2 := Lib.hid hb2; have HK2 := Lib.hid hk2; clear hb2 hk2; (try simp only [PU]))
      go_roundw
      case rel => exact ⟨i + 1, q, by go_num, by omega, Lib.hid (Hn.out w2 Hb2.out), Lib.hid ((HK.out.then HK1.out).trans HK2.out (fun _ _ h => h)), HR2⟩
      case measure => simp [intOf]; omega
  · have hi' : i = V.size := by omega
    have hd : (bl V).drop i = [] := List.drop_eq_nil_iff.2 (by rw [bl_len]; omega)
    have HR2 := Lib.hid (show R = .ok s' by rw [← HE.out, hd, wordB_nil])
    subst hi'
    clear hd
    go_wp2
    go_end0
    rw [HR2.out]
    exact ⟨⟨_, rfl⟩, Hr.out, HK.out⟩
end Go.Proofs.WV

namespace Go.Proofs.WV
open Go.RowKit Go.Proofs.KL Go.Proofs.WM
set_option maxRecDepth 100000
set_option linter.unusedSimpArgs false
set_option linter.unusedVariables false

def Rf (w : World) (r : Nat) (T : ByteArray) : Except Nat Bs → Prop
 | .ok s => w.heap[r]? = some (.cells #[.string T, .int .i64 (T.size - s.length : Nat), .int .i64 (-1)] 85 (0, 0)) ∧ (∃ p, bl T = p ++ s) ∧ T.size ≤ 1000000
 | .error n => ∃ a : Nat, w.heap[r]? = some (.cells #[.string T, .int .i64 (a : Nat), .int .i64 (T.size - n : Nat)] 85 (0, 0)) ∧ a ≤ T.size ∧ n ≤ T.size ∧ T.size ≤ 1000000
theorem Rf.blk {w : World} {r : Nat} {T : ByteArray} {x : Except Nat Bs} (h : Rf w r T x) : ∃ cs, w.heap[r]? = some (.cells cs 85 (0, 0)) := by
 cases x with
 | ok s => exact ⟨_, h.1⟩
 | error n => obtain ⟨a, h, _⟩ := h; exact ⟨_, h⟩
theorem Rf.lt {w : World} {r : Nat} {T : ByteArray} {x : Except Nat Bs} (h : Rf w r T x) : r < w.heap.size := by
 obtain ⟨cs, h⟩ := h.blk
 exact blk_lt h
theorem Rf.len {w : World} {r : Nat} {T : ByteArray} {x : Except Nat Bs} (h : Rf w r T x) : T.size ≤ 1000000 := by
 cases x with
 | ok s => exact h.2.2
 | error n => obtain ⟨a, _, _, _, h⟩ := h; exact h
theorem Rf.keep {M : Nat → Prop} {w w' : World} {r : Nat} {T : ByteArray} {x : Except Nat Bs} (h : Rf w r T x) (hk : Keeps M w w') (hn : ¬ M r) : Rf w' r T x := by
 cases x with
 | ok s => exact ⟨hk.blk h.1 hn, h.2⟩
 | error n => obtain ⟨a, h, h2⟩ := h; exact ⟨a, hk.blk h hn, h2⟩
theorem Rf.le {w : World} {r : Nat} {T : ByteArray} {s : Bs} (h : Rf w r T (.ok s)) : s.length ≤ T.size := by
 obtain ⟨p, hp⟩ := h.2.1
 have := congrArg List.length hp
 rw [bl_len, List.length_append] at this
 omega
theorem Rf.cons {w : World} {r : Nat} {T : ByteArray} {c : UInt8} {q : Bs} (h : Rf w r T (.ok (c :: q))) :
  ∃ (a : Nat) (ha : a < T.size), (w.heap[r]? = some (.cells #[.string T, .int .i64 (a : Nat), .int .i64 (-1)] 85 (0, 0)) ∧ ((T[a].toNat : Nat) : Int) = (c.toNat : Int)) ∧ T.size ≤ 1000000 ∧ a + (q.length + 1) = T.size ∧
   ∀ w', w'.heap[r]? = some (.cells #[.string T, .int .i64 ((a : Int) + 1), .int .i64 (-1)] 85 (0, 0)) → Rf w' r T (.ok q) := by
 have hl := h.le
 obtain ⟨p, hp⟩ := h.2.1
 have hlen := congrArg List.length hp
 rw [bl_len, List.length_append, List.length_cons] at hlen
 simp only [List.length_cons] at hl
 have ha : T.size - (q.length + 1) < T.size := by omega
 have hpa : T.size - (q.length + 1) = p.length := by omega
 have hb := h.1
 rw [List.length_cons] at hb
 refine ⟨T.size - (q.length + 1), ha, ⟨hb, ?_⟩, h.2.2, by omega, fun w' hw => ⟨?_, ⟨p ++ [c], by rw [hp]; simp⟩, h.2.2⟩⟩
 · have hg : T[T.size - (q.length + 1)] = c := by
    have h1 : (bl T)[p.length]? = some c := by rw [hp]; simp
    have h2 : (bl T)[T.size - (q.length + 1)]? = some c := by rw [hpa]; exact h1
    have h3 : (bl T)[T.size - (q.length + 1)]? = some T[T.size - (q.length + 1)] := by
     rw [List.getElem?_eq_getElem (by rw [bl_len]; exact ha)]
     rfl
    rw [h3] at h2
    exact Option.some.inj h2
   rw [hg]
 · rw [hw, show T.size - q.length = T.size - (q.length + 1) + 1 by omega]
   rfl
theorem Rf.nil {w : World} {r : Nat} {T : ByteArray} (h : Rf w r T (.ok [])) : w.heap[r]? = some (.cells #[.string T, .int .i64 (T.size : Nat), .int .i64 (-1)] 85 (0, 0)) := h.1
theorem Rf.good {w : World} {r : Nat} {T : ByteArray} {s : Bs} (h : Rf w r T (.ok s)) : ∃ a : Nat, w.heap[r]? = some (.cells #[.string T, .int .i64 (a : Nat), .int .i64 (-1)] 85 (0, 0)) ∧ a + s.length = T.size ∧ T.size - s.length = a ∧
  ∀ (n : Nat) w', n ≤ T.size → w'.heap[r]? = some (.cells #[.string T, .int .i64 (a : Nat), .int .i64 (T.size - n : Nat)] 85 (0, 0)) → Rf w' r T (.error n) := by
 have hl := h.le
 exact ⟨_, h.1, by omega, rfl, fun n w' hn hw => ⟨_, hw, by omega, hn, h.2.2⟩⟩
def DoneX (w : World) (r : Nat) (T : ByteArray) (x : Except Nat Bs) (e : Ending) (w' : World) : Prop := (∃ y, e = .returned y) ∧ Rf w' r T x ∧ Keeps (· = r) w w'
def headX : Except Nat Bs → Int
 | .ok s => headN s
 | .error _ => 0
set_option maxHeartbeats 1000000 in
theorem peek82 {w : World} {r : Nat} {T : ByteArray} {x : Except Nat Bs} (h : Rf w r T x) : Calls Tryd.prog 82 #[.pointer (some ⟨r, 0, none⟩)] w fun e w' => e = .returned (.int .u8 (headX x)) ∧ Keeps Nob w w' := by
 cases x with
 | error n =>
   obtain ⟨a, hb, -, -, hT⟩ := h
   obtain ⟨m, hm⟩ : ∃ m, T.size - n = m := ⟨_, rfl⟩
   rw [hm] at hb
   have c0 := (blk_cell hb 0).trans rfl
   have c1 := (blk_cell hb 1).trans rfl
   have c2 := (blk_cell hb 2).trans rfl
   have hm0 : (0 : Int) ≤ (m : Int) := by omega
   clear hb hm
   go_enter Tryd.func82, Tryd.ntmps82
   go_wp2_with fail
   refine wp_region_perm [(0, true), (1, true), (2, true), (3, true), (4, true), (5, true), (6, true), (7, true), (8, true), (9, true), (10, true), (11, true), (12, true), (13, true), (14, true), (15, true), (16, true)] (fun w' => w'.cell? ⟨r, 0, none⟩ = some (.string T) ∧ w'.cell? ⟨r, 1, none⟩ = some (.int .i64 a) ∧ w'.cell? ⟨r, 2, none⟩ = some (.int .i64 m)) rfl (by kernel_rfl) (by kernel_rfl) (by decide) (fun c a d v w h => by cases d <;> exact h) ⟨c0, c1, c2⟩ ?_
   refine pq (some 3) ?_; (try simp only [PU])
   refine pq (some 4) ?_; (try simp only [PU])
   refine pq (some 5) ?_; (try simp only [PU])
   refine pq (some 6) ?_; (try simp only [PU])
   refine pq (some 7) ?_; (try simp only [PU])
   refine pq (some 8) ?_; (try simp only [PU])
   refine perm_skip (some 9) rfl rfl rfl ?_; (try simp only [PU])
   refine perm_skip (some 10) rfl rfl rfl ?_; (try simp only [PU])
   refine perm_skip (some 11) rfl rfl rfl ?_; (try simp only [PU])
   refine perm_skip (some 12) rfl rfl rfl ?_; (try simp only [PU])
   refine perm_skip (some 13) rfl rfl rfl ?_; (try simp only [PU])
   refine perm_skip (some 14) rfl rfl rfl ?_; (try simp only [PU])
   refine perm_skip (some 15) rfl rfl rfl ?_; (try simp only [PU])
   refine perm_skip (some 16) rfl rfl rfl ?_; (try simp only [PU])
   refine perm_skip (some 17) rfl rfl rfl ?_; (try simp only [PU])
   refine perm_skip (some 18) rfl rfl rfl ?_; (try simp only [PU])
   refine pq (some 19) ?_; (try simp only [PU])
   refine perm_nil ?_
   go_wp2
   go_ret
   exact ⟨rfl, (Keeps.refl Nob w).drew⟩
 | ok s =>
   cases s with
   | nil =>
     have hT := h.len
     have c0 := (blk_cell h.nil 0).trans rfl
     have c1 := (blk_cell h.nil 1).trans rfl
     have c2 := (blk_cell h.nil 2).trans rfl
     clear h
     go_enter Tryd.func82, Tryd.ntmps82
     go_wp2_with fail
     refine wp_region_perm [(0, true), (1, true), (2, true), (3, true), (4, true), (5, true), (6, true), (7, true), (8, true), (9, true), (10, true), (11, true), (12, true), (13, true), (14, true), (15, true), (16, true)] (fun w' => w'.cell? ⟨r, 0, none⟩ = some (.string T) ∧ w'.cell? ⟨r, 1, none⟩ = some (.int .i64 T.size) ∧ w'.cell? ⟨r, 2, none⟩ = some (.int .i64 (-1))) rfl (by kernel_rfl) (by kernel_rfl) (by decide) (fun c a d v w h => by cases d <;> exact h) ⟨c0, c1, c2⟩ ?_
     refine pq (some 3) ?_; (try simp only [PU])
     refine pq (some 4) ?_; (try simp only [PU])
     refine pq (some 5) ?_; (try simp only [PU])
     refine pq (some 6) ?_; (try simp only [PU])
     refine pq (some 7) ?_; (try simp only [PU])
     refine pq (some 8) ?_; (try simp only [PU])
     refine pq (some 9) ?_; (try simp only [PU])
     refine pq (some 10) ?_; (try simp only [PU])
     refine pq (some 11) ?_; (try simp only [PU])
     refine pq (some 12) ?_; (try simp only [PU])
     refine pq (some 13) ?_; (try simp only [PU])
     refine pq (some 14) ?_; (try simp only [PU])
     refine pq (some 15) ?_; (try simp only [PU])
     refine pq (some 16) ?_; (try simp only [PU])
     refine pq (some 17) ?_; (try simp only [PU])
     refine pq (some 18) ?_; (try simp only [PU])
     refine pq (some 19) ?_; (try simp only [PU])
     refine perm_nil ?_
     go_wp2
     go_ret
     exact ⟨rfl, (Keeps.refl Nob w).drew⟩
   | cons c q =>
     obtain ⟨a, ha, ⟨hb, hc⟩, hT, -, -⟩ := h.cons
     have c0 := (blk_cell hb 0).trans rfl
     have c1 := (blk_cell hb 1).trans rfl
     have c2 := (blk_cell hb 2).trans rfl
     show Calls _ _ _ _ fun e w' => e = .returned (.int .u8 (c.toNat : Int)) ∧ _
     generalize (c.toNat : Int) = cv at *
     clear h hb
     go_enter Tryd.func82, Tryd.ntmps82
     go_wp2_with fail
     refine wp_region_perm [(0, true), (1, true), (2, true), (3, true), (4, true), (5, true), (6, true), (7, true), (8, true), (9, true), (10, true), (11, true), (12, true), (13, true), (14, true), (15, true), (16, true)] (fun w' => w'.cell? ⟨r, 0, none⟩ = some (.string T) ∧ w'.cell? ⟨r, 1, none⟩ = some (.int .i64 a) ∧ w'.cell? ⟨r, 2, none⟩ = some (.int .i64 (-1))) rfl (by kernel_rfl) (by kernel_rfl) (by decide) (fun c a d v w h => by cases d <;> exact h) ⟨c0, c1, c2⟩ ?_
     refine pq (some 3) ?_; (try simp only [PU])
     refine pq (some 4) ?_; (try simp only [PU])
     refine pq (some 5) ?_; (try simp only [PU])
     refine pq (some 6) ?_; (try simp only [PU])
     refine pq (some 7) ?_; (try simp only [PU])
     refine pq (some 8) ?_; (try simp only [PU])
     refine pq (some 9) ?_; (try simp only [PU])
     refine pq (some 10) ?_; (try simp only [PU])
     refine pq (some 11) ?_; (try simp only [PU])
     refine pq (some 12) ?_; (try simp only [PU])
     refine pq (some 13) ?_; (try simp only [PU])
     refine pq (some 14) ?_; (try simp only [PU])
     refine pq (some 15) ?_; (try simp only [PU])
     refine pq (some 16) ?_; (try simp only [PU])
     refine pq (some 17) ?_; (try simp only [PU])
     refine pq (some 18) ?_; (try simp only [PU])
     refine pq (some 19) ?_; (try simp only [PU])
     refine perm_nil ?_
     go_wp2_with fail
     refine wp_region_perm [(0, true), (1, true), (2, true), (3, true), (4, true), (5, true), (6, true), (7, true), (8, true), (9, true)] (fun w' => w'.cell? ⟨r, 0, none⟩ = some (.string T) ∧ w'.cell? ⟨r, 1, none⟩ = some (.int .i64 a)) rfl (by kernel_rfl) (by kernel_rfl) (by decide) (fun c a d v w h => by cases d <;> exact h) ⟨c0, c1⟩ ?_
     refine pq (some 20) ?_; (try simp only [PU])
     refine pq (some 21) ?_; (try simp only [PU])
     refine pq (some 22) ?_; (try simp only [PU])
     refine pq (some 23) ?_; (try simp only [PU])
     refine pq (some 24) ?_; (try simp only [PU])
     refine pq (some 25) ?_; (try simp only [PU])
     refine pq (some 26) ?_; (try simp only [PU])
     refine pq (some 27) ?_; (try simp only [PU])
     refine pq (some 28) ?_; (try simp only [PU])
     refine pq (some 2) ?_; (try simp only [PU])
     refine perm_nil ?_
     go_wp2
     go_ret
     exact ⟨rfl, ((Keeps.refl Nob w).drew).then (Keeps.refl Nob w.drew).drew⟩
set_option maxHeartbeats 1000000 in
theorem failG {w : World} {r : Nat} {T : ByteArray} {s : Bs} (h : Rf w r T (.ok s)) (n : Nat) (hn : n ≤ T.size) (z : Int) (hz : z = (T.size - n : Nat)) : Calls Tryd.prog 50 #[.pointer (some ⟨r, 0, none⟩), .int .i64 z] w (DoneX w r T (.error n)) := by
 subst hz
 obtain ⟨i3, hi3, hs3⟩ := infoS3
 have HI := Lib.hid (And.intro hi3 hs3)
 obtain ⟨a, hb, -, -, hx⟩ := h.good
 have c2 := (blk_cell hb 2).trans rfl
 have Hb := Lib.hid hb
 have Hx := Lib.hid (hx n)
 have Hn := Lib.hid hn
 clear hb hi3 hs3 h hx hn
 generalize T.size - n = m at *
 go_enter Tryd.func50, Tryd.ntmps50
 go_wp2_with ((with_reducible refine at_store (t := 3) rfl ?_); go_must (refine ev_store (cs' := #[.string T, .int .i64 (a : Nat), .int .i64 (m : Nat)]) rfl rfl rfl rfl rfl rfl HI.out.1 HI.out.2 rfl Hb.out (Nat.le_of_ble_eq_true rfl) rfl ?_; intro w1 hb1 hk1); have Hb1 := Lib.hid hb1; have HK1 := Lib.hid hk1; clear hb1 hk1; (try simp only [PU]))
 go_end0
 exact ⟨⟨_, rfl⟩, Hx.out _ Hn.out Hb1.out, HK1.out⟩
set_option maxHeartbeats 1000000 in
theorem failB {w : World} {r : Nat} {T : ByteArray} {n : Nat} (h : Rf w r T (.error n)) (z : Int) : Calls Tryd.prog 50 #[.pointer (some ⟨r, 0, none⟩), .int .i64 z] w (DoneX w r T (.error n)) := by
 have H := Lib.hid h
 obtain ⟨a, hb, -, -, hT⟩ := h
 obtain ⟨m, hm⟩ : ∃ m, T.size - n = m := ⟨_, rfl⟩
 rw [hm] at hb
 have c2 := (blk_cell hb 2).trans rfl
 have hm0 : ¬ (m : Int) < 0 := by omega
 clear hb hm
 go_enter Tryd.func50, Tryd.ntmps50
 go_wp2
 go_end0
 exact ⟨⟨_, rfl⟩, H.out, Keeps.refl _ w⟩
def blanksX : Except Nat Bs → Except Nat Bs
 | .ok s => .ok (blanksB s)
 | .error n => .error n
theorem blank_head (s : Bs) : (headN s = 32 ∨ headN s = 9 ∨ headN s = 10 ∨ headN s = 13) ↔ ∃ c q, s = c :: q ∧ isBlank c = true := by
 cases s with
 | nil => simp [headN]
 | cons c q =>
   have e : ∀ k : UInt8, ((c.toNat : Int) = (k.toNat : Int)) ↔ c = k := fun k => ⟨fun h => UInt8.toNat_inj.1 (by omega), fun h => by rw [h]⟩
   have h1 := e 32
   have h2 := e 9
   have h3 := e 10
   have h4 := e 13
   simp only [headN]
   constructor
   · rintro (h | h | h | h)
     · exact ⟨c, q, rfl, by rw [h1.1 h]; rfl⟩
     · exact ⟨c, q, rfl, by rw [h2.1 h]; rfl⟩
     · exact ⟨c, q, rfl, by rw [h3.1 h]; rfl⟩
     · exact ⟨c, q, rfl, by rw [h4.1 h]; rfl⟩
   · rintro ⟨c', q', h, hb⟩
     injection h with h5 h6
     subst h5
     simp only [isBlank, Bool.or_eq_true, beq_iff_eq] at hb
     rcases hb with ((h | h) | h) | h
     · exact .inl (h1.2 h)
     · exact .inr (.inl (h2.2 h))
     · exact .inr (.inr (.inl (h3.2 h)))
     · exact .inr (.inr (.inr (h4.2 h)))
end Go.Proofs.WV

namespace Go.Proofs.WV
open Go.RowKit Go.Proofs.KL Go.Proofs.WM
set_option maxRecDepth 100000
set_option linter.unusedSimpArgs false
set_option linter.unusedVariables false

set_option maxHeartbeats 2000000 in
theorem blanks48 {w : World} {r : Nat} {T : ByteArray} {x : Except Nat Bs} (h : Rf w r T x) : Calls Tryd.prog 48 #[.pointer (some ⟨r, 0, none⟩)] w (DoneX w r T (blanksX x)) := by
 obtain ⟨i3, hi3, hs3⟩ := infoS3
 have HI := Lib.hid (And.intro hi3 hs3)
 have H := Lib.hid h
 have H82 := Lib.hid (fun W (hk : Keeps Nob w W) => peek82 (h.keep hk id))
 clear hi3 hs3 h
 cases x with
 | error n =>
   simp only [headX] at H82
   go_enter Tryd.func48, Tryd.ntmps48
   go_wp2_with (go_at_call 82; go_must (refine (H82.out _ (Keeps.refl Nob w)).mono ?_; rintro e w1 ⟨rfl, hk1⟩); have HK1 := Lib.hid hk1; clear hk1; (try simp only [PU]))
   go_loopg [2] 0 (fun k cv wr => cv = .int .u8 0 ∧ w1 = wr)
   case atStart => exact ⟨rfl, rfl⟩
   case round =>
    obtain ⟨rfl, hw⟩ := hrel
    subst hw
    go_wp2
    go_end0
    exact ⟨⟨_, rfl⟩, H.out.keep HK1.out id, (Keeps.refl _ w).then HK1.out⟩
 | ok s =>
   simp only [headX] at H82
   go_enter Tryd.func48, Tryd.ntmps48
   go_wp2_with (go_at_call 82; go_must (refine (H82.out _ (Keeps.refl Nob w)).mono ?_; rintro e w1 ⟨rfl, hk1⟩); have HK1 := Lib.hid hk1; clear hk1; (try simp only [PU]))
   clear H82
   go_loopg [2] s.length (fun k cv wr => ∃ s' : Bs, cv = .int .u8 (headN s') ∧ s'.length ≤ k ∧ Hid (Rf wr r T (.ok s')) ∧ Hid (Keeps (· = r) w wr) ∧ Hid (blanksB s' = blanksB s))
   case atStart => exact ⟨s, rfl, Nat.le_refl _, Lib.hid (H.out.keep HK1.out id), Lib.hid ((Keeps.refl _ w).then HK1.out), Lib.hid rfl⟩
   case round =>
    obtain ⟨s', rfl, hl, Hr, HK, HE⟩ := hrel
    by_cases hbl : headN s' = 32 ∨ headN s' = 9 ∨ headN s' = 10 ∨ headN s' = 13
    · obtain ⟨c, q, rfl, hb⟩ := (blank_head s').1 hbl
      obtain ⟨a, ha, ⟨hbk, -⟩, hT, hsum, hn⟩ := Hr.out.cons
      have Hn := Lib.hid hn
      have Hb := Lib.hid hbk
      have HE2 := Lib.hid (show blanksB q = blanksB s by rw [← HE.out]; simp [blanksB, hb])
      have hai : (a : Int) ≤ 1000000 := by omega
      have c1 := (blk_cell hbk 1).trans rfl
      simp only [List.length_cons] at hl
      obtain ⟨hv, hhv⟩ : ∃ y, headN (c :: q) = y := ⟨_, rfl⟩
      rw [hhv] at hbl ⊢
      clear hbk hn hb hhv ha hsum
      rcases hbl with rfl | rfl | rfl | rfl
      all_goals
       go_wp2_with (first
        | ((with_reducible refine at_store (t := 3) rfl ?_); go_must (refine ev_store (cs' := #[.string T, .int .i64 ((a : Int) + 1), .int .i64 (-1)]) rfl rfl rfl rfl rfl rfl HI.out.1 HI.out.2 rfl Hb.out (Nat.le_of_ble_eq_true rfl) rfl ?_; intro w1 hb1 hk1)
           have Hr1 := Lib.hid (Hn.out _ hb1)
           have HK1 := Lib.hid hk1
           clear hb1 hk1 c1
           (try simp only [PU]))
        | (go_at_call 82; go_must (refine (peek82 Hr1.out).mono ?_; rintro e w2 ⟨rfl, hk2⟩)
           have Hr2 := Lib.hid (Hr1.out.keep hk2 id)
           have HK2 := Lib.hid (HK1.out.then hk2)
           clear hk2
           (try simp only [PU]))
       )
       go_roundg q.length
       case measure => omega
       case rel => exact ⟨q, rfl, Nat.le_refl _, Hr2, Lib.hid (HK.out.trans HK2.out (fun _ _ h => h)), HE2⟩
    · have HE2 := Lib.hid (show blanksB s' = s' by
       cases s' with
       | nil => rfl
       | cons c q =>
         have : isBlank c = false := Bool.eq_false_iff.2 (fun e => hbl ((blank_head (c :: q)).2 ⟨c, q, rfl, e⟩))
         simp [blanksB, this])
      obtain ⟨hv, hhv⟩ : ∃ y, headN s' = y := ⟨_, rfl⟩
      rw [hhv] at hbl ⊢
      have h1 : (hv == 32) = false := beq_eq_false_iff_ne.2 (fun e => hbl (.inl e))
      have h2 : (hv == 9) = false := beq_eq_false_iff_ne.2 (fun e => hbl (.inr (.inl e)))
      have h3 : (hv == 10) = false := beq_eq_false_iff_ne.2 (fun e => hbl (.inr (.inr (.inl e))))
      have h4 : (hv == 13) = false := beq_eq_false_iff_ne.2 (fun e => hbl (.inr (.inr (.inr e))))
      clear hbl hhv
      go_wp2
      go_end0
      refine ⟨⟨_, rfl⟩, ?_, HK.out⟩
      show Rf wr r T (.ok (blanksB s))
      rw [← HE.out, HE2.out]
      exact Hr.out
def takeX (V : Bs) : Except Nat Bs → Except Nat Bs
 | .ok s => wordB V s
 | .error n => .error n
set_option maxHeartbeats 2000000 in
theorem take83 {w : World} {r : Nat} {T : ByteArray} {x : Except Nat Bs} (h : Rf w r T x) (V : ByteArray) (hV : 0 < V.size ∧ V.size ≤ 10) : Calls Tryd.prog 83 #[.pointer (some ⟨r, 0, none⟩), .string V] w (DoneX w r T (takeX (bl V) x)) := by
 obtain ⟨i3, hi3, hs3⟩ := infoS3
 have HI := Lib.hid (And.intro hi3 hs3)
 have H := Lib.hid h
 obtain ⟨hV0, hV10⟩ := hV
 cases x with
 | error n =>
   obtain ⟨a, hb, -, -, hT⟩ := h
   obtain ⟨m, hm⟩ : ∃ m, T.size - n = m := ⟨_, rfl⟩
   rw [hm] at hb
   have c2 := (blk_cell hb 2).trans rfl
   have hm0 : ¬ (m : Int) < 0 := by omega
   have hv0 : (0 : Int) < (V.size : Int) := by omega
   clear hb hm hi3 hs3
   go_enter Tryd.func83, Tryd.ntmps83
   go_wp2
   go_loopg [4] 0 (fun k iv wr => iv = .int .i64 0 ∧ w = wr)
   case atStart => exact ⟨rfl, rfl⟩
   case round =>
    obtain ⟨rfl, hw⟩ := hrel
    subst hw
    go_wp2
    go_end0
    exact ⟨⟨_, rfl⟩, H.out, Keeps.refl _ w⟩
 | ok s =>
   obtain ⟨R, hR⟩ : ∃ y, wordB (bl V) s = y := ⟨_, rfl⟩
   simp only [takeX]
   rw [hR]
   have HR := Lib.hid hR
   clear hi3 hs3 h hR
   go_enter Tryd.func83, Tryd.ntmps83
   go_wp2
   go_loopg [4] V.size (fun k iv wr => ∃ (i : Nat) (s' : Bs), iv = .int .i64 i ∧ i + k = V.size ∧ Hid (Rf wr r T (.ok s')) ∧ Hid (Keeps (· = r) w wr) ∧ Hid (wordB ((bl V).drop i) s' = R))
   case atStart => exact ⟨0, s, rfl, by omega, H, Lib.hid (Keeps.refl _ _), HR⟩
   case round =>
    obtain ⟨i, s', rfl, hi, Hr, HK, HE⟩ := hrel
    by_cases hlt : i < V.size
    · have hdr := drop_byte V i hlt
      obtain ⟨c, hc⟩ : ∃ c, V[i] = c := ⟨_, rfl⟩
      have hvi : ((V[i].toNat : Nat) : Int) = (c.toNat : Int) := by rw [hc]
      rw [hc] at hdr
      obtain ⟨cv, hcv⟩ : ∃ x : Int, (c.toNat : Int) = x := ⟨_, rfl⟩
      rw [hcv] at hvi
      have HE2 := Lib.hid (show wordB (c :: (bl V).drop (i + 1)) s' = R by rw [← hdr]; exact HE.out)
      have hii : (i : Int) < (V.size : Int) := by omega
      clear hdr hc
      cases s' with
      | nil =>
        have HR2 := Lib.hid (show R = .error 0 by rw [← HE2.out]; rfl)
        have hT := Hr.out.len
        have Hfail := Lib.hid (fun W (hk : Keeps Nob wr W) => failG (Hr.out.keep hk id) 0 (Nat.zero_le _) (T.size : Nat) rfl)
        have c0 := (blk_cell Hr.out.nil 0).trans rfl
        have c1 := (blk_cell Hr.out.nil 1).trans rfl
        have c2 := (blk_cell Hr.out.nil 2).trans rfl
        go_upto_region 3 with fail
        refine wp_region_perm [(0, true), (1, true), (2, true), (3, true), (4, true), (5, true), (6, true), (7, true), (8, true), (9, true), (10, true), (11, true), (12, true), (13, true), (14, true), (15, true), (16, true), (17, true), (18, true), (19, true), (20, true), (21, true), (22, true), (23, true), (24, true)] (fun w' => w'.cell? ⟨r, 0, none⟩ = some (.string T) ∧ w'.cell? ⟨r, 1, none⟩ = some (.int .i64 T.size)) rfl (by kernel_rfl) (by kernel_rfl) (by decide) (fun c a d v w h => by cases d <;> exact h) ⟨c0, c1⟩ ?_
        refine pq (some 18) ?_; (try simp only [PU])
        refine pq (some 19) ?_; (try simp only [PU])
        refine pq (some 20) ?_; (try simp only [PU])
        refine pq (some 21) ?_; (try simp only [PU])
        refine pq (some 22) ?_; (try simp only [PU])
        refine pq (some 23) ?_; (try simp only [PU])
        refine pq (some 24) ?_; (try simp only [PU])
        refine pq (some 25) ?_; (try simp only [PU])
        refine pq (some 26) ?_; (try simp only [PU])
        refine pq (some 27) ?_; (try simp only [PU])
        refine pq (some 28) ?_; (try simp only [PU])
        refine perm_skip (some 29) rfl rfl rfl ?_; (try simp only [PU])
        refine perm_skip (some 30) rfl rfl rfl ?_; (try simp only [PU])
        refine perm_skip (some 31) rfl rfl rfl ?_; (try simp only [PU])
        refine perm_skip (some 32) rfl rfl rfl ?_; (try simp only [PU])
        refine perm_skip (some 33) rfl rfl rfl ?_; (try simp only [PU])
        refine perm_skip (some 34) rfl rfl rfl ?_; (try simp only [PU])
        refine perm_skip (some 35) rfl rfl rfl ?_; (try simp only [PU])
        refine perm_skip (some 36) rfl rfl rfl ?_; (try simp only [PU])
        refine perm_skip (some 37) rfl rfl rfl ?_; (try simp only [PU])
        refine perm_skip (some 38) rfl rfl rfl ?_; (try simp only [PU])
        refine perm_skip (some 39) rfl rfl rfl ?_; (try simp only [PU])
        refine perm_skip (some 40) rfl rfl rfl ?_; (try simp only [PU])
        refine perm_skip (some 41) rfl rfl rfl ?_; (try simp only [PU])
        refine pq (some 42) ?_; (try simp only [PU])
        refine perm_nil ?_
        go_wp2_with (go_at_call 50; go_must (refine (Hfail.out _ (Keeps.refl Nob wr).drew).mono ?_; rintro e w2 ⟨⟨y, rfl⟩, hr2, hk2⟩); have Hr2 := Lib.hid hr2; have HK2 := Lib.hid hk2; clear hr2 hk2; (try simp only [PU]))
        go_end0
        rw [HR2.out]
        exact ⟨⟨_, rfl⟩, Hr2.out, (HK.out.then (Keeps.refl Nob wr).drew).trans HK2.out (fun _ _ h => h)⟩
      | cons d q =>
        obtain ⟨a, ha, ⟨hb, hd⟩, hT, hsum, hn⟩ := Hr.out.cons
        have c0 := (blk_cell hb 0).trans rfl
        have c1 := (blk_cell hb 1).trans rfl
        have c2 := (blk_cell hb 2).trans rfl
        have hai : (a : Int) < (T.size : Int) := by omega
        have hag : ¬ (T.size : Int) ≤ (a : Int) := by omega
        have Hn := Lib.hid hn
        have Hb := Lib.hid hb
        by_cases hdc : d = c
        · subst hdc
          rw [hcv] at hd
          have HR2 := Lib.hid (show wordB ((bl V).drop (i + 1)) q = R by rw [← HE2.out]; simp [wordB])
          clear hb hn hcv
          go_upto_region 3 with fail
          refine wp_region_perm [(0, true), (1, true), (2, true), (3, true), (4, true), (5, true), (6, true), (7, true), (8, true), (9, true), (10, true), (11, true), (12, true), (13, true), (14, true), (15, true), (16, true), (17, true), (18, true), (19, true), (20, true), (21, true), (22, true), (23, true), (24, true)] (fun w' => w'.cell? ⟨r, 0, none⟩ = some (.string T) ∧ w'.cell? ⟨r, 1, none⟩ = some (.int .i64 a)) rfl (by kernel_rfl) (by kernel_rfl) (by decide) (fun c a d v w h => by cases d <;> exact h) ⟨c0, c1⟩ ?_
          refine pq (some 18) ?_; (try simp only [PU])
          refine pq (some 19) ?_; (try simp only [PU])
          refine pq (some 20) ?_; (try simp only [PU])
          refine pq (some 21) ?_; (try simp only [PU])
          refine pq (some 22) ?_; (try simp only [PU])
          refine pq (some 23) ?_; (try simp only [PU])
          refine pq (some 24) ?_; (try simp only [PU])
          refine pq (some 25) ?_; (try simp only [PU])
          refine pq (some 26) ?_; (try simp only [PU])
          refine pq (some 27) ?_; (try simp only [PU])
          refine pq (some 28) ?_; (try simp only [PU])
          refine pq (some 29) ?_; (try simp only [PU])
          refine pq (some 30) ?_; (try simp only [PU])
          refine pq (some 31) ?_; (try simp only [PU])
          refine pq (some 32) ?_; (try simp only [PU])
          refine pq (some 33) ?_; (try simp only [PU])
          refine pq (some 34) ?_; (try simp only [PU])
          refine pq (some 35) ?_; (try simp only [PU])
          refine pq (some 36) ?_; (try simp only [PU])
          refine pq (some 37) ?_; (try simp only [PU])
          refine pq (some 38) ?_; (try simp only [PU])
          refine pq (some 39) ?_; (try simp only [PU])
          refine pq (some 40) ?_; (try simp only [PU])
          refine pq (some 41) ?_; (try simp only [PU])
          refine pq (some 42) ?_; (try simp only [PU])
          refine perm_nil ?_
          have Hb := Lib.hid ((Keeps.refl Nob wr).drew.blk Hb.out id)
          go_wp2_with (first
           | ((with_reducible refine at_store (t := 3) rfl ?_); go_must (refine ev_store (cs' := #[.string T, .int .i64 ((a : Int) + 1), .int .i64 (-1)]) rfl rfl rfl rfl rfl rfl HI.out.1 HI.out.2 rfl Hb.out (Nat.le_of_ble_eq_true rfl) rfl ?_; intro w1 hb1 hk1)
              have Hr1 := Lib.hid (Hn.out _ hb1)
              have HK1 := Lib.hid hk1
              clear hb1 hk1 c1
              (try simp only [PU]))
          )
          go_roundg (V.size - i - 1)
          case measure => omega
          case rel => exact ⟨i + 1, q, by rfl, by omega, Hr1, Lib.hid ((HK.out.then (Keeps.refl Nob wr).drew).trans HK1.out (fun _ _ h => h)), HR2⟩
        · obtain ⟨dv, hdv⟩ : ∃ x : Int, (d.toNat : Int) = x := ⟨_, rfl⟩
          rw [hdv] at hd
          have hne : (dv != cv) = true := by
           simp only [bne_iff_ne]
           intro e
           exact hdc (UInt8.toNat_inj.1 (by omega))
          have HR2 := Lib.hid (show R = .error (q.length + 1) by rw [← HE2.out]; simp [wordB, hdc])
          have Hfail := Lib.hid (fun W (hk : Keeps Nob wr W) => failG (Hr.out.keep hk id) (q.length + 1) (by omega) (a : Nat) (by omega))
          clear hb hn hcv hdv hdc hsum
          go_upto_region 3 with fail
          refine wp_region_perm [(0, true), (1, true), (2, true), (3, true), (4, true), (5, true), (6, true), (7, true), (8, true), (9, true), (10, true), (11, true), (12, true), (13, true), (14, true), (15, true), (16, true), (17, true), (18, true), (19, true), (20, true), (21, true), (22, true), (23, true), (24, true)] (fun w' => w'.cell? ⟨r, 0, none⟩ = some (.string T) ∧ w'.cell? ⟨r, 1, none⟩ = some (.int .i64 a)) rfl (by kernel_rfl) (by kernel_rfl) (by decide) (fun c a d v w h => by cases d <;> exact h) ⟨c0, c1⟩ ?_
          refine pq (some 18) ?_; (try simp only [PU])
          refine pq (some 19) ?_; (try simp only [PU])
          refine pq (some 20) ?_; (try simp only [PU])
          refine pq (some 21) ?_; (try simp only [PU])
          refine pq (some 22) ?_; (try simp only [PU])
          refine pq (some 23) ?_; (try simp only [PU])
          refine pq (some 24) ?_; (try simp only [PU])
          refine pq (some 25) ?_; (try simp only [PU])
          refine pq (some 26) ?_; (try simp only [PU])
          refine pq (some 27) ?_; (try simp only [PU])
          refine pq (some 28) ?_; (try simp only [PU])
          refine pq (some 29) ?_; (try simp only [PU])
          refine pq (some 30) ?_; (try simp only [PU])
          refine pq (some 31) ?_; (try simp only [PU])
          refine pq (some 32) ?_; (try simp only [PU])
          refine pq (some 33) ?_; (try simp only [PU])
          refine pq (some 34) ?_; (try simp only [PU])
          refine pq (some 35) ?_; (try simp only [PU])
          refine pq (some 36) ?_; (try simp only [PU])
          refine pq (some 37) ?_; (try simp only [PU])
          refine pq (some 38) ?_; (try simp only [PU])
          refine pq (some 39) ?_; (try simp only [PU])
          refine pq (some 40) ?_; (try simp only [PU])
          refine pq (some 41) ?_; (try simp only [PU])
          refine pq (some 42) ?_; (try simp only [PU])
          refine perm_nil ?_
          go_wp2_with (go_at_call 50; go_must (refine (Hfail.out _ (Keeps.refl Nob wr).drew).mono ?_; rintro e w2 ⟨⟨y, rfl⟩, hr2, hk2⟩); have Hr2 := Lib.hid hr2; have HK2 := Lib.hid hk2; clear hr2 hk2; (try simp only [PU]))
          go_end0
          rw [HR2.out]
          exact ⟨⟨_, rfl⟩, Hr2.out, (HK.out.then (Keeps.refl Nob wr).drew).trans HK2.out (fun _ _ h => h)⟩
    · have hi' : i = V.size := by omega
      have hd : (bl V).drop i = [] := List.drop_eq_nil_iff.2 (by rw [bl_len]; omega)
      have HR2 := Lib.hid (show R = .ok s' by rw [← HE.out, hd, wordB_nil])
      subst hi'
      clear hd
      go_wp2
      go_end0
      rw [HR2.out]
      exact ⟨⟨_, rfl⟩, Hr.out, HK.out⟩
end Go.Proofs.WV

namespace Go.Proofs.WV
open Go.RowKit Go.Proofs.KL Go.Proofs.WM
set_option maxRecDepth 100000
set_option linter.unusedSimpArgs false
set_option linter.unusedVariables false

def signed (m : Bool) (n : Nat) : Int := if m then -(n : Int) else (n : Int)
def signR (m : Bool) : R Nat → R Int
 | .ok x => .ok (signed m x.1, x.2)
 | .error e => .error e
theorem intB_is (s : Bs) : intB s = signR (isB 45 s).1 (digitsB (isB 45 s).1 (isB 45 s).2) := by
 cases s with
 | nil => rfl
 | cons c q =>
   by_cases h : c = 45
   · subst h
     rw [isB_at]
     show (match digitsB true q with | .ok (n, r1) => (Except.ok (-(n : Int), r1) : R Int) | .error e => .error e) = signR true (digitsB true q)
     cases digitsB true q <;> rfl
   · rw [isB_ne h]
     unfold intB
     split
     · rename_i heq
       injection heq with h1 h2
       exact absurd h1 h
     · show (match digitsB false (c :: q) with | .ok (n, r1) => (Except.ok ((n : Int), r1) : R Int) | .error e => .error e) = signR false (digitsB false (c :: q))
       cases digitsB false (c :: q) <;> rfl
theorem dig_int (c : UInt8) (h : isDigit c = true) : 48 ≤ (c.toNat : Int) ∧ (c.toNat : Int) ≤ 57 ∧ (c.toNat : Int) - 48 = (digB c : Int) := by
 unfold isDigit at h
 simp only [Bool.and_eq_true, decide_eq_true_eq, UInt8.le_iff_toNat_le] at h
 have h1 : (48 : UInt8).toNat = 48 := rfl
 have h2 : (57 : UInt8).toNat = 57 := rfl
 rw [h1, h2] at h
 unfold digB
 omega
theorem numB_stop (m f : Bool) (n : Nat) (s : Bs) (h : startsDigit s = false) : numB m f n s = .ok (n, s) := by
 cases s with
 | nil => rfl
 | cons c q => unfold startsDigit at h; unfold numB; simp [h]
theorem numB_step (m f : Bool) (n : Nat) (c : UInt8) (q : Bs) (h : isDigit c = true) : numB m f n (c :: q) = if (f = false ∧ n = 0) ∨ (m = true ∧ f = true ∧ c = 48) ∨ 9007199254740991 < n * 10 + digB c then .error (q.length + 1) else numB m false (n * 10 + digB c) q := by
 rw [numB, if_pos h]
set_option maxHeartbeats 4000000 in
theorem int77 {w : World} {r : Nat} {T : ByteArray} {s : Bs} (h : Rd w r T s) : Calls Tryd.prog 77 #[.pointer (some ⟨r, 0, none⟩)] w (EndR w r T (Value.int .i64) (intB s)) := by
 obtain ⟨i3, hi3, hs3⟩ := infoS3
 have HI := Lib.hid (And.intro hi3 hs3)
 rw [intB_is]
 have H101 := Lib.hid (is101 h 45 45 rfl)
 rcases hx : isB 45 s with ⟨m, s1⟩
 rw [hx] at H101
 unfold IsOut at H101
 simp only at H101 ⊢
 obtain ⟨R0, hR0⟩ : ∃ x, numB m true 0 s1 = x := ⟨_, rfl⟩
 obtain ⟨RR, hRR⟩ : ∃ x, signR m (digitsB m s1) = x := ⟨_, rfl⟩
 rw [hRR]
 unfold digitsB at hRR
 rw [hR0] at hRR
 have HR0 := Lib.hid hR0
 have HRR0 := Lib.hid hRR
 have Hdig := Lib.hid (fun W (h : Rd W r T s1) => digit76 h)
 clear hi3 hs3 h hx hR0 hRR
 rcases hdg : startsDigit s1 with _ | _
 · rw [hdg] at HRR0 Hdig
   have HR2 := Lib.hid (show RR = .error s1.length from HRR0.out.symm)
   clear hdg
   go_enter Tryd.func77, Tryd.ntmps77
   go_wp2_with (first
    | (go_at_call 101; go_must (refine H101.out.mono ?_; rintro e w1 ⟨rfl, hr1, hk1⟩)
       have HKs := Lib.hid hk1
       have Hr1 := Lib.hid hr1
       have Hle := Lib.hid hr1.le
       clear hk1 hr1
       (try simp only [PU]))
    | (go_at_call 76; go_must (refine (Hdig.out w1 Hr1.out).mono ?_; rintro e w2 ⟨rfl, hk1⟩); have HK1 := Lib.hid hk1
       have q1 := (blk_cell (hk1.blk Hr1.out.blk id) 1).trans rfl
       clear hk1; (try simp only [PU]))
    | (go_at_call 47; go_must (refine (fail47 (Hr1.out.keep HK1.out id) s1.length Hle.out).mono ?_; rintro e w3 ⟨rfl, rfl⟩); unfold stopAt; (try simp only [PU]))
   )
   refine ⟨rfl, ?_⟩
   rw [HR2.out]
   exact ⟨rfl, HKs.out.then HK1.out⟩
 · rw [hdg] at HRR0 Hdig
   have HRR := Lib.hid (show RR = signR m R0 from HRR0.out.symm)
   clear hdg HRR0
   cases m
   · go_enter Tryd.func77, Tryd.ntmps77
     go_wp2_with (first
      | (go_at_call 101; go_must (refine H101.out.mono ?_; rintro e w1 ⟨rfl, hr1, hk1⟩)
         have HKs0 := Lib.hid hk1
         have Hr1 := Lib.hid hr1
         clear hk1 hr1
         (try simp only [PU]))
      | (go_at_call 76; go_must (refine (Hdig.out w1 Hr1.out).mono ?_; rintro e w2 ⟨rfl, hk1⟩)
         have HKs := Lib.hid (HKs0.out.then hk1)
         have HR1 := Lib.hid (Hr1.out.keep hk1 id)
         clear hk1; (try simp only [PU]))
     )
     go_loopg [4, 5] s1.length (fun k nv fv wr => ∃ (n : Nat) (f : Bool) (s' : Bs), nv = .int .i64 n ∧ fv = .bool f ∧ s'.length ≤ k ∧ n ≤ 9007199254740991 ∧ Hid (Rd wr r T s') ∧ Hid (Keeps (· = r) w wr) ∧ Hid (numB false f n s' = R0))
     case atStart => exact ⟨0, true, s1, rfl, rfl, Nat.le_refl _, by omega, HR1, HKs, HR0⟩
     case round =>
      obtain ⟨n, f, s', rfl, rfl, hl, hnb, Hr, HK, HE⟩ := hrel
      have H76 := Lib.hid (fun W (hk : Keeps Nob wr W) => digit76 (Hr.out.keep hk id))
      have HK1 := Lib.hid (Keeps.refl Nob wr)
      rcases hdg : startsDigit s' with _ | _
      · have hst := numB_stop false f n s' hdg
        rw [hdg] at H76
        have HR2 := Lib.hid (show R0 = .ok (n, s') by rw [← HE.out, hst])
        have HK1 := Lib.hid (Keeps.refl Nob wr)
        clear hst hdg
        have Hb := Lib.hid Hr.out.blk
        have q1 := (blk_cell Hr.out.blk 1).trans rfl
        have H73 := Lib.hid True.intro
        have Hfail := Lib.hid True.intro
        go_wp2_with (first
         | (go_at_call 76; go_must (refine (H76.out _ HK1.out).mono ?_; rintro e w2 ⟨rfl, hk1⟩); have HK1 := Lib.hid (HK1.out.trans hk1 (fun _ _ h => h)); clear hk1 q1; have q1 := (blk_cell (HK1.out.blk Hb.out id) 1).trans rfl; (try simp only [PU]))
        )
        go_ret
        rw [HRR.out, HR2.out]
        exact ⟨rfl, Hr.out.keep HK1.out id, HK.out.then HK1.out⟩
      · rw [hdg] at H76
        cases s' with
        | nil => cases hdg
        | cons c q =>
          have hdc : isDigit c = true := hdg
          obtain ⟨hd0, hd1, hd2⟩ := dig_int c hdc
          have H73 := Lib.hid (fun W (hk : Keeps Nob wr W) => next73 (Hr.out.keep hk id))
          have Hfail := Lib.hid (fun W (hk : Keeps Nob wr W) => fail47 (Hr.out.keep hk id) (q.length + 1) Hr.out.le)
          have hstep := numB_step false f n c q hdc
          have HS := Lib.hid (show (if (f = false ∧ n = 0) ∨ (false = true ∧ f = true ∧ c = 48) ∨ 9007199254740991 < n * 10 + digB c then .error (q.length + 1) else numB false false (n * 10 + digB c) q) = R0 by rw [← hstep]; exact HE.out)
          obtain ⟨a, ha, ⟨hb, -⟩, hT, hal, hn⟩ := Hr.out.cons
          have hat : T.size - (q.length + 1) = a := by omega
          rw [hat] at Hfail
          have Hn := Lib.hid hn
          have Hb := Lib.hid hb
          have q1 := (blk_cell hb 1).trans rfl
          have h48 : c = 48 ↔ (c.toNat : Int) = 48 := ⟨fun h => by rw [h]; rfl, fun h => UInt8.toNat_inj.1 (by show c.toNat = 48; omega)⟩
          have H48 := Lib.hid h48
          obtain ⟨cv, hcv⟩ : ∃ x : Int, (c.toNat : Int) = x := ⟨_, rfl⟩
          rw [hcv] at hd0 hd1 hd2 H48
          have hhd : headN (c :: q) = cv := hcv
          rw [hhd] at H73
          have Hd := Lib.hid (show ((n * 10 + digB c : Nat) : Int) = (n : Int) * 10 + (cv - 48) by rw [hd2]; rfl)
          simp only [List.length_cons] at hl
          clear hdg hdc hstep hn hb h48 hcv hhd hd2 hal hat
          cases f
          · by_cases h0 : n = 0
            · subst h0
              have HR2 := Lib.hid (show R0 = .error (q.length + 1) by rw [← HS.out, if_pos (.inl ⟨rfl, rfl⟩)])
              go_wp2_with (first
               | (go_at_call 76; go_must (refine (H76.out _ HK1.out).mono ?_; rintro e w2 ⟨rfl, hk1⟩); have HK1 := Lib.hid (HK1.out.trans hk1 (fun _ _ h => h)); clear hk1 q1; have q1 := (blk_cell (HK1.out.blk Hb.out id) 1).trans rfl; (try simp only [PU]))
               | (go_at_call 73; go_must (refine (H73.out _ HK1.out).mono ?_; rintro e w2 ⟨rfl, hk1⟩); have HK1 := Lib.hid (HK1.out.trans hk1 (fun _ _ h => h)); clear hk1 q1; have q1 := (blk_cell (HK1.out.blk Hb.out id) 1).trans rfl; (try simp only [PU]))
               | (go_at_call 47; go_must (refine (Hfail.out _ HK1.out).mono ?_; rintro e w3 ⟨rfl, rfl⟩); unfold stopAt; (try simp only [PU]))
               | ((with_reducible refine at_store (t := 3) rfl ?_); go_must (refine ev_store (cs' := #[.string T, .int .i64 ((a : Int) + 1)]) rfl rfl rfl rfl rfl rfl HI.out.1 HI.out.2 rfl (HK1.out.blk Hb.out id) (Nat.le_of_ble_eq_true rfl) rfl ?_; intro w4 hb2 hk2); have Hb2 := Lib.hid hb2; have HK2 := Lib.hid hk2; clear hb2 hk2; (try simp only [PU]))
              )
              refine ⟨rfl, ?_⟩
              rw [HRR.out, HR2.out]
              exact ⟨rfl, HK.out.then HK1.out⟩
            · have n0 : ((n : Int) == 0) = false := by simpa using h0
              by_cases hmx : 9007199254740991 < (n : Int) * 10 + (cv - 48)
              · have HR2 := Lib.hid (show R0 = .error (q.length + 1) by rw [← HS.out, if_pos (.inr (.inr (by have := Hd.out; omega)))])
                go_wp2_with (first
                 | (go_at_call 76; go_must (refine (H76.out _ HK1.out).mono ?_; rintro e w2 ⟨rfl, hk1⟩); have HK1 := Lib.hid (HK1.out.trans hk1 (fun _ _ h => h)); clear hk1 q1; have q1 := (blk_cell (HK1.out.blk Hb.out id) 1).trans rfl; (try simp only [PU]))
                 | (go_at_call 73; go_must (refine (H73.out _ HK1.out).mono ?_; rintro e w2 ⟨rfl, hk1⟩); have HK1 := Lib.hid (HK1.out.trans hk1 (fun _ _ h => h)); clear hk1 q1; have q1 := (blk_cell (HK1.out.blk Hb.out id) 1).trans rfl; (try simp only [PU]))
                 | (go_at_call 47; go_must (refine (Hfail.out _ HK1.out).mono ?_; rintro e w3 ⟨rfl, rfl⟩); unfold stopAt; (try simp only [PU]))
                 | ((with_reducible refine at_store (t := 3) rfl ?_); go_must (refine ev_store (cs' := #[.string T, .int .i64 ((a : Int) + 1)]) rfl rfl rfl rfl rfl rfl HI.out.1 HI.out.2 rfl (HK1.out.blk Hb.out id) (Nat.le_of_ble_eq_true rfl) rfl ?_; intro w4 hb2 hk2); have Hb2 := Lib.hid hb2; have HK2 := Lib.hid hk2; clear hb2 hk2; (try simp only [PU]))
                )
                refine ⟨rfl, ?_⟩
                rw [HRR.out, HR2.out]
                exact ⟨rfl, HK.out.then HK1.out⟩
              · have HR2 := Lib.hid (show numB false false (n * 10 + digB c) q = R0 by rw [← HS.out, if_neg (by have := Hd.out; simp; omega)])
                go_wp2_with (first
                 | (go_at_call 76; go_must (refine (H76.out _ HK1.out).mono ?_; rintro e w2 ⟨rfl, hk1⟩); have HK1 := Lib.hid (HK1.out.trans hk1 (fun _ _ h => h)); clear hk1 q1; have q1 := (blk_cell (HK1.out.blk Hb.out id) 1).trans rfl; (try simp only [PU]))
                 | (go_at_call 73; go_must (refine (H73.out _ HK1.out).mono ?_; rintro e w2 ⟨rfl, hk1⟩); have HK1 := Lib.hid (HK1.out.trans hk1 (fun _ _ h => h)); clear hk1 q1; have q1 := (blk_cell (HK1.out.blk Hb.out id) 1).trans rfl; (try simp only [PU]))
                 | (go_at_call 47; go_must (refine (Hfail.out _ HK1.out).mono ?_; rintro e w3 ⟨rfl, rfl⟩); unfold stopAt; (try simp only [PU]))
                 | ((with_reducible refine at_store (t := 3) rfl ?_); go_must (refine ev_store (cs' := #[.string T, .int .i64 ((a : Int) + 1)]) rfl rfl rfl rfl rfl rfl HI.out.1 HI.out.2 rfl (HK1.out.blk Hb.out id) (Nat.le_of_ble_eq_true rfl) rfl ?_; intro w4 hb2 hk2); have Hb2 := Lib.hid hb2; have HK2 := Lib.hid hk2; clear hb2 hk2; (try simp only [PU]))
                )
                go_roundg q.length
                case measure => omega
                case rel => exact ⟨n * 10 + digB c, false, q, by rw [Hd.out], rfl, Nat.le_refl _, by have := Hd.out; omega, Lib.hid (Hn.out w4 Hb2.out), Lib.hid ((HK.out.then HK1.out).trans HK2.out (fun _ _ h => h)), HR2⟩
          · skip
            by_cases hmx : 9007199254740991 < (n : Int) * 10 + (cv - 48)
            · have HR2 := Lib.hid (show R0 = .error (q.length + 1) by rw [← HS.out, if_pos (.inr (.inr (by have := Hd.out; omega)))])
              go_wp2_with (first
               | (go_at_call 76; go_must (refine (H76.out _ HK1.out).mono ?_; rintro e w2 ⟨rfl, hk1⟩); have HK1 := Lib.hid (HK1.out.trans hk1 (fun _ _ h => h)); clear hk1 q1; have q1 := (blk_cell (HK1.out.blk Hb.out id) 1).trans rfl; (try simp only [PU]))
               | (go_at_call 73; go_must (refine (H73.out _ HK1.out).mono ?_; rintro e w2 ⟨rfl, hk1⟩); have HK1 := Lib.hid (HK1.out.trans hk1 (fun _ _ h => h)); clear hk1 q1; have q1 := (blk_cell (HK1.out.blk Hb.out id) 1).trans rfl; (try simp only [PU]))
               | (go_at_call 47; go_must (refine (Hfail.out _ HK1.out).mono ?_; rintro e w3 ⟨rfl, rfl⟩); unfold stopAt; (try simp only [PU]))
               | ((with_reducible refine at_store (t := 3) rfl ?_); go_must (refine ev_store (cs' := #[.string T, .int .i64 ((a : Int) + 1)]) rfl rfl rfl rfl rfl rfl HI.out.1 HI.out.2 rfl (HK1.out.blk Hb.out id) (Nat.le_of_ble_eq_true rfl) rfl ?_; intro w4 hb2 hk2); have Hb2 := Lib.hid hb2; have HK2 := Lib.hid hk2; clear hb2 hk2; (try simp only [PU]))
              )
              refine ⟨rfl, ?_⟩
              rw [HRR.out, HR2.out]
              exact ⟨rfl, HK.out.then HK1.out⟩
            · have HR2 := Lib.hid (show numB false false (n * 10 + digB c) q = R0 by rw [← HS.out, if_neg (by have := Hd.out; simp; omega)])
              go_wp2_with (first
               | (go_at_call 76; go_must (refine (H76.out _ HK1.out).mono ?_; rintro e w2 ⟨rfl, hk1⟩); have HK1 := Lib.hid (HK1.out.trans hk1 (fun _ _ h => h)); clear hk1 q1; have q1 := (blk_cell (HK1.out.blk Hb.out id) 1).trans rfl; (try simp only [PU]))
               | (go_at_call 73; go_must (refine (H73.out _ HK1.out).mono ?_; rintro e w2 ⟨rfl, hk1⟩); have HK1 := Lib.hid (HK1.out.trans hk1 (fun _ _ h => h)); clear hk1 q1; have q1 := (blk_cell (HK1.out.blk Hb.out id) 1).trans rfl; (try simp only [PU]))
               | (go_at_call 47; go_must (refine (Hfail.out _ HK1.out).mono ?_; rintro e w3 ⟨rfl, rfl⟩); unfold stopAt; (try simp only [PU]))
               | ((with_reducible refine at_store (t := 3) rfl ?_); go_must (refine ev_store (cs' := #[.string T, .int .i64 ((a : Int) + 1)]) rfl rfl rfl rfl rfl rfl HI.out.1 HI.out.2 rfl (HK1.out.blk Hb.out id) (Nat.le_of_ble_eq_true rfl) rfl ?_; intro w4 hb2 hk2); have Hb2 := Lib.hid hb2; have HK2 := Lib.hid hk2; clear hb2 hk2; (try simp only [PU]))
              )
              go_roundg q.length
              case measure => omega
              case rel => exact ⟨n * 10 + digB c, false, q, by rw [Hd.out], rfl, Nat.le_refl _, by have := Hd.out; omega, Lib.hid (Hn.out w4 Hb2.out), Lib.hid ((HK.out.then HK1.out).trans HK2.out (fun _ _ h => h)), HR2⟩
   · go_enter Tryd.func77, Tryd.ntmps77
     go_wp2_with (first
      | (go_at_call 101; go_must (refine H101.out.mono ?_; rintro e w1 ⟨rfl, hr1, hk1⟩)
         have HKs0 := Lib.hid hk1
         have Hr1 := Lib.hid hr1
         clear hk1 hr1
         (try simp only [PU]))
      | (go_at_call 76; go_must (refine (Hdig.out w1 Hr1.out).mono ?_; rintro e w2 ⟨rfl, hk1⟩)
         have HKs := Lib.hid (HKs0.out.then hk1)
         have HR1 := Lib.hid (Hr1.out.keep hk1 id)
         clear hk1; (try simp only [PU]))
     )
     go_loopg [4, 5] s1.length (fun k nv fv wr => ∃ (n : Nat) (f : Bool) (s' : Bs), nv = .int .i64 n ∧ fv = .bool f ∧ s'.length ≤ k ∧ n ≤ 9007199254740991 ∧ Hid (Rd wr r T s') ∧ Hid (Keeps (· = r) w wr) ∧ Hid (numB true f n s' = R0))
     case atStart => exact ⟨0, true, s1, rfl, rfl, Nat.le_refl _, by omega, HR1, HKs, HR0⟩
     case round =>
      obtain ⟨n, f, s', rfl, rfl, hl, hnb, Hr, HK, HE⟩ := hrel
      have H76 := Lib.hid (fun W (hk : Keeps Nob wr W) => digit76 (Hr.out.keep hk id))
      have HK1 := Lib.hid (Keeps.refl Nob wr)
      rcases hdg : startsDigit s' with _ | _
      · have hst := numB_stop true f n s' hdg
        rw [hdg] at H76
        have HR2 := Lib.hid (show R0 = .ok (n, s') by rw [← HE.out, hst])
        have HK1 := Lib.hid (Keeps.refl Nob wr)
        clear hst hdg
        have Hb := Lib.hid Hr.out.blk
        have q1 := (blk_cell Hr.out.blk 1).trans rfl
        have H73 := Lib.hid True.intro
        have Hfail := Lib.hid True.intro
        go_wp2_with (first
         | (go_at_call 76; go_must (refine (H76.out _ HK1.out).mono ?_; rintro e w2 ⟨rfl, hk1⟩); have HK1 := Lib.hid (HK1.out.trans hk1 (fun _ _ h => h)); clear hk1 q1; have q1 := (blk_cell (HK1.out.blk Hb.out id) 1).trans rfl; (try simp only [PU]))
        )
        go_ret
        rw [HRR.out, HR2.out]
        exact ⟨rfl, Hr.out.keep HK1.out id, HK.out.then HK1.out⟩
      · rw [hdg] at H76
        cases s' with
        | nil => cases hdg
        | cons c q =>
          have hdc : isDigit c = true := hdg
          obtain ⟨hd0, hd1, hd2⟩ := dig_int c hdc
          have H73 := Lib.hid (fun W (hk : Keeps Nob wr W) => next73 (Hr.out.keep hk id))
          have Hfail := Lib.hid (fun W (hk : Keeps Nob wr W) => fail47 (Hr.out.keep hk id) (q.length + 1) Hr.out.le)
          have hstep := numB_step true f n c q hdc
          have HS := Lib.hid (show (if (f = false ∧ n = 0) ∨ (true = true ∧ f = true ∧ c = 48) ∨ 9007199254740991 < n * 10 + digB c then .error (q.length + 1) else numB true false (n * 10 + digB c) q) = R0 by rw [← hstep]; exact HE.out)
          obtain ⟨a, ha, ⟨hb, -⟩, hT, hal, hn⟩ := Hr.out.cons
          have hat : T.size - (q.length + 1) = a := by omega
          rw [hat] at Hfail
          have Hn := Lib.hid hn
          have Hb := Lib.hid hb
          have q1 := (blk_cell hb 1).trans rfl
          have h48 : c = 48 ↔ (c.toNat : Int) = 48 := ⟨fun h => by rw [h]; rfl, fun h => UInt8.toNat_inj.1 (by show c.toNat = 48; omega)⟩
          have H48 := Lib.hid h48
          obtain ⟨cv, hcv⟩ : ∃ x : Int, (c.toNat : Int) = x := ⟨_, rfl⟩
          rw [hcv] at hd0 hd1 hd2 H48
          have hhd : headN (c :: q) = cv := hcv
          rw [hhd] at H73
          have Hd := Lib.hid (show ((n * 10 + digB c : Nat) : Int) = (n : Int) * 10 + (cv - 48) by rw [hd2]; rfl)
          simp only [List.length_cons] at hl
          clear hdg hdc hstep hn hb h48 hcv hhd hd2 hal hat
          cases f
          · by_cases h0 : n = 0
            · subst h0
              have HR2 := Lib.hid (show R0 = .error (q.length + 1) by rw [← HS.out, if_pos (.inl ⟨rfl, rfl⟩)])
              go_wp2_with (first
               | (go_at_call 76; go_must (refine (H76.out _ HK1.out).mono ?_; rintro e w2 ⟨rfl, hk1⟩); have HK1 := Lib.hid (HK1.out.trans hk1 (fun _ _ h => h)); clear hk1 q1; have q1 := (blk_cell (HK1.out.blk Hb.out id) 1).trans rfl; (try simp only [PU]))
               | (go_at_call 73; go_must (refine (H73.out _ HK1.out).mono ?_; rintro e w2 ⟨rfl, hk1⟩); have HK1 := Lib.hid (HK1.out.trans hk1 (fun _ _ h => h)); clear hk1 q1; have q1 := (blk_cell (HK1.out.blk Hb.out id) 1).trans rfl; (try simp only [PU]))
               | (go_at_call 47; go_must (refine (Hfail.out _ HK1.out).mono ?_; rintro e w3 ⟨rfl, rfl⟩); unfold stopAt; (try simp only [PU]))
               | ((with_reducible refine at_store (t := 3) rfl ?_); go_must (refine ev_store (cs' := #[.string T, .int .i64 ((a : Int) + 1)]) rfl rfl rfl rfl rfl rfl HI.out.1 HI.out.2 rfl (HK1.out.blk Hb.out id) (Nat.le_of_ble_eq_true rfl) rfl ?_; intro w4 hb2 hk2); have Hb2 := Lib.hid hb2; have HK2 := Lib.hid hk2; clear hb2 hk2; (try simp only [PU]))
              )
              refine ⟨rfl, ?_⟩
              rw [HRR.out, HR2.out]
              exact ⟨rfl, HK.out.then HK1.out⟩
            · have n0 : ((n : Int) == 0) = false := by simpa using h0
              by_cases hmx : 9007199254740991 < (n : Int) * 10 + (cv - 48)
              · have HR2 := Lib.hid (show R0 = .error (q.length + 1) by rw [← HS.out, if_pos (.inr (.inr (by have := Hd.out; omega)))])
                go_wp2_with (first
                 | (go_at_call 76; go_must (refine (H76.out _ HK1.out).mono ?_; rintro e w2 ⟨rfl, hk1⟩); have HK1 := Lib.hid (HK1.out.trans hk1 (fun _ _ h => h)); clear hk1 q1; have q1 := (blk_cell (HK1.out.blk Hb.out id) 1).trans rfl; (try simp only [PU]))
                 | (go_at_call 73; go_must (refine (H73.out _ HK1.out).mono ?_; rintro e w2 ⟨rfl, hk1⟩); have HK1 := Lib.hid (HK1.out.trans hk1 (fun _ _ h => h)); clear hk1 q1; have q1 := (blk_cell (HK1.out.blk Hb.out id) 1).trans rfl; (try simp only [PU]))
                 | (go_at_call 47; go_must (refine (Hfail.out _ HK1.out).mono ?_; rintro e w3 ⟨rfl, rfl⟩); unfold stopAt; (try simp only [PU]))
                 | ((with_reducible refine at_store (t := 3) rfl ?_); go_must (refine ev_store (cs' := #[.string T, .int .i64 ((a : Int) + 1)]) rfl rfl rfl rfl rfl rfl HI.out.1 HI.out.2 rfl (HK1.out.blk Hb.out id) (Nat.le_of_ble_eq_true rfl) rfl ?_; intro w4 hb2 hk2); have Hb2 := Lib.hid hb2; have HK2 := Lib.hid hk2; clear hb2 hk2; (try simp only [PU]))
                )
                refine ⟨rfl, ?_⟩
                rw [HRR.out, HR2.out]
                exact ⟨rfl, HK.out.then HK1.out⟩
              · have HR2 := Lib.hid (show numB true false (n * 10 + digB c) q = R0 by rw [← HS.out, if_neg (by have := Hd.out; simp; omega)])
                go_wp2_with (first
                 | (go_at_call 76; go_must (refine (H76.out _ HK1.out).mono ?_; rintro e w2 ⟨rfl, hk1⟩); have HK1 := Lib.hid (HK1.out.trans hk1 (fun _ _ h => h)); clear hk1 q1; have q1 := (blk_cell (HK1.out.blk Hb.out id) 1).trans rfl; (try simp only [PU]))
                 | (go_at_call 73; go_must (refine (H73.out _ HK1.out).mono ?_; rintro e w2 ⟨rfl, hk1⟩); have HK1 := Lib.hid (HK1.out.trans hk1 (fun _ _ h => h)); clear hk1 q1; have q1 := (blk_cell (HK1.out.blk Hb.out id) 1).trans rfl; (try simp only [PU]))
                 | (go_at_call 47; go_must (refine (Hfail.out _ HK1.out).mono ?_; rintro e w3 ⟨rfl, rfl⟩); unfold stopAt; (try simp only [PU]))
                 | ((with_reducible refine at_store (t := 3) rfl ?_); go_must (refine ev_store (cs' := #[.string T, .int .i64 ((a : Int) + 1)]) rfl rfl rfl rfl rfl rfl HI.out.1 HI.out.2 rfl (HK1.out.blk Hb.out id) (Nat.le_of_ble_eq_true rfl) rfl ?_; intro w4 hb2 hk2); have Hb2 := Lib.hid hb2; have HK2 := Lib.hid hk2; clear hb2 hk2; (try simp only [PU]))
                )
                go_roundg q.length
                case measure => omega
                case rel => exact ⟨n * 10 + digB c, false, q, by rw [Hd.out], rfl, Nat.le_refl _, by have := Hd.out; omega, Lib.hid (Hn.out w4 Hb2.out), Lib.hid ((HK.out.then HK1.out).trans HK2.out (fun _ _ h => h)), HR2⟩
          · skip
            by_cases hz : cv = 48
            · have HR2 := Lib.hid (show R0 = .error (q.length + 1) by rw [← HS.out, if_pos (.inr (.inl ⟨rfl, rfl, H48.out.2 hz⟩))])
              subst hz
              go_wp2_with (first
               | (go_at_call 76; go_must (refine (H76.out _ HK1.out).mono ?_; rintro e w2 ⟨rfl, hk1⟩); have HK1 := Lib.hid (HK1.out.trans hk1 (fun _ _ h => h)); clear hk1 q1; have q1 := (blk_cell (HK1.out.blk Hb.out id) 1).trans rfl; (try simp only [PU]))
               | (go_at_call 73; go_must (refine (H73.out _ HK1.out).mono ?_; rintro e w2 ⟨rfl, hk1⟩); have HK1 := Lib.hid (HK1.out.trans hk1 (fun _ _ h => h)); clear hk1 q1; have q1 := (blk_cell (HK1.out.blk Hb.out id) 1).trans rfl; (try simp only [PU]))
               | (go_at_call 47; go_must (refine (Hfail.out _ HK1.out).mono ?_; rintro e w3 ⟨rfl, rfl⟩); unfold stopAt; (try simp only [PU]))
               | ((with_reducible refine at_store (t := 3) rfl ?_); go_must (refine ev_store (cs' := #[.string T, .int .i64 ((a : Int) + 1)]) rfl rfl rfl rfl rfl rfl HI.out.1 HI.out.2 rfl (HK1.out.blk Hb.out id) (Nat.le_of_ble_eq_true rfl) rfl ?_; intro w4 hb2 hk2); have Hb2 := Lib.hid hb2; have HK2 := Lib.hid hk2; clear hb2 hk2; (try simp only [PU]))
              )
              refine ⟨rfl, ?_⟩
              rw [HRR.out, HR2.out]
              exact ⟨rfl, HK.out.then HK1.out⟩
            · have Hz := Lib.hid (fun h => hz (H48.out.1 h))
              have hzb : (cv == 48) = false := by simpa using hz
              clear hz
              by_cases hmx : 9007199254740991 < (n : Int) * 10 + (cv - 48)
              · have HR2 := Lib.hid (show R0 = .error (q.length + 1) by rw [← HS.out, if_pos (.inr (.inr (by have := Hd.out; omega)))])
                go_wp2_with (first
                 | (go_at_call 76; go_must (refine (H76.out _ HK1.out).mono ?_; rintro e w2 ⟨rfl, hk1⟩); have HK1 := Lib.hid (HK1.out.trans hk1 (fun _ _ h => h)); clear hk1 q1; have q1 := (blk_cell (HK1.out.blk Hb.out id) 1).trans rfl; (try simp only [PU]))
                 | (go_at_call 73; go_must (refine (H73.out _ HK1.out).mono ?_; rintro e w2 ⟨rfl, hk1⟩); have HK1 := Lib.hid (HK1.out.trans hk1 (fun _ _ h => h)); clear hk1 q1; have q1 := (blk_cell (HK1.out.blk Hb.out id) 1).trans rfl; (try simp only [PU]))
                 | (go_at_call 47; go_must (refine (Hfail.out _ HK1.out).mono ?_; rintro e w3 ⟨rfl, rfl⟩); unfold stopAt; (try simp only [PU]))
                 | ((with_reducible refine at_store (t := 3) rfl ?_); go_must (refine ev_store (cs' := #[.string T, .int .i64 ((a : Int) + 1)]) rfl rfl rfl rfl rfl rfl HI.out.1 HI.out.2 rfl (HK1.out.blk Hb.out id) (Nat.le_of_ble_eq_true rfl) rfl ?_; intro w4 hb2 hk2); have Hb2 := Lib.hid hb2; have HK2 := Lib.hid hk2; clear hb2 hk2; (try simp only [PU]))
                )
                refine ⟨rfl, ?_⟩
                rw [HRR.out, HR2.out]
                exact ⟨rfl, HK.out.then HK1.out⟩
              · have HR2 := Lib.hid (show numB true false (n * 10 + digB c) q = R0 by rw [← HS.out, if_neg (fun h => h.elim (fun h => absurd h.1 (by decide)) (fun h => h.elim (fun h => Hz.out h.2.2) (fun h => by have := Hd.out; omega)))])
                go_wp2_with (first
                 | (go_at_call 76; go_must (refine (H76.out _ HK1.out).mono ?_; rintro e w2 ⟨rfl, hk1⟩); have HK1 := Lib.hid (HK1.out.trans hk1 (fun _ _ h => h)); clear hk1 q1; have q1 := (blk_cell (HK1.out.blk Hb.out id) 1).trans rfl; (try simp only [PU]))
                 | (go_at_call 73; go_must (refine (H73.out _ HK1.out).mono ?_; rintro e w2 ⟨rfl, hk1⟩); have HK1 := Lib.hid (HK1.out.trans hk1 (fun _ _ h => h)); clear hk1 q1; have q1 := (blk_cell (HK1.out.blk Hb.out id) 1).trans rfl; (try simp only [PU]))
                 | (go_at_call 47; go_must (refine (Hfail.out _ HK1.out).mono ?_; rintro e w3 ⟨rfl, rfl⟩); unfold stopAt; (try simp only [PU]))
                 | ((with_reducible refine at_store (t := 3) rfl ?_); go_must (refine ev_store (cs' := #[.string T, .int .i64 ((a : Int) + 1)]) rfl rfl rfl rfl rfl rfl HI.out.1 HI.out.2 rfl (HK1.out.blk Hb.out id) (Nat.le_of_ble_eq_true rfl) rfl ?_; intro w4 hb2 hk2); have Hb2 := Lib.hid hb2; have HK2 := Lib.hid hk2; clear hb2 hk2; (try simp only [PU]))
                )
                go_roundg q.length
                case measure => omega
                case rel => exact ⟨n * 10 + digB c, false, q, by rw [Hd.out], rfl, Nat.le_refl _, by have := Hd.out; omega, Lib.hid (Hn.out w4 Hb2.out), Lib.hid ((HK.out.then HK1.out).trans HK2.out (fun _ _ h => h)), HR2⟩
end Go.Proofs.WV

namespace Go.Proofs.WV
open Go.RowKit Go.Proofs.KL Go.Proofs.WM
set_option maxRecDepth 100000
set_option linter.unusedSimpArgs false
set_option linter.unusedVariables false

def shortT : Bs := [34, 92, 47, 98, 102, 110, 114, 116]
def meantT : Bs := [34, 92, 47, 8, 12, 10, 13, 9]
def hexT : Bs := [48, 49, 50, 51, 52, 53, 54, 55, 56, 57, 97, 98, 99, 100, 101, 102, 65, 66, 67, 68, 69, 70]
def chkS (n : Nat) : Bool := match shortB (UInt8.ofNat n) with
 | none => Lib.indexByte shortT (UInt8.ofNat n) == -1
 | some b => (List.range 8).any fun i => Lib.indexByte shortT (UInt8.ofNat n) == (i : Int) && meantT.getD i 0 == b
def chkH (n : Nat) : Bool := match hexD (UInt8.ofNat n) with
 | none => Lib.indexByte hexT (UInt8.ofNat n) == -1
 | some d => Nat.ble d 15 && ((Lib.indexByte hexT (UInt8.ofNat n) == (d : Int)) || (Lib.indexByte hexT (UInt8.ofNat n) == ((d + 6 : Nat) : Int) && Nat.ble 10 d))
theorem allS : (List.range 256).all chkS = true := by kernel_rfl
theorem allH : (List.range 256).all chkH = true := by kernel_rfl
theorem all_at {f : Nat → Bool} (h : (List.range 256).all f = true) (c : UInt8) : f c.toNat = true := List.all_eq_true.1 h _ (List.mem_range.2 c.toNat_lt)
theorem shortS (c : UInt8) : (shortB c = none ∧ Lib.indexByte shortT c = -1) ∨ ∃ b i, shortB c = some b ∧ i < 8 ∧ Lib.indexByte shortT c = (i : Nat) ∧ meantT.getD i 0 = b := by
 have h := all_at allS c
 unfold chkS at h
 rw [show UInt8.ofNat c.toNat = c from UInt8.ofNat_toNat] at h
 rcases hs : shortB c with _ | b
 · rw [hs] at h
   exact .inl ⟨rfl, by simpa using h⟩
 · rw [hs] at h
   simp only [List.any_eq_true, List.mem_range, Bool.and_eq_true, beq_iff_eq] at h
   obtain ⟨i, hi, h1, h2⟩ := h
   exact .inr ⟨b, i, rfl, hi, h1, h2⟩
theorem hexS (c : UInt8) : (hexD c = none ∧ Lib.indexByte hexT c = -1) ∨ ∃ d, hexD c = some d ∧ d ≤ 15 ∧ (Lib.indexByte hexT c = (d : Nat) ∨ (Lib.indexByte hexT c = (d : Nat) + 6 ∧ 10 ≤ d)) := by
 have h := all_at allH c
 unfold chkH at h
 rw [show UInt8.ofNat c.toNat = c from UInt8.ofNat_toNat] at h
 rcases hs : hexD c with _ | d
 · rw [hs] at h
   exact .inl ⟨rfl, by simpa using h⟩
 · rw [hs] at h
   simp only [Bool.and_eq_true, Bool.or_eq_true, beq_iff_eq, Nat.ble_eq] at h
   obtain ⟨h1, h2⟩ := h
   refine .inr ⟨d, rfl, h1, ?_⟩
   rcases h2 with h2 | ⟨h2, h3⟩
   · exact .inl h2
   · exact .inr ⟨by rw [h2]; push_cast; rfl, h3⟩
def headB : Bs → UInt8
 | [] => 0
 | c :: _ => c
theorem headN_B (s : Bs) : headN s = ((headB s).toNat : Int) := by cases s <;> rfl
theorem short72 (s : Bs) (w : World) : Calls Tryd.prog 72 #[.string ⟨#[34, 92, 47, 98, 102, 110, 114, 116]⟩, .int .u8 (headN s)] w fun e w' => e = .returned (.int .i64 (Lib.indexByte shortT (headB s))) ∧ w' = w := by
 rw [headN_B]
 refine (Tryd.strings_IndexByte ⟨#[34, 92, 47, 98, 102, 110, 114, 116]⟩ _ w).mono ?_
 rintro e w' ⟨rfl, rfl⟩
 rw [u8_back]
 exact ⟨rfl, rfl⟩
theorem hex72 (s : Bs) (w : World) : Calls Tryd.prog 72 #[.string ⟨#[48, 49, 50, 51, 52, 53, 54, 55, 56, 57, 97, 98, 99, 100, 101, 102, 65, 66, 67, 68, 69, 70]⟩, .int .u8 (headN s)] w fun e w' => e = .returned (.int .i64 (Lib.indexByte hexT (headB s))) ∧ w' = w := by
 rw [headN_B]
 refine (Tryd.strings_IndexByte ⟨#[48, 49, 50, 51, 52, 53, 54, 55, 56, 57, 97, 98, 99, 100, 101, 102, 65, 66, 67, 68, 69, 70]⟩ _ w).mono ?_
 rintro e w' ⟨rfl, rfl⟩
 rw [u8_back]
 exact ⟨rfl, rfl⟩
theorem escB_word (s : Bs) (h : shortB (headB s) = none) : escB s = (match wordB [117] s with | .error n => .error n | .ok r => (match hexB4 4 0 r with | .ok x => .ok (UInt8.ofNat x.1, x.2) | .error e => .error e)) := by
 cases s with
 | nil => rfl
 | cons c q =>
   have h' : shortB c = none := h
   simp only [escB, h']
   by_cases hc : c = 117
   · subst hc
     simp only [wordB, if_true]
     cases hexB4 4 0 q <;> rfl
   · simp [hc, wordB]
set_option maxHeartbeats 4000000 in
theorem escShort {w : World} {r : Nat} {T : ByteArray} {c : UInt8} {q : Bs} (h : Rd w r T (c :: q)) (i : Nat) (hi : i < 8) (hx : Lib.indexByte shortT c = (i : Nat)) : Calls Tryd.prog 102 #[.pointer (some ⟨r, 0, none⟩)] w (EndR w r T (fun b => .int .u8 b.toNat) (.ok (meantT.getD i 0, q))) := by
 obtain ⟨i3, hi3, hs3⟩ := infoS3
 have HI := Lib.hid (And.intro hi3 hs3)
 have H73 := Lib.hid (fun W (hk : Keeps Nob w W) => next73 (h.keep hk id))
 have H72 := Lib.hid (fun W => short72 (c :: q) W)
 have hhb : headB (c :: q) = c := rfl
 rw [hhb, hx] at H72
 obtain ⟨a, ha, ⟨hb, -⟩, hT, -, hn⟩ := h.cons
 have Hb := Lib.hid hb
 have Hn := Lib.hid hn
 have hai : (a : Int) < (T.size : Int) := by omega
 generalize headN (c :: q) = hv at *
 have HK1 := Lib.hid (Keeps.refl Nob w)
 clear hi3 hs3 h hx hhb hb hn
 have hcase : i = 0 ∨ i = 1 ∨ i = 2 ∨ i = 3 ∨ i = 4 ∨ i = 5 ∨ i = 6 ∨ i = 7 := by omega
 clear hi
 rcases hcase with rfl | rfl | rfl | rfl | rfl | rfl | rfl | rfl
 · skip
   go_enter Tryd.func102, Tryd.ntmps102
   go_wp2_with (first
    | (go_at_call 73; go_must (refine (H73.out _ HK1.out).mono ?_; rintro e w2 ⟨rfl, hk1⟩); have HK1 := Lib.hid (HK1.out.trans hk1 (fun _ _ h => h)); clear hk1; (try simp only [PU]))
    | (go_at_call 72; go_must (refine (H72.out _).mono ?_; rintro e w3 ⟨rfl, rfl⟩); (try simp only [PU]))
   )
   have c0 := (blk_cell (HK1.out.blk Hb.out id) 0).trans rfl
   have c1 := (blk_cell (HK1.out.blk Hb.out id) 1).trans rfl
   refine wp_region_perm [(0, true), (1, true), (2, true), (3, true), (4, true), (5, true), (6, true), (7, true), (8, true), (9, true), (10, true), (11, true), (12, true), (13, true)] (fun w' => w'.cell? ⟨r, 0, none⟩ = some (.string T) ∧ w'.cell? ⟨r, 1, none⟩ = some (.int .i64 a)) rfl (by kernel_rfl) (by kernel_rfl) (by decide) (fun c a d v w h => by cases d <;> exact h) ⟨c0, c1⟩ ?_
   refine pq (some 12) ?_; (try simp only [PU])
   refine pq (some 13) ?_; (try simp only [PU])
   refine pq (some 14) ?_; (try simp only [PU])
   refine pq (some 15) ?_; (try simp only [PU])
   refine pq (some 16) ?_; (try simp only [PU])
   refine pq (some 17) ?_; (try simp only [PU])
   refine pq (some 18) ?_; (try simp only [PU])
   refine pq (some 19) ?_; (try simp only [PU])
   refine pq (some 20) ?_; (try simp only [PU])
   refine pq (some 21) ?_; (try simp only [PU])
   refine pq (some 22) ?_; (try simp only [PU])
   refine pq (some 23) ?_; (try simp only [PU])
   refine pq (some 24) ?_; (try simp only [PU])
   refine pq (some 25) ?_; (try simp only [PU])
   refine perm_nil ?_
   go_wp2_with ((with_reducible refine at_store (t := 3) rfl ?_); go_must (refine ev_store (cs' := #[.string T, .int .i64 ((a : Int) + 1)]) rfl rfl rfl rfl rfl rfl HI.out.1 HI.out.2 rfl ((HK1.out.then (Keeps.refl Nob _).drew).blk Hb.out id) (Nat.le_of_ble_eq_true rfl) rfl ?_; intro w4 hb2 hk2); have Hb2 := Lib.hid hb2; have HK2 := Lib.hid hk2; clear hb2 hk2; (try simp only [PU]))
   go_ret
   exact ⟨rfl, Hn.out w4 Hb2.out, ((Keeps.refl (· = r) w).then (HK1.out.then (Keeps.refl Nob _).drew)).trans HK2.out (fun _ _ h => h)⟩
 · skip
   go_enter Tryd.func102, Tryd.ntmps102
   go_wp2_with (first
    | (go_at_call 73; go_must (refine (H73.out _ HK1.out).mono ?_; rintro e w2 ⟨rfl, hk1⟩); have HK1 := Lib.hid (HK1.out.trans hk1 (fun _ _ h => h)); clear hk1; (try simp only [PU]))
    | (go_at_call 72; go_must (refine (H72.out _).mono ?_; rintro e w3 ⟨rfl, rfl⟩); (try simp only [PU]))
   )
   have c0 := (blk_cell (HK1.out.blk Hb.out id) 0).trans rfl
   have c1 := (blk_cell (HK1.out.blk Hb.out id) 1).trans rfl
   refine wp_region_perm [(0, true), (1, true), (2, true), (3, true), (4, true), (5, true), (6, true), (7, true), (8, true), (9, true), (10, true), (11, true), (12, true), (13, true)] (fun w' => w'.cell? ⟨r, 0, none⟩ = some (.string T) ∧ w'.cell? ⟨r, 1, none⟩ = some (.int .i64 a)) rfl (by kernel_rfl) (by kernel_rfl) (by decide) (fun c a d v w h => by cases d <;> exact h) ⟨c0, c1⟩ ?_
   refine pq (some 12) ?_; (try simp only [PU])
   refine pq (some 13) ?_; (try simp only [PU])
   refine pq (some 14) ?_; (try simp only [PU])
   refine pq (some 15) ?_; (try simp only [PU])
   refine pq (some 16) ?_; (try simp only [PU])
   refine pq (some 17) ?_; (try simp only [PU])
   refine pq (some 18) ?_; (try simp only [PU])
   refine pq (some 19) ?_; (try simp only [PU])
   refine pq (some 20) ?_; (try simp only [PU])
   refine pq (some 21) ?_; (try simp only [PU])
   refine pq (some 22) ?_; (try simp only [PU])
   refine pq (some 23) ?_; (try simp only [PU])
   refine pq (some 24) ?_; (try simp only [PU])
   refine pq (some 25) ?_; (try simp only [PU])
   refine perm_nil ?_
   go_wp2_with ((with_reducible refine at_store (t := 3) rfl ?_); go_must (refine ev_store (cs' := #[.string T, .int .i64 ((a : Int) + 1)]) rfl rfl rfl rfl rfl rfl HI.out.1 HI.out.2 rfl ((HK1.out.then (Keeps.refl Nob _).drew).blk Hb.out id) (Nat.le_of_ble_eq_true rfl) rfl ?_; intro w4 hb2 hk2); have Hb2 := Lib.hid hb2; have HK2 := Lib.hid hk2; clear hb2 hk2; (try simp only [PU]))
   go_ret
   exact ⟨rfl, Hn.out w4 Hb2.out, ((Keeps.refl (· = r) w).then (HK1.out.then (Keeps.refl Nob _).drew)).trans HK2.out (fun _ _ h => h)⟩
 · skip
   go_enter Tryd.func102, Tryd.ntmps102
   go_wp2_with (first
    | (go_at_call 73; go_must (refine (H73.out _ HK1.out).mono ?_; rintro e w2 ⟨rfl, hk1⟩); have HK1 := Lib.hid (HK1.out.trans hk1 (fun _ _ h => h)); clear hk1; (try simp only [PU]))
    | (go_at_call 72; go_must (refine (H72.out _).mono ?_; rintro e w3 ⟨rfl, rfl⟩); (try simp only [PU]))
   )
   have c0 := (blk_cell (HK1.out.blk Hb.out id) 0).trans rfl
   have c1 := (blk_cell (HK1.out.blk Hb.out id) 1).trans rfl
   refine wp_region_perm [(0, true), (1, true), (2, true), (3, true), (4, true), (5, true), (6, true), (7, true), (8, true), (9, true), (10, true), (11, true), (12, true), (13, true)] (fun w' => w'.cell? ⟨r, 0, none⟩ = some (.string T) ∧ w'.cell? ⟨r, 1, none⟩ = some (.int .i64 a)) rfl (by kernel_rfl) (by kernel_rfl) (by decide) (fun c a d v w h => by cases d <;> exact h) ⟨c0, c1⟩ ?_
   refine pq (some 12) ?_; (try simp only [PU])
   refine pq (some 13) ?_; (try simp only [PU])
   refine pq (some 14) ?_; (try simp only [PU])
   refine pq (some 15) ?_; (try simp only [PU])
   refine pq (some 16) ?_; (try simp only [PU])
   refine pq (some 17) ?_; (try simp only [PU])
   refine pq (some 18) ?_; (try simp only [PU])
   refine pq (some 19) ?_; (try simp only [PU])
   refine pq (some 20) ?_; (try simp only [PU])
   refine pq (some 21) ?_; (try simp only [PU])
   refine pq (some 22) ?_; (try simp only [PU])
   refine pq (some 23) ?_; (try simp only [PU])
   refine pq (some 24) ?_; (try simp only [PU])
   refine pq (some 25) ?_; (try simp only [PU])
   refine perm_nil ?_
   go_wp2_with ((with_reducible refine at_store (t := 3) rfl ?_); go_must (refine ev_store (cs' := #[.string T, .int .i64 ((a : Int) + 1)]) rfl rfl rfl rfl rfl rfl HI.out.1 HI.out.2 rfl ((HK1.out.then (Keeps.refl Nob _).drew).blk Hb.out id) (Nat.le_of_ble_eq_true rfl) rfl ?_; intro w4 hb2 hk2); have Hb2 := Lib.hid hb2; have HK2 := Lib.hid hk2; clear hb2 hk2; (try simp only [PU]))
   go_ret
   exact ⟨rfl, Hn.out w4 Hb2.out, ((Keeps.refl (· = r) w).then (HK1.out.then (Keeps.refl Nob _).drew)).trans HK2.out (fun _ _ h => h)⟩
 · skip
   go_enter Tryd.func102, Tryd.ntmps102
   go_wp2_with (first
    | (go_at_call 73; go_must (refine (H73.out _ HK1.out).mono ?_; rintro e w2 ⟨rfl, hk1⟩); have HK1 := Lib.hid (HK1.out.trans hk1 (fun _ _ h => h)); clear hk1; (try simp only [PU]))
    | (go_at_call 72; go_must (refine (H72.out _).mono ?_; rintro e w3 ⟨rfl, rfl⟩); (try simp only [PU]))
   )
   have c0 := (blk_cell (HK1.out.blk Hb.out id) 0).trans rfl
   have c1 := (blk_cell (HK1.out.blk Hb.out id) 1).trans rfl
   refine wp_region_perm [(0, true), (1, true), (2, true), (3, true), (4, true), (5, true), (6, true), (7, true), (8, true), (9, true), (10, true), (11, true), (12, true), (13, true)] (fun w' => w'.cell? ⟨r, 0, none⟩ = some (.string T) ∧ w'.cell? ⟨r, 1, none⟩ = some (.int .i64 a)) rfl (by kernel_rfl) (by kernel_rfl) (by decide) (fun c a d v w h => by cases d <;> exact h) ⟨c0, c1⟩ ?_
   refine pq (some 12) ?_; (try simp only [PU])
   refine pq (some 13) ?_; (try simp only [PU])
   refine pq (some 14) ?_; (try simp only [PU])
   refine pq (some 15) ?_; (try simp only [PU])
   refine pq (some 16) ?_; (try simp only [PU])
   refine pq (some 17) ?_; (try simp only [PU])
   refine pq (some 18) ?_; (try simp only [PU])
   refine pq (some 19) ?_; (try simp only [PU])
   refine pq (some 20) ?_; (try simp only [PU])
   refine pq (some 21) ?_; (try simp only [PU])
   refine pq (some 22) ?_; (try simp only [PU])
   refine pq (some 23) ?_; (try simp only [PU])
   refine pq (some 24) ?_; (try simp only [PU])
   refine pq (some 25) ?_; (try simp only [PU])
   refine perm_nil ?_
   go_wp2_with ((with_reducible refine at_store (t := 3) rfl ?_); go_must (refine ev_store (cs' := #[.string T, .int .i64 ((a : Int) + 1)]) rfl rfl rfl rfl rfl rfl HI.out.1 HI.out.2 rfl ((HK1.out.then (Keeps.refl Nob _).drew).blk Hb.out id) (Nat.le_of_ble_eq_true rfl) rfl ?_; intro w4 hb2 hk2); have Hb2 := Lib.hid hb2; have HK2 := Lib.hid hk2; clear hb2 hk2; (try simp only [PU]))
   go_ret
   exact ⟨rfl, Hn.out w4 Hb2.out, ((Keeps.refl (· = r) w).then (HK1.out.then (Keeps.refl Nob _).drew)).trans HK2.out (fun _ _ h => h)⟩
 · skip
   go_enter Tryd.func102, Tryd.ntmps102
   go_wp2_with (first
    | (go_at_call 73; go_must (refine (H73.out _ HK1.out).mono ?_; rintro e w2 ⟨rfl, hk1⟩); have HK1 := Lib.hid (HK1.out.trans hk1 (fun _ _ h => h)); clear hk1; (try simp only [PU]))
    | (go_at_call 72; go_must (refine (H72.out _).mono ?_; rintro e w3 ⟨rfl, rfl⟩); (try simp only [PU]))
   )
   have c0 := (blk_cell (HK1.out.blk Hb.out id) 0).trans rfl
   have c1 := (blk_cell (HK1.out.blk Hb.out id) 1).trans rfl
   refine wp_region_perm [(0, true), (1, true), (2, true), (3, true), (4, true), (5, true), (6, true), (7, true), (8, true), (9, true), (10, true), (11, true), (12, true), (13, true)] (fun w' => w'.cell? ⟨r, 0, none⟩ = some (.string T) ∧ w'.cell? ⟨r, 1, none⟩ = some (.int .i64 a)) rfl (by kernel_rfl) (by kernel_rfl) (by decide) (fun c a d v w h => by cases d <;> exact h) ⟨c0, c1⟩ ?_
   refine pq (some 12) ?_; (try simp only [PU])
   refine pq (some 13) ?_; (try simp only [PU])
   refine pq (some 14) ?_; (try simp only [PU])
   refine pq (some 15) ?_; (try simp only [PU])
   refine pq (some 16) ?_; (try simp only [PU])
   refine pq (some 17) ?_; (try simp only [PU])
   refine pq (some 18) ?_; (try simp only [PU])
   refine pq (some 19) ?_; (try simp only [PU])
   refine pq (some 20) ?_; (try simp only [PU])
   refine pq (some 21) ?_; (try simp only [PU])
   refine pq (some 22) ?_; (try simp only [PU])
   refine pq (some 23) ?_; (try simp only [PU])
   refine pq (some 24) ?_; (try simp only [PU])
   refine pq (some 25) ?_; (try simp only [PU])
   refine perm_nil ?_
   go_wp2_with ((with_reducible refine at_store (t := 3) rfl ?_); go_must (refine ev_store (cs' := #[.string T, .int .i64 ((a : Int) + 1)]) rfl rfl rfl rfl rfl rfl HI.out.1 HI.out.2 rfl ((HK1.out.then (Keeps.refl Nob _).drew).blk Hb.out id) (Nat.le_of_ble_eq_true rfl) rfl ?_; intro w4 hb2 hk2); have Hb2 := Lib.hid hb2; have HK2 := Lib.hid hk2; clear hb2 hk2; (try simp only [PU]))
   go_ret
   exact ⟨rfl, Hn.out w4 Hb2.out, ((Keeps.refl (· = r) w).then (HK1.out.then (Keeps.refl Nob _).drew)).trans HK2.out (fun _ _ h => h)⟩
 · skip
   go_enter Tryd.func102, Tryd.ntmps102
   go_wp2_with (first
    | (go_at_call 73; go_must (refine (H73.out _ HK1.out).mono ?_; rintro e w2 ⟨rfl, hk1⟩); have HK1 := Lib.hid (HK1.out.trans hk1 (fun _ _ h => h)); clear hk1; (try simp only [PU]))
    | (go_at_call 72; go_must (refine (H72.out _).mono ?_; rintro e w3 ⟨rfl, rfl⟩); (try simp only [PU]))
   )
   have c0 := (blk_cell (HK1.out.blk Hb.out id) 0).trans rfl
   have c1 := (blk_cell (HK1.out.blk Hb.out id) 1).trans rfl
   refine wp_region_perm [(0, true), (1, true), (2, true), (3, true), (4, true), (5, true), (6, true), (7, true), (8, true), (9, true), (10, true), (11, true), (12, true), (13, true)] (fun w' => w'.cell? ⟨r, 0, none⟩ = some (.string T) ∧ w'.cell? ⟨r, 1, none⟩ = some (.int .i64 a)) rfl (by kernel_rfl) (by kernel_rfl) (by decide) (fun c a d v w h => by cases d <;> exact h) ⟨c0, c1⟩ ?_
   refine pq (some 12) ?_; (try simp only [PU])
   refine pq (some 13) ?_; (try simp only [PU])
   refine pq (some 14) ?_; (try simp only [PU])
   refine pq (some 15) ?_; (try simp only [PU])
   refine pq (some 16) ?_; (try simp only [PU])
   refine pq (some 17) ?_; (try simp only [PU])
   refine pq (some 18) ?_; (try simp only [PU])
   refine pq (some 19) ?_; (try simp only [PU])
   refine pq (some 20) ?_; (try simp only [PU])
   refine pq (some 21) ?_; (try simp only [PU])
   refine pq (some 22) ?_; (try simp only [PU])
   refine pq (some 23) ?_; (try simp only [PU])
   refine pq (some 24) ?_; (try simp only [PU])
   refine pq (some 25) ?_; (try simp only [PU])
   refine perm_nil ?_
   go_wp2_with ((with_reducible refine at_store (t := 3) rfl ?_); go_must (refine ev_store (cs' := #[.string T, .int .i64 ((a : Int) + 1)]) rfl rfl rfl rfl rfl rfl HI.out.1 HI.out.2 rfl ((HK1.out.then (Keeps.refl Nob _).drew).blk Hb.out id) (Nat.le_of_ble_eq_true rfl) rfl ?_; intro w4 hb2 hk2); have Hb2 := Lib.hid hb2; have HK2 := Lib.hid hk2; clear hb2 hk2; (try simp only [PU]))
   go_ret
   exact ⟨rfl, Hn.out w4 Hb2.out, ((Keeps.refl (· = r) w).then (HK1.out.then (Keeps.refl Nob _).drew)).trans HK2.out (fun _ _ h => h)⟩
 · skip
   go_enter Tryd.func102, Tryd.ntmps102
   go_wp2_with (first
    | (go_at_call 73; go_must (refine (H73.out _ HK1.out).mono ?_; rintro e w2 ⟨rfl, hk1⟩); have HK1 := Lib.hid (HK1.out.trans hk1 (fun _ _ h => h)); clear hk1; (try simp only [PU]))
    | (go_at_call 72; go_must (refine (H72.out _).mono ?_; rintro e w3 ⟨rfl, rfl⟩); (try simp only [PU]))
   )
   have c0 := (blk_cell (HK1.out.blk Hb.out id) 0).trans rfl
   have c1 := (blk_cell (HK1.out.blk Hb.out id) 1).trans rfl
   refine wp_region_perm [(0, true), (1, true), (2, true), (3, true), (4, true), (5, true), (6, true), (7, true), (8, true), (9, true), (10, true), (11, true), (12, true), (13, true)] (fun w' => w'.cell? ⟨r, 0, none⟩ = some (.string T) ∧ w'.cell? ⟨r, 1, none⟩ = some (.int .i64 a)) rfl (by kernel_rfl) (by kernel_rfl) (by decide) (fun c a d v w h => by cases d <;> exact h) ⟨c0, c1⟩ ?_
   refine pq (some 12) ?_; (try simp only [PU])
   refine pq (some 13) ?_; (try simp only [PU])
   refine pq (some 14) ?_; (try simp only [PU])
   refine pq (some 15) ?_; (try simp only [PU])
   refine pq (some 16) ?_; (try simp only [PU])
   refine pq (some 17) ?_; (try simp only [PU])
   refine pq (some 18) ?_; (try simp only [PU])
   refine pq (some 19) ?_; (try simp only [PU])
   refine pq (some 20) ?_; (try simp only [PU])
   refine pq (some 21) ?_; (try simp only [PU])
   refine pq (some 22) ?_; (try simp only [PU])
   refine pq (some 23) ?_; (try simp only [PU])
   refine pq (some 24) ?_; (try simp only [PU])
   refine pq (some 25) ?_; (try simp only [PU])
   refine perm_nil ?_
   go_wp2_with ((with_reducible refine at_store (t := 3) rfl ?_); go_must (refine ev_store (cs' := #[.string T, .int .i64 ((a : Int) + 1)]) rfl rfl rfl rfl rfl rfl HI.out.1 HI.out.2 rfl ((HK1.out.then (Keeps.refl Nob _).drew).blk Hb.out id) (Nat.le_of_ble_eq_true rfl) rfl ?_; intro w4 hb2 hk2); have Hb2 := Lib.hid hb2; have HK2 := Lib.hid hk2; clear hb2 hk2; (try simp only [PU]))
   go_ret
   exact ⟨rfl, Hn.out w4 Hb2.out, ((Keeps.refl (· = r) w).then (HK1.out.then (Keeps.refl Nob _).drew)).trans HK2.out (fun _ _ h => h)⟩
 · skip
   go_enter Tryd.func102, Tryd.ntmps102
   go_wp2_with (first
    | (go_at_call 73; go_must (refine (H73.out _ HK1.out).mono ?_; rintro e w2 ⟨rfl, hk1⟩); have HK1 := Lib.hid (HK1.out.trans hk1 (fun _ _ h => h)); clear hk1; (try simp only [PU]))
    | (go_at_call 72; go_must (refine (H72.out _).mono ?_; rintro e w3 ⟨rfl, rfl⟩); (try simp only [PU]))
   )
   have c0 := (blk_cell (HK1.out.blk Hb.out id) 0).trans rfl
   have c1 := (blk_cell (HK1.out.blk Hb.out id) 1).trans rfl
   refine wp_region_perm [(0, true), (1, true), (2, true), (3, true), (4, true), (5, true), (6, true), (7, true), (8, true), (9, true), (10, true), (11, true), (12, true), (13, true)] (fun w' => w'.cell? ⟨r, 0, none⟩ = some (.string T) ∧ w'.cell? ⟨r, 1, none⟩ = some (.int .i64 a)) rfl (by kernel_rfl) (by kernel_rfl) (by decide) (fun c a d v w h => by cases d <;> exact h) ⟨c0, c1⟩ ?_
   refine pq (some 12) ?_; (try simp only [PU])
   refine pq (some 13) ?_; (try simp only [PU])
   refine pq (some 14) ?_; (try simp only [PU])
   refine pq (some 15) ?_; (try simp only [PU])
   refine pq (some 16) ?_; (try simp only [PU])
   refine pq (some 17) ?_; (try simp only [PU])
   refine pq (some 18) ?_; (try simp only [PU])
   refine pq (some 19) ?_; (try simp only [PU])
   refine pq (some 20) ?_; (try simp only [PU])
   refine pq (some 21) ?_; (try simp only [PU])
   refine pq (some 22) ?_; (try simp only [PU])
   refine pq (some 23) ?_; (try simp only [PU])
   refine pq (some 24) ?_; (try simp only [PU])
   refine pq (some 25) ?_; (try simp only [PU])
   refine perm_nil ?_
   go_wp2_with ((with_reducible refine at_store (t := 3) rfl ?_); go_must (refine ev_store (cs' := #[.string T, .int .i64 ((a : Int) + 1)]) rfl rfl rfl rfl rfl rfl HI.out.1 HI.out.2 rfl ((HK1.out.then (Keeps.refl Nob _).drew).blk Hb.out id) (Nat.le_of_ble_eq_true rfl) rfl ?_; intro w4 hb2 hk2); have Hb2 := Lib.hid hb2; have HK2 := Lib.hid hk2; clear hb2 hk2; (try simp only [PU]))
   go_ret
   exact ⟨rfl, Hn.out w4 Hb2.out, ((Keeps.refl (· = r) w).then (HK1.out.then (Keeps.refl Nob _).drew)).trans HK2.out (fun _ _ h => h)⟩
theorem nz1 (c : UInt8) (h : c ≠ 0) : ∀ i (hi : i < (ByteArray.mk #[c]).size), (ByteArray.mk #[c])[i] ≠ 0 := by
 intro i hi
 have h1 : i < 1 := hi
 match i, h1 with
 | 0, _ => exact h
theorem hexB4_none (k n : Nat) (s : Bs) (h : hexD (headB s) = none) : hexB4 (k + 1) n s = .error s.length := by
 cases s with
 | nil => rfl
 | cons c q => have h' : hexD c = none := h; simp [hexB4, h']
theorem hexB4_some (k n d : Nat) (c : UInt8) (q : Bs) (h : hexD c = some d) : hexB4 (k + 1) n (c :: q) = if k = 0 ∧ 255 < n * 16 + d then .error (q.length + 1) else hexB4 k (n * 16 + d) q := by
 simp only [hexB4, h]
def byteR : R Nat → R UInt8
 | .ok x => .ok (UInt8.ofNat x.1, x.2)
 | .error e => .error e
theorem u8_wrap (n : Nat) (h : n ≤ 255) : ((UInt8.ofNat n).toNat : Int) = (n : Int) := by
 rw [UInt8.toNat_ofNat']
 omega
set_option maxHeartbeats 4000000 in
theorem escLong {w : World} {r : Nat} {T : ByteArray} {s : Bs} (h : Rd w r T s) (hsn : shortB (headB s) = none) : Calls Tryd.prog 102 #[.pointer (some ⟨r, 0, none⟩)] w (EndR w r T (fun b => .int .u8 b.toNat) (escB s)) := by
 obtain ⟨i3, hi3, hs3⟩ := infoS3
 have HI := Lib.hid (And.intro hi3 hs3)
 have H73 := Lib.hid (fun W (hk : Keeps Nob w W) => next73 (h.keep hk id))
 have H72 := Lib.hid (fun W => short72 s W)
 have hx : Lib.indexByte shortT (headB s) = -1 := by
  rcases shortS (headB s) with h1 | ⟨b, i, h1, -⟩
  · exact h1.2
  · rw [hsn] at h1; cases h1
 rw [hx] at H72
 have H74 := Lib.hid (fun W (hk : Keeps Nob w W) => word74 (h.keep hk id) ⟨#[117]⟩ (by decide) (nz1 117 (by decide)))
 rw [escB_word s hsn]
 have hbl : bl ⟨#[117]⟩ = [117] := rfl
 rw [hbl] at H74
 have Hblk := Lib.hid h.blk
 obtain ⟨hv, hhv⟩ : ∃ x, headN s = x := ⟨_, rfl⟩
 rw [hhv] at H73 H72
 have HK1 := Lib.hid (Keeps.refl Nob w)
 clear hx hbl hsn hhv hi3 hs3 h
 rcases hw : wordB [117] s with n | s1
 · rw [hw] at H74
   clear hw
   show Calls _ _ _ _ (EndR w r T (fun b : UInt8 => Value.int .u8 b.toNat) (.error n))
   go_enter Tryd.func102, Tryd.ntmps102
   go_wp2_with (first
    | (go_at_call 73; go_must (refine (H73.out _ HK1.out).mono ?_; rintro e w2 ⟨rfl, hk1⟩); have HK1 := Lib.hid (HK1.out.trans hk1 (fun _ _ h => h)); clear hk1; (try simp only [PU]))
    | (go_at_call 72; go_must (refine (H72.out _).mono ?_; rintro e w3 ⟨rfl, rfl⟩); (try simp only [PU]))
   )
   have c0 := (blk_cell (HK1.out.blk Hblk.out id) 0).trans rfl
   have c1 := (blk_cell (HK1.out.blk Hblk.out id) 1).trans rfl
   refine wp_region_perm [(0, true), (1, true), (2, true), (3, true), (4, true), (5, true), (6, true), (7, true), (8, true), (9, true), (10, true), (11, true), (12, true), (13, true)] (fun w' => True) rfl (by kernel_rfl) (by kernel_rfl) (by decide) (fun c a d v w h => by cases d <;> exact h) trivial ?_
   refine pq (some 12) ?_; (try simp only [PU])
   refine pq (some 13) ?_; (try simp only [PU])
   refine pq (some 14) ?_; (try simp only [PU])
   refine perm_skip (some 15) rfl rfl rfl ?_; (try simp only [PU])
   refine perm_skip (some 16) rfl rfl rfl ?_; (try simp only [PU])
   refine perm_skip (some 17) rfl rfl rfl ?_; (try simp only [PU])
   refine perm_skip (some 18) rfl rfl rfl ?_; (try simp only [PU])
   refine perm_skip (some 19) rfl rfl rfl ?_; (try simp only [PU])
   refine perm_skip (some 20) rfl rfl rfl ?_; (try simp only [PU])
   refine perm_skip (some 21) rfl rfl rfl ?_; (try simp only [PU])
   refine perm_skip (some 22) rfl rfl rfl ?_; (try simp only [PU])
   refine perm_skip (some 23) rfl rfl rfl ?_; (try simp only [PU])
   refine perm_skip (some 24) rfl rfl rfl ?_; (try simp only [PU])
   refine pq (some 25) ?_; (try simp only [PU])
   refine perm_nil ?_
   have HK2 := Lib.hid (HK1.out.then (Keeps.refl Nob _).drew)
   go_wp2_with (first
    | (go_at_call 74; go_must (refine (H74.out _ HK2.out).mono ?_; rintro e w4 ⟨rfl, hk4⟩); have HK4 := Lib.hid hk4; clear hk4; unfold stopAt; (try simp only [PU]))
   )
   exact ⟨rfl, rfl, ((Keeps.refl (· = r) w).then HK2.out).trans HK4.out (fun _ _ h => h)⟩
 · rw [hw] at H74
   clear hw
   obtain ⟨R0, hR0⟩ : ∃ x, hexB4 4 0 s1 = x := ⟨_, rfl⟩
   have hres : (match (Except.ok s1 : Except Nat Bs) with | .error n => (Except.error n : R UInt8) | .ok r => (match hexB4 4 0 r with | .ok x => .ok (UInt8.ofNat x.1, x.2) | .error e => .error e)) = byteR R0 := by
    rw [← hR0]
    show (match hexB4 4 0 s1 with | .ok x => (Except.ok (UInt8.ofNat x.1, x.2) : R UInt8) | .error e => .error e) = _
    cases hexB4 4 0 s1 <;> rfl
   rw [hres]
   obtain ⟨RR, hRR⟩ : ∃ x, byteR R0 = x := ⟨_, rfl⟩
   rw [hRR]
   have HRR := Lib.hid hRR
   have HR0 := Lib.hid hR0
   clear hres hRR hR0
   go_enter Tryd.func102, Tryd.ntmps102
   go_wp2_with (first
    | (go_at_call 73; go_must (refine (H73.out _ HK1.out).mono ?_; rintro e w2 ⟨rfl, hk1⟩); have HK1 := Lib.hid (HK1.out.trans hk1 (fun _ _ h => h)); clear hk1; (try simp only [PU]))
    | (go_at_call 72; go_must (refine (H72.out _).mono ?_; rintro e w3 ⟨rfl, rfl⟩); (try simp only [PU]))
   )
   have c0 := (blk_cell (HK1.out.blk Hblk.out id) 0).trans rfl
   have c1 := (blk_cell (HK1.out.blk Hblk.out id) 1).trans rfl
   refine wp_region_perm [(0, true), (1, true), (2, true), (3, true), (4, true), (5, true), (6, true), (7, true), (8, true), (9, true), (10, true), (11, true), (12, true), (13, true)] (fun w' => True) rfl (by kernel_rfl) (by kernel_rfl) (by decide) (fun c a d v w h => by cases d <;> exact h) trivial ?_
   refine pq (some 12) ?_; (try simp only [PU])
   refine pq (some 13) ?_; (try simp only [PU])
   refine pq (some 14) ?_; (try simp only [PU])
   refine perm_skip (some 15) rfl rfl rfl ?_; (try simp only [PU])
   refine perm_skip (some 16) rfl rfl rfl ?_; (try simp only [PU])
   refine perm_skip (some 17) rfl rfl rfl ?_; (try simp only [PU])
   refine perm_skip (some 18) rfl rfl rfl ?_; (try simp only [PU])
   refine perm_skip (some 19) rfl rfl rfl ?_; (try simp only [PU])
   refine perm_skip (some 20) rfl rfl rfl ?_; (try simp only [PU])
   refine perm_skip (some 21) rfl rfl rfl ?_; (try simp only [PU])
   refine perm_skip (some 22) rfl rfl rfl ?_; (try simp only [PU])
   refine perm_skip (some 23) rfl rfl rfl ?_; (try simp only [PU])
   refine perm_skip (some 24) rfl rfl rfl ?_; (try simp only [PU])
   refine pq (some 25) ?_; (try simp only [PU])
   refine perm_nil ?_
   have HK2 := Lib.hid (HK1.out.then (Keeps.refl Nob _).drew)
   go_wp2_with (first
    | (go_at_call 74; go_must (refine (H74.out _ HK2.out).mono ?_; rintro e w4 ⟨⟨x4, rfl⟩, hr4, hk4⟩); have HR4 := Lib.hid hr4; have HK4 := Lib.hid (((Keeps.refl (· = r) w).then HK2.out).trans hk4 (fun _ _ h => h)); clear hk4 hr4; (try simp only [PU]))
   )
   clear c0 c1
   go_loopw [5, 6, 7, 37] (fun nv iv dv kv wr => ∃ (i n : Nat) (s' : Bs), kv = .int .i64 i ∧ i ≤ 4 ∧ nv = .int .i64 n ∧ n ≤ 65535 ∧ Hid (n < 16 ^ i) ∧ Hid (Rd wr r T s') ∧ Hid (Keeps (· = r) w wr) ∧ Hid (hexB4 (4 - i) n s' = R0) ∧ Hid (i = 4 → n ≤ 255)) (fun _ _ _ kv _ => 4 - (intOf kv).toNat)
   case atStart => exact ⟨0, 0, s1, rfl, by omega, rfl, by omega, Lib.hid (by decide), HR4, HK4, HR0, Lib.hid (fun h => by omega)⟩
   case round =>
    obtain ⟨i, n, s', rfl, hi, rfl, hn, Hp, Hr, HK, HE, H255⟩ := hrel
    by_cases hlt : i < 4
    · have H73 := Lib.hid (fun W (hk : Keeps Nob wr W) => next73 (Hr.out.keep hk id))
      have H72 := Lib.hid (fun W => hex72 s' W)
      have Hfail := Lib.hid (fun W (hk : Keeps Nob wr W) => fail47 (Hr.out.keep hk id) s'.length Hr.out.le)
      have Hb := Lib.hid Hr.out.blk
      have HK1 := Lib.hid (Keeps.refl Nob wr)
      have h4 : 4 - i = (3 - i) + 1 := by omega
      have HE2 := Lib.hid (show hexB4 ((3 - i) + 1) n s' = R0 by rw [← h4]; exact HE.out)
      obtain ⟨hv', hhv⟩ : ∃ x, headN s' = x := ⟨_, rfl⟩
      rw [hhv] at H73 H72
      clear h4 hhv
      rcases hexS (headB s') with ⟨hnone, hidx⟩ | ⟨d, hsome, hd, hidx⟩
      · rw [hidx] at H72
        have HR2 := Lib.hid (show RR = .error s'.length by rw [← HRR.out, ← HE2.out, hexB4_none _ _ _ hnone]; rfl)
        obtain ⟨m, hm⟩ : ∃ x, s'.length = x := ⟨_, rfl⟩
        rw [hm] at HR2 Hfail Hb
        clear hnone hidx hm
        go_wp2_with (first
         | (go_at_call 73; go_must (refine (H73.out _ HK1.out).mono ?_; rintro e w2 ⟨rfl, hk1⟩); have HK1 := Lib.hid (HK1.out.trans hk1 (fun _ _ h => h)); clear hk1; (try simp only [PU]))
         | (go_at_call 72; go_must (refine (H72.out _).mono ?_; rintro e w3 ⟨rfl, rfl⟩); (try simp only [PU]))
         | (go_at_call 47; go_must (refine (Hfail.out _ HK1.out).mono ?_; rintro e w5 ⟨rfl, rfl⟩); unfold stopAt; (try simp only [PU]))
         | ((with_reducible refine at_store (t := 3) rfl ?_); go_must (refine ev_store (cs' := #[.string T, .int .i64 ((a : Int) + 1)]) rfl rfl rfl rfl rfl rfl HI.out.1 HI.out.2 rfl (HK1.out.blk Hb.out id) (Nat.le_of_ble_eq_true rfl) rfl ?_; intro w4 hb2 hk2); have Hb2 := Lib.hid hb2; have HK2 := Lib.hid hk2; clear hb2 hk2; (try simp only [PU]))
        )
        refine wp_region_perm [(0, true), (1, true), (2, true), (3, true), (4, true), (5, true), (6, true), (7, true), (8, true), (9, true), (10, true), (11, true), (12, true), (13, true)] (fun w' => True) rfl (by kernel_rfl) (by kernel_rfl) (by decide) (fun c a d v w h => by cases d <;> exact h) trivial ?_
        refine pq (some 43) ?_; (try simp only [PU])
        refine pq (some 44) ?_; (try simp only [PU])
        refine pq (some 45) ?_; (try simp only [PU])
        refine perm_skip (some 46) rfl rfl rfl ?_; (try simp only [PU])
        refine perm_skip (some 47) rfl rfl rfl ?_; (try simp only [PU])
        refine perm_skip (some 48) rfl rfl rfl ?_; (try simp only [PU])
        refine perm_skip (some 49) rfl rfl rfl ?_; (try simp only [PU])
        refine perm_skip (some 50) rfl rfl rfl ?_; (try simp only [PU])
        refine perm_skip (some 51) rfl rfl rfl ?_; (try simp only [PU])
        refine perm_skip (some 52) rfl rfl rfl ?_; (try simp only [PU])
        refine perm_skip (some 53) rfl rfl rfl ?_; (try simp only [PU])
        refine perm_skip (some 54) rfl rfl rfl ?_; (try simp only [PU])
        refine perm_skip (some 55) rfl rfl rfl ?_; (try simp only [PU])
        refine pq (some 56) ?_; (try simp only [PU])
        refine perm_nil ?_
        have HK1 := Lib.hid (HK1.out.then (Keeps.refl Nob _).drew)
        have q1 := (blk_cell (HK1.out.blk Hb.out id) 1).trans rfl
        go_wp2_with (first
         | (go_at_call 73; go_must (refine (H73.out _ HK1.out).mono ?_; rintro e w2 ⟨rfl, hk1⟩); have HK1 := Lib.hid (HK1.out.trans hk1 (fun _ _ h => h)); clear hk1; (try simp only [PU]))
         | (go_at_call 72; go_must (refine (H72.out _).mono ?_; rintro e w3 ⟨rfl, rfl⟩); (try simp only [PU]))
         | (go_at_call 47; go_must (refine (Hfail.out _ HK1.out).mono ?_; rintro e w5 ⟨rfl, rfl⟩); unfold stopAt; (try simp only [PU]))
         | ((with_reducible refine at_store (t := 3) rfl ?_); go_must (refine ev_store (cs' := #[.string T, .int .i64 ((a : Int) + 1)]) rfl rfl rfl rfl rfl rfl HI.out.1 HI.out.2 rfl (HK1.out.blk Hb.out id) (Nat.le_of_ble_eq_true rfl) rfl ?_; intro w4 hb2 hk2); have Hb2 := Lib.hid hb2; have HK2 := Lib.hid hk2; clear hb2 hk2; (try simp only [PU]))
        )
        exact ⟨rfl, by rw [HR2.out]; exact ⟨rfl, HK.out.then HK1.out⟩⟩
      · cases s' with
        | nil =>
          have hz : hexD (headB []) = none := by decide
          rw [hz] at hsome
          cases hsome
        | cons c q =>
          obtain ⟨a, ha, ⟨hb, -⟩, hT, hal, hnx⟩ := Hr.out.cons
          have Hb := Lib.hid hb
          have Hn := Lib.hid hnx
          have hai : (a : Int) < (T.size : Int) := by omega
          have hat : T.size - (c :: q).length = a := by simp only [List.length_cons]; omega
          rw [hat] at Hfail
          have hs3 := hexB4_some (3 - i) n d c q hsome
          have HS := Lib.hid (show (if 3 - i = 0 ∧ 255 < n * 16 + d then .error (q.length + 1) else hexB4 (3 - i) (n * 16 + d) q) = R0 by rw [← hs3]; exact HE2.out)
          have hpw : n * 16 + d < 16 ^ (i + 1) := by have := Hp.out; rw [Nat.pow_succ]; omega
          have hp4 : n < 4096 := by
           have h1 := Hp.out
           have h2 : 16 ^ i ≤ 16 ^ 3 := Nat.pow_le_pow_right (by decide) (by omega)
           exact Nat.lt_of_lt_of_le h1 h2
          have Hpw := Lib.hid hpw
          have Hat := Lib.hid (show T.size - (q.length + 1) = a by omega)
          clear hb hnx hat hs3 hpw hsome hal
          by_cases h3 : i = 3
          · subst h3
            by_cases hbig : 255 < n * 16 + d
            · have HR2 := Lib.hid (show RR = .error (q.length + 1) by rw [← HRR.out, ← HS.out, if_pos ⟨rfl, hbig⟩]; rfl)
              rcases hidx with hidx | ⟨hidx, hd10⟩
              · rw [hidx] at H72
                clear hidx
                go_wp2_with (first
                 | (go_at_call 73; go_must (refine (H73.out _ HK1.out).mono ?_; rintro e w2 ⟨rfl, hk1⟩); have HK1 := Lib.hid (HK1.out.trans hk1 (fun _ _ h => h)); clear hk1; (try simp only [PU]))
                 | (go_at_call 72; go_must (refine (H72.out _).mono ?_; rintro e w3 ⟨rfl, rfl⟩); (try simp only [PU]))
                 | (go_at_call 47; go_must (refine (Hfail.out _ HK1.out).mono ?_; rintro e w5 ⟨rfl, rfl⟩); unfold stopAt; (try simp only [PU]))
                 | ((with_reducible refine at_store (t := 3) rfl ?_); go_must (refine ev_store (cs' := #[.string T, .int .i64 ((a : Int) + 1)]) rfl rfl rfl rfl rfl rfl HI.out.1 HI.out.2 rfl (HK1.out.blk Hb.out id) (Nat.le_of_ble_eq_true rfl) rfl ?_; intro w4 hb2 hk2); have Hb2 := Lib.hid hb2; have HK2 := Lib.hid hk2; clear hb2 hk2; (try simp only [PU]))
                )
                have c0 := (blk_cell (HK1.out.blk Hb.out id) 0).trans rfl
                have c1 := (blk_cell (HK1.out.blk Hb.out id) 1).trans rfl
                refine wp_region_perm [(0, true), (1, true), (2, true), (3, true), (4, true), (5, true), (6, true), (7, true), (8, true), (9, true), (10, true), (11, true), (12, true), (13, true)] (fun w' => w'.cell? ⟨r, 0, none⟩ = some (.string T) ∧ w'.cell? ⟨r, 1, none⟩ = some (.int .i64 a)) rfl (by kernel_rfl) (by kernel_rfl) (by decide) (fun c a d v w h => by cases d <;> exact h) ⟨c0, c1⟩ ?_
                refine pq (some 43) ?_; (try simp only [PU])
                refine pq (some 44) ?_; (try simp only [PU])
                refine pq (some 45) ?_; (try simp only [PU])
                refine pq (some 46) ?_; (try simp only [PU])
                refine pq (some 47) ?_; (try simp only [PU])
                refine pq (some 48) ?_; (try simp only [PU])
                refine pq (some 49) ?_; (try simp only [PU])
                refine pq (some 50) ?_; (try simp only [PU])
                refine pq (some 51) ?_; (try simp only [PU])
                refine pq (some 52) ?_; (try simp only [PU])
                refine pq (some 53) ?_; (try simp only [PU])
                refine pq (some 54) ?_; (try simp only [PU])
                refine pq (some 55) ?_; (try simp only [PU])
                refine pq (some 56) ?_; (try simp only [PU])
                refine perm_nil ?_
                have HK1 := Lib.hid (HK1.out.then (Keeps.refl Nob _).drew)
                go_wp2_with (first
                 | (go_at_call 73; go_must (refine (H73.out _ HK1.out).mono ?_; rintro e w2 ⟨rfl, hk1⟩); have HK1 := Lib.hid (HK1.out.trans hk1 (fun _ _ h => h)); clear hk1; (try simp only [PU]))
                 | (go_at_call 72; go_must (refine (H72.out _).mono ?_; rintro e w3 ⟨rfl, rfl⟩); (try simp only [PU]))
                 | (go_at_call 47; go_must (refine (Hfail.out _ HK1.out).mono ?_; rintro e w5 ⟨rfl, rfl⟩); unfold stopAt; (try simp only [PU]))
                 | ((with_reducible refine at_store (t := 3) rfl ?_); go_must (refine ev_store (cs' := #[.string T, .int .i64 ((a : Int) + 1)]) rfl rfl rfl rfl rfl rfl HI.out.1 HI.out.2 rfl (HK1.out.blk Hb.out id) (Nat.le_of_ble_eq_true rfl) rfl ?_; intro w4 hb2 hk2); have Hb2 := Lib.hid hb2; have HK2 := Lib.hid hk2; clear hb2 hk2; (try simp only [PU]))
                )
                exact ⟨rfl, by rw [HR2.out]; exact ⟨rfl, HK.out.then HK1.out⟩⟩
              · rw [hidx] at H72
                clear hidx
                go_wp2_with (first
                 | (go_at_call 73; go_must (refine (H73.out _ HK1.out).mono ?_; rintro e w2 ⟨rfl, hk1⟩); have HK1 := Lib.hid (HK1.out.trans hk1 (fun _ _ h => h)); clear hk1; (try simp only [PU]))
                 | (go_at_call 72; go_must (refine (H72.out _).mono ?_; rintro e w3 ⟨rfl, rfl⟩); (try simp only [PU]))
                 | (go_at_call 47; go_must (refine (Hfail.out _ HK1.out).mono ?_; rintro e w5 ⟨rfl, rfl⟩); unfold stopAt; (try simp only [PU]))
                 | ((with_reducible refine at_store (t := 3) rfl ?_); go_must (refine ev_store (cs' := #[.string T, .int .i64 ((a : Int) + 1)]) rfl rfl rfl rfl rfl rfl HI.out.1 HI.out.2 rfl (HK1.out.blk Hb.out id) (Nat.le_of_ble_eq_true rfl) rfl ?_; intro w4 hb2 hk2); have Hb2 := Lib.hid hb2; have HK2 := Lib.hid hk2; clear hb2 hk2; (try simp only [PU]))
                )
                have c0 := (blk_cell (HK1.out.blk Hb.out id) 0).trans rfl
                have c1 := (blk_cell (HK1.out.blk Hb.out id) 1).trans rfl
                refine wp_region_perm [(0, true), (1, true), (2, true), (3, true), (4, true), (5, true), (6, true), (7, true), (8, true), (9, true), (10, true), (11, true), (12, true), (13, true)] (fun w' => w'.cell? ⟨r, 0, none⟩ = some (.string T) ∧ w'.cell? ⟨r, 1, none⟩ = some (.int .i64 a)) rfl (by kernel_rfl) (by kernel_rfl) (by decide) (fun c a d v w h => by cases d <;> exact h) ⟨c0, c1⟩ ?_
                refine pq (some 43) ?_; (try simp only [PU])
                refine pq (some 44) ?_; (try simp only [PU])
                refine pq (some 45) ?_; (try simp only [PU])
                refine pq (some 46) ?_; (try simp only [PU])
                refine pq (some 47) ?_; (try simp only [PU])
                refine pq (some 48) ?_; (try simp only [PU])
                refine pq (some 49) ?_; (try simp only [PU])
                refine pq (some 50) ?_; (try simp only [PU])
                refine pq (some 51) ?_; (try simp only [PU])
                refine pq (some 52) ?_; (try simp only [PU])
                refine pq (some 53) ?_; (try simp only [PU])
                refine pq (some 54) ?_; (try simp only [PU])
                refine pq (some 55) ?_; (try simp only [PU])
                refine pq (some 56) ?_; (try simp only [PU])
                refine perm_nil ?_
                have HK1 := Lib.hid (HK1.out.then (Keeps.refl Nob _).drew)
                go_wp2_with (first
                 | (go_at_call 73; go_must (refine (H73.out _ HK1.out).mono ?_; rintro e w2 ⟨rfl, hk1⟩); have HK1 := Lib.hid (HK1.out.trans hk1 (fun _ _ h => h)); clear hk1; (try simp only [PU]))
                 | (go_at_call 72; go_must (refine (H72.out _).mono ?_; rintro e w3 ⟨rfl, rfl⟩); (try simp only [PU]))
                 | (go_at_call 47; go_must (refine (Hfail.out _ HK1.out).mono ?_; rintro e w5 ⟨rfl, rfl⟩); unfold stopAt; (try simp only [PU]))
                 | ((with_reducible refine at_store (t := 3) rfl ?_); go_must (refine ev_store (cs' := #[.string T, .int .i64 ((a : Int) + 1)]) rfl rfl rfl rfl rfl rfl HI.out.1 HI.out.2 rfl (HK1.out.blk Hb.out id) (Nat.le_of_ble_eq_true rfl) rfl ?_; intro w4 hb2 hk2); have Hb2 := Lib.hid hb2; have HK2 := Lib.hid hk2; clear hb2 hk2; (try simp only [PU]))
                )
                exact ⟨rfl, by rw [HR2.out]; exact ⟨rfl, HK.out.then HK1.out⟩⟩
            · have HR2 := Lib.hid (show hexB4 (4 - (3 + 1)) (n * 16 + d) q = R0 by rw [← HS.out, if_neg (fun h => hbig h.2)])
              rcases hidx with hidx | ⟨hidx, hd10⟩
              · rw [hidx] at H72
                clear hidx
                go_wp2_with (first
                 | (go_at_call 73; go_must (refine (H73.out _ HK1.out).mono ?_; rintro e w2 ⟨rfl, hk1⟩); have HK1 := Lib.hid (HK1.out.trans hk1 (fun _ _ h => h)); clear hk1; (try simp only [PU]))
                 | (go_at_call 72; go_must (refine (H72.out _).mono ?_; rintro e w3 ⟨rfl, rfl⟩); (try simp only [PU]))
                 | (go_at_call 47; go_must (refine (Hfail.out _ HK1.out).mono ?_; rintro e w5 ⟨rfl, rfl⟩); unfold stopAt; (try simp only [PU]))
                 | ((with_reducible refine at_store (t := 3) rfl ?_); go_must (refine ev_store (cs' := #[.string T, .int .i64 ((a : Int) + 1)]) rfl rfl rfl rfl rfl rfl HI.out.1 HI.out.2 rfl (HK1.out.blk Hb.out id) (Nat.le_of_ble_eq_true rfl) rfl ?_; intro w4 hb2 hk2); have Hb2 := Lib.hid hb2; have HK2 := Lib.hid hk2; clear hb2 hk2; (try simp only [PU]))
                )
                have c0 := (blk_cell (HK1.out.blk Hb.out id) 0).trans rfl
                have c1 := (blk_cell (HK1.out.blk Hb.out id) 1).trans rfl
                refine wp_region_perm [(0, true), (1, true), (2, true), (3, true), (4, true), (5, true), (6, true), (7, true), (8, true), (9, true), (10, true), (11, true), (12, true), (13, true)] (fun w' => w'.cell? ⟨r, 0, none⟩ = some (.string T) ∧ w'.cell? ⟨r, 1, none⟩ = some (.int .i64 a)) rfl (by kernel_rfl) (by kernel_rfl) (by decide) (fun c a d v w h => by cases d <;> exact h) ⟨c0, c1⟩ ?_
                refine pq (some 43) ?_; (try simp only [PU])
                refine pq (some 44) ?_; (try simp only [PU])
                refine pq (some 45) ?_; (try simp only [PU])
                refine pq (some 46) ?_; (try simp only [PU])
                refine pq (some 47) ?_; (try simp only [PU])
                refine pq (some 48) ?_; (try simp only [PU])
                refine pq (some 49) ?_; (try simp only [PU])
                refine pq (some 50) ?_; (try simp only [PU])
                refine pq (some 51) ?_; (try simp only [PU])
                refine pq (some 52) ?_; (try simp only [PU])
                refine pq (some 53) ?_; (try simp only [PU])
                refine pq (some 54) ?_; (try simp only [PU])
                refine pq (some 55) ?_; (try simp only [PU])
                refine pq (some 56) ?_; (try simp only [PU])
                refine perm_nil ?_
                have HK1 := Lib.hid (HK1.out.then (Keeps.refl Nob _).drew)
                go_wp2_with (first
                 | (go_at_call 73; go_must (refine (H73.out _ HK1.out).mono ?_; rintro e w2 ⟨rfl, hk1⟩); have HK1 := Lib.hid (HK1.out.trans hk1 (fun _ _ h => h)); clear hk1; (try simp only [PU]))
                 | (go_at_call 72; go_must (refine (H72.out _).mono ?_; rintro e w3 ⟨rfl, rfl⟩); (try simp only [PU]))
                 | (go_at_call 47; go_must (refine (Hfail.out _ HK1.out).mono ?_; rintro e w5 ⟨rfl, rfl⟩); unfold stopAt; (try simp only [PU]))
                 | ((with_reducible refine at_store (t := 3) rfl ?_); go_must (refine ev_store (cs' := #[.string T, .int .i64 ((a : Int) + 1)]) rfl rfl rfl rfl rfl rfl HI.out.1 HI.out.2 rfl (HK1.out.blk Hb.out id) (Nat.le_of_ble_eq_true rfl) rfl ?_; intro w4 hb2 hk2); have Hb2 := Lib.hid hb2; have HK2 := Lib.hid hk2; clear hb2 hk2; (try simp only [PU]))
                )
                go_roundw
                case rel => exact ⟨3 + 1, n * 16 + d, q, by first | rfl | go_num, by omega, by first | rfl | go_num | (push_cast; simp), by omega, Hpw, Lib.hid (Hn.out w4 Hb2.out), Lib.hid ((HK.out.then HK1.out).trans HK2.out (fun _ _ h => h)), HR2, Lib.hid (fun h => by omega)⟩
                case measure => (simp [intOf] <;> omega)
              · rw [hidx] at H72
                clear hidx
                go_wp2_with (first
                 | (go_at_call 73; go_must (refine (H73.out _ HK1.out).mono ?_; rintro e w2 ⟨rfl, hk1⟩); have HK1 := Lib.hid (HK1.out.trans hk1 (fun _ _ h => h)); clear hk1; (try simp only [PU]))
                 | (go_at_call 72; go_must (refine (H72.out _).mono ?_; rintro e w3 ⟨rfl, rfl⟩); (try simp only [PU]))
                 | (go_at_call 47; go_must (refine (Hfail.out _ HK1.out).mono ?_; rintro e w5 ⟨rfl, rfl⟩); unfold stopAt; (try simp only [PU]))
                 | ((with_reducible refine at_store (t := 3) rfl ?_); go_must (refine ev_store (cs' := #[.string T, .int .i64 ((a : Int) + 1)]) rfl rfl rfl rfl rfl rfl HI.out.1 HI.out.2 rfl (HK1.out.blk Hb.out id) (Nat.le_of_ble_eq_true rfl) rfl ?_; intro w4 hb2 hk2); have Hb2 := Lib.hid hb2; have HK2 := Lib.hid hk2; clear hb2 hk2; (try simp only [PU]))
                )
                have c0 := (blk_cell (HK1.out.blk Hb.out id) 0).trans rfl
                have c1 := (blk_cell (HK1.out.blk Hb.out id) 1).trans rfl
                refine wp_region_perm [(0, true), (1, true), (2, true), (3, true), (4, true), (5, true), (6, true), (7, true), (8, true), (9, true), (10, true), (11, true), (12, true), (13, true)] (fun w' => w'.cell? ⟨r, 0, none⟩ = some (.string T) ∧ w'.cell? ⟨r, 1, none⟩ = some (.int .i64 a)) rfl (by kernel_rfl) (by kernel_rfl) (by decide) (fun c a d v w h => by cases d <;> exact h) ⟨c0, c1⟩ ?_
                refine pq (some 43) ?_; (try simp only [PU])
                refine pq (some 44) ?_; (try simp only [PU])
                refine pq (some 45) ?_; (try simp only [PU])
                refine pq (some 46) ?_; (try simp only [PU])
                refine pq (some 47) ?_; (try simp only [PU])
                refine pq (some 48) ?_; (try simp only [PU])
                refine pq (some 49) ?_; (try simp only [PU])
                refine pq (some 50) ?_; (try simp only [PU])
                refine pq (some 51) ?_; (try simp only [PU])
                refine pq (some 52) ?_; (try simp only [PU])
                refine pq (some 53) ?_; (try simp only [PU])
                refine pq (some 54) ?_; (try simp only [PU])
                refine pq (some 55) ?_; (try simp only [PU])
                refine pq (some 56) ?_; (try simp only [PU])
                refine perm_nil ?_
                have HK1 := Lib.hid (HK1.out.then (Keeps.refl Nob _).drew)
                go_wp2_with (first
                 | (go_at_call 73; go_must (refine (H73.out _ HK1.out).mono ?_; rintro e w2 ⟨rfl, hk1⟩); have HK1 := Lib.hid (HK1.out.trans hk1 (fun _ _ h => h)); clear hk1; (try simp only [PU]))
                 | (go_at_call 72; go_must (refine (H72.out _).mono ?_; rintro e w3 ⟨rfl, rfl⟩); (try simp only [PU]))
                 | (go_at_call 47; go_must (refine (Hfail.out _ HK1.out).mono ?_; rintro e w5 ⟨rfl, rfl⟩); unfold stopAt; (try simp only [PU]))
                 | ((with_reducible refine at_store (t := 3) rfl ?_); go_must (refine ev_store (cs' := #[.string T, .int .i64 ((a : Int) + 1)]) rfl rfl rfl rfl rfl rfl HI.out.1 HI.out.2 rfl (HK1.out.blk Hb.out id) (Nat.le_of_ble_eq_true rfl) rfl ?_; intro w4 hb2 hk2); have Hb2 := Lib.hid hb2; have HK2 := Lib.hid hk2; clear hb2 hk2; (try simp only [PU]))
                )
                go_roundw
                case rel => exact ⟨3 + 1, n * 16 + d, q, by first | rfl | go_num, by omega, by first | rfl | go_num | (push_cast; simp), by omega, Hpw, Lib.hid (Hn.out w4 Hb2.out), Lib.hid ((HK.out.then HK1.out).trans HK2.out (fun _ _ h => h)), HR2, Lib.hid (fun h => by omega)⟩
                case measure => (simp [intOf] <;> omega)
          · have i3' : ((i : Int) == 3) = false := by simp; omega
            have HR2 := Lib.hid (show hexB4 (4 - (i + 1)) (n * 16 + d) q = R0 by rw [← HS.out, if_neg (fun h => h3 (by omega)), show 4 - (i + 1) = 3 - i by omega])
            rcases hidx with hidx | ⟨hidx, hd10⟩
            · rw [hidx] at H72
              clear hidx
              go_wp2_with (first
               | (go_at_call 73; go_must (refine (H73.out _ HK1.out).mono ?_; rintro e w2 ⟨rfl, hk1⟩); have HK1 := Lib.hid (HK1.out.trans hk1 (fun _ _ h => h)); clear hk1; (try simp only [PU]))
               | (go_at_call 72; go_must (refine (H72.out _).mono ?_; rintro e w3 ⟨rfl, rfl⟩); (try simp only [PU]))
               | (go_at_call 47; go_must (refine (Hfail.out _ HK1.out).mono ?_; rintro e w5 ⟨rfl, rfl⟩); unfold stopAt; (try simp only [PU]))
               | ((with_reducible refine at_store (t := 3) rfl ?_); go_must (refine ev_store (cs' := #[.string T, .int .i64 ((a : Int) + 1)]) rfl rfl rfl rfl rfl rfl HI.out.1 HI.out.2 rfl (HK1.out.blk Hb.out id) (Nat.le_of_ble_eq_true rfl) rfl ?_; intro w4 hb2 hk2); have Hb2 := Lib.hid hb2; have HK2 := Lib.hid hk2; clear hb2 hk2; (try simp only [PU]))
              )
              have c0 := (blk_cell (HK1.out.blk Hb.out id) 0).trans rfl
              have c1 := (blk_cell (HK1.out.blk Hb.out id) 1).trans rfl
              refine wp_region_perm [(0, true), (1, true), (2, true), (3, true), (4, true), (5, true), (6, true), (7, true), (8, true), (9, true), (10, true), (11, true), (12, true), (13, true)] (fun w' => w'.cell? ⟨r, 0, none⟩ = some (.string T) ∧ w'.cell? ⟨r, 1, none⟩ = some (.int .i64 a)) rfl (by kernel_rfl) (by kernel_rfl) (by decide) (fun c a d v w h => by cases d <;> exact h) ⟨c0, c1⟩ ?_
              refine pq (some 43) ?_; (try simp only [PU])
              refine pq (some 44) ?_; (try simp only [PU])
              refine pq (some 45) ?_; (try simp only [PU])
              refine pq (some 46) ?_; (try simp only [PU])
              refine pq (some 47) ?_; (try simp only [PU])
              refine pq (some 48) ?_; (try simp only [PU])
              refine pq (some 49) ?_; (try simp only [PU])
              refine pq (some 50) ?_; (try simp only [PU])
              refine pq (some 51) ?_; (try simp only [PU])
              refine pq (some 52) ?_; (try simp only [PU])
              refine pq (some 53) ?_; (try simp only [PU])
              refine pq (some 54) ?_; (try simp only [PU])
              refine pq (some 55) ?_; (try simp only [PU])
              refine pq (some 56) ?_; (try simp only [PU])
              refine perm_nil ?_
              have HK1 := Lib.hid (HK1.out.then (Keeps.refl Nob _).drew)
              go_wp2_with (first
               | (go_at_call 73; go_must (refine (H73.out _ HK1.out).mono ?_; rintro e w2 ⟨rfl, hk1⟩); have HK1 := Lib.hid (HK1.out.trans hk1 (fun _ _ h => h)); clear hk1; (try simp only [PU]))
               | (go_at_call 72; go_must (refine (H72.out _).mono ?_; rintro e w3 ⟨rfl, rfl⟩); (try simp only [PU]))
               | (go_at_call 47; go_must (refine (Hfail.out _ HK1.out).mono ?_; rintro e w5 ⟨rfl, rfl⟩); unfold stopAt; (try simp only [PU]))
               | ((with_reducible refine at_store (t := 3) rfl ?_); go_must (refine ev_store (cs' := #[.string T, .int .i64 ((a : Int) + 1)]) rfl rfl rfl rfl rfl rfl HI.out.1 HI.out.2 rfl (HK1.out.blk Hb.out id) (Nat.le_of_ble_eq_true rfl) rfl ?_; intro w4 hb2 hk2); have Hb2 := Lib.hid hb2; have HK2 := Lib.hid hk2; clear hb2 hk2; (try simp only [PU]))
              )
              go_roundw
              case rel => exact ⟨i + 1, n * 16 + d, q, by first | rfl | go_num, by omega, by first | rfl | go_num | (push_cast; simp), by omega, Hpw, Lib.hid (Hn.out w4 Hb2.out), Lib.hid ((HK.out.then HK1.out).trans HK2.out (fun _ _ h => h)), HR2, Lib.hid (fun h => by omega)⟩
              case measure => (simp [intOf] <;> omega)
            · rw [hidx] at H72
              clear hidx
              go_wp2_with (first
               | (go_at_call 73; go_must (refine (H73.out _ HK1.out).mono ?_; rintro e w2 ⟨rfl, hk1⟩); have HK1 := Lib.hid (HK1.out.trans hk1 (fun _ _ h => h)); clear hk1; (try simp only [PU]))
               | (go_at_call 72; go_must (refine (H72.out _).mono ?_; rintro e w3 ⟨rfl, rfl⟩); (try simp only [PU]))
               | (go_at_call 47; go_must (refine (Hfail.out _ HK1.out).mono ?_; rintro e w5 ⟨rfl, rfl⟩); unfold stopAt; (try simp only [PU]))
               | ((with_reducible refine at_store (t := 3) rfl ?_); go_must (refine ev_store (cs' := #[.string T, .int .i64 ((a : Int) + 1)]) rfl rfl rfl rfl rfl rfl HI.out.1 HI.out.2 rfl (HK1.out.blk Hb.out id) (Nat.le_of_ble_eq_true rfl) rfl ?_; intro w4 hb2 hk2); have Hb2 := Lib.hid hb2; have HK2 := Lib.hid hk2; clear hb2 hk2; (try simp only [PU]))
              )
              have c0 := (blk_cell (HK1.out.blk Hb.out id) 0).trans rfl
              have c1 := (blk_cell (HK1.out.blk Hb.out id) 1).trans rfl
              refine wp_region_perm [(0, true), (1, true), (2, true), (3, true), (4, true), (5, true), (6, true), (7, true), (8, true), (9, true), (10, true), (11, true), (12, true), (13, true)] (fun w' => w'.cell? ⟨r, 0, none⟩ = some (.string T) ∧ w'.cell? ⟨r, 1, none⟩ = some (.int .i64 a)) rfl (by kernel_rfl) (by kernel_rfl) (by decide) (fun c a d v w h => by cases d <;> exact h) ⟨c0, c1⟩ ?_
              refine pq (some 43) ?_; (try simp only [PU])
              refine pq (some 44) ?_; (try simp only [PU])
              refine pq (some 45) ?_; (try simp only [PU])
              refine pq (some 46) ?_; (try simp only [PU])
              refine pq (some 47) ?_; (try simp only [PU])
              refine pq (some 48) ?_; (try simp only [PU])
              refine pq (some 49) ?_; (try simp only [PU])
              refine pq (some 50) ?_; (try simp only [PU])
              refine pq (some 51) ?_; (try simp only [PU])
              refine pq (some 52) ?_; (try simp only [PU])
              refine pq (some 53) ?_; (try simp only [PU])
              refine pq (some 54) ?_; (try simp only [PU])
              refine pq (some 55) ?_; (try simp only [PU])
              refine pq (some 56) ?_; (try simp only [PU])
              refine perm_nil ?_
              have HK1 := Lib.hid (HK1.out.then (Keeps.refl Nob _).drew)
              go_wp2_with (first
               | (go_at_call 73; go_must (refine (H73.out _ HK1.out).mono ?_; rintro e w2 ⟨rfl, hk1⟩); have HK1 := Lib.hid (HK1.out.trans hk1 (fun _ _ h => h)); clear hk1; (try simp only [PU]))
               | (go_at_call 72; go_must (refine (H72.out _).mono ?_; rintro e w3 ⟨rfl, rfl⟩); (try simp only [PU]))
               | (go_at_call 47; go_must (refine (Hfail.out _ HK1.out).mono ?_; rintro e w5 ⟨rfl, rfl⟩); unfold stopAt; (try simp only [PU]))
               | ((with_reducible refine at_store (t := 3) rfl ?_); go_must (refine ev_store (cs' := #[.string T, .int .i64 ((a : Int) + 1)]) rfl rfl rfl rfl rfl rfl HI.out.1 HI.out.2 rfl (HK1.out.blk Hb.out id) (Nat.le_of_ble_eq_true rfl) rfl ?_; intro w4 hb2 hk2); have Hb2 := Lib.hid hb2; have HK2 := Lib.hid hk2; clear hb2 hk2; (try simp only [PU]))
              )
              go_roundw
              case rel => exact ⟨i + 1, n * 16 + d, q, by first | rfl | go_num, by omega, by first | rfl | go_num | (push_cast; simp), by omega, Hpw, Lib.hid (Hn.out w4 Hb2.out), Lib.hid ((HK.out.then HK1.out).trans HK2.out (fun _ _ h => h)), HR2, Lib.hid (fun h => by omega)⟩
              case measure => (simp [intOf] <;> omega)
    · have hi' : i = 4 := by omega
      subst hi'
      have h255 := H255.out rfl
      have HR2 := Lib.hid (show RR = .ok (UInt8.ofNat n, s') by rw [← HRR.out, ← HE.out]; rfl)
      have hu := u8_wrap n h255
      have Hu := Lib.hid hu
      clear hu
      go_wp2
      go_ret
      rw [HR2.out]
      exact ⟨congrArg (fun x => Ending.returned (Value.int IntKind.u8 x)) Hu.out.symm, Hr.out, HK.out⟩
end Go.Proofs.WV

namespace Go.Proofs.WV
open Go.RowKit Go.Proofs.KL Go.Proofs.WM
set_option maxRecDepth 100000
set_option linter.unusedSimpArgs false
set_option linter.unusedVariables false

def hexI (c : UInt8) : Int := match hexD c with
 | some d => (d : Int)
 | none => -1
theorem hexI_val (c : UInt8) : hexI c = if 48 ≤ (c.toNat : Int) ∧ (c.toNat : Int) ≤ 57 then (c.toNat : Int) - 48 else if 97 ≤ (c.toNat : Int) ∧ (c.toNat : Int) ≤ 102 then (c.toNat : Int) - 87 else if 65 ≤ (c.toNat : Int) ∧ (c.toNat : Int) ≤ 70 then (c.toNat : Int) - 55 else -1 := by
 unfold hexI hexD
 simp only [UInt8.le_iff_toNat_le]
 have e1 : (48 : UInt8).toNat = 48 := rfl
 have e2 : (57 : UInt8).toNat = 57 := rfl
 have e3 : (97 : UInt8).toNat = 97 := rfl
 have e4 : (102 : UInt8).toNat = 102 := rfl
 have e5 : (65 : UInt8).toNat = 65 := rfl
 have e6 : (70 : UInt8).toNat = 70 := rfl
 rw [e1, e2, e3, e4, e5, e6]
 have k1 : (48 ≤ (c.toNat : Int) ∧ (c.toNat : Int) ≤ 57) ↔ (48 ≤ c.toNat ∧ c.toNat ≤ 57) := by omega
 have k2 : (97 ≤ (c.toNat : Int) ∧ (c.toNat : Int) ≤ 102) ↔ (97 ≤ c.toNat ∧ c.toNat ≤ 102) := by omega
 have k3 : (65 ≤ (c.toNat : Int) ∧ (c.toNat : Int) ≤ 70) ↔ (65 ≤ c.toNat ∧ c.toNat ≤ 70) := by omega
 simp only [k1, k2, k3]
 by_cases h1 : 48 ≤ c.toNat ∧ c.toNat ≤ 57
 · simp only [if_pos h1]
   omega
 simp only [if_neg h1]
 by_cases h2 : 97 ≤ c.toNat ∧ c.toNat ≤ 102
 · simp only [if_pos h2]
   omega
 simp only [if_neg h2]
 by_cases h3 : 65 ≤ c.toNat ∧ c.toNat ≤ 70
 · simp only [if_pos h3]
   omega
 simp only [if_neg h3]
set_option maxHeartbeats 4000000 in
theorem hex113 (c : UInt8) (w : World) : Calls Tryd.prog 113 #[.int .u8 (c.toNat : Int)] w fun e w' => e = .returned (.int .i64 (hexI c)) ∧ w' = w := by
 have hb := c.toNat_lt
 obtain ⟨v, hv⟩ : ∃ v, hexI c = v := ⟨_, rfl⟩
 have hval := hexI_val c
 rw [hv] at hval ⊢
 obtain ⟨cv, hcv⟩ : ∃ x : Int, (c.toNat : Int) = x := ⟨_, rfl⟩
 rw [hcv] at hval ⊢
 have hcb : 0 ≤ cv ∧ cv ≤ 255 := by omega
 obtain ⟨b0, b1⟩ := hcb
 have HV := Lib.hid hval
 clear hval hv hcv hb
 by_cases a1 : 48 ≤ cv <;> by_cases a2 : cv ≤ 57 <;> by_cases a3 : 97 ≤ cv <;> by_cases a4 : cv ≤ 102 <;> by_cases a5 : 65 ≤ cv <;> by_cases a6 : cv ≤ 70
 all_goals first | (exfalso; omega) | skip
 all_goals
  go_enter Tryd.func113, Tryd.ntmps113
  go_wp2
  go_ret
  exact ⟨congrArg (fun z => Ending.returned (Value.int .i64 z)) (by rw [HV.out]; (repeat' split) <;> omega), rfl⟩
end Go.Proofs.WV

namespace Go.Proofs.WV
open Go.RowKit Go.Proofs.KL Go.Proofs.WM
set_option maxRecDepth 100000
set_option linter.unusedSimpArgs false
set_option linter.unusedVariables false

def stX {α : Type} : R α → Except Nat Bs
 | .ok x => .ok x.2
 | .error n => .error n
def EscX (w : World) (r : Nat) (T : ByteArray) (R : R UInt8) (e : Ending) (w' : World) : Prop := (∃ b : UInt8, e = .returned (.int .u8 (b.toNat : Int)) ∧ ∀ x, R = .ok x → x.1 = b) ∧ Rf w' r T (stX R) ∧ Keeps (· = r) w w'
def hexG : Nat → Nat → Bs → R Nat
 | 0, n, r => .ok (n, r)
 | _ + 1, _, [] => .error 0
 | k + 1, n, c :: r => match hexD c with
   | none => .error (r.length + 1)
   | some d => hexG k (n * 16 + d) r
def hexK : R Nat → R Nat
 | .ok (m, r) => if 255 < m then .error (r.length + 1) else .ok (m, r)
 | .error e => .error e
theorem hexB4_G : ∀ (k n : Nat) (r : Bs), hexB4 (k + 1) n r = hexK (hexG (k + 1) n r)
 | k, n, [] => rfl
 | 0, n, c :: r => by
   unfold hexB4 hexG
   rcases hexD c with _ | d
   · rfl
   · simp only [hexG, hexK, hexB4, true_and]
 | k + 1, n, c :: r => by
   unfold hexB4 hexG
   rcases hexD c with _ | d
   · rfl
   · have h : ¬ (k + 1 = 0 ∧ 255 < n * 16 + d) := fun h => by omega
     simp only [if_neg h]
     exact hexB4_G k _ r
def hexE : R Nat → R UInt8
 | .ok x => .ok (UInt8.ofNat x.1, x.2)
 | .error e => .error e
theorem escB_u (q : Bs) : escB (117 :: q) = hexE (hexK (hexG 4 0 q)) := by
 rw [← hexB4_G]
 rw [escB_word (117 :: q) (show shortB 117 = none by decide)]
 show (match hexB4 4 0 q with | .ok x => Except.ok (UInt8.ofNat x.1, x.2) | .error e => .error e) = _
 cases hexB4 4 0 q <;> rfl
theorem escB_no (s : Bs) (h : shortB (headB s) = none) (hu : ¬ headB s = 117) : escB s = .error s.length := by
 rw [escB_word s h]
 cases s with
 | nil => rfl
 | cons c q => simp [wordB, show ¬ c = 117 from hu]
theorem short_none {c : UInt8} (h : ∀ j, j < 8 → shortT.getD j 0 ≠ c) : shortB c = none := by
 have h0 : (34 : UInt8) ≠ c := h 0 (by decide)
 have h1 : (92 : UInt8) ≠ c := h 1 (by decide)
 have h2 : (47 : UInt8) ≠ c := h 2 (by decide)
 have h3 : (98 : UInt8) ≠ c := h 3 (by decide)
 have h4 : (102 : UInt8) ≠ c := h 4 (by decide)
 have h5 : (110 : UInt8) ≠ c := h 5 (by decide)
 have h6 : (114 : UInt8) ≠ c := h 6 (by decide)
 have h7 : (116 : UInt8) ≠ c := h 7 (by decide)
 unfold shortB
 rw [if_neg h0.symm, if_neg h1.symm, if_neg h2.symm, if_neg h3.symm, if_neg h4.symm, if_neg h5.symm, if_neg h6.symm, if_neg h7.symm]
set_option maxHeartbeats 8000000 in
theorem esc104 {w : World} {r : Nat} {T : ByteArray} {s : Bs} (h : Rf w r T (.ok s)) : Calls Tryd.prog 104 #[.pointer (some ⟨r, 0, none⟩)] w (EscX w r T (escB s)) := by
 obtain ⟨i3, hi3, hs3⟩ := infoS3
 have HI := Lib.hid (And.intro hi3 hs3)
 have H := Lib.hid h
 have H82 := Lib.hid (peek82 h)
 obtain ⟨RR, hRR⟩ : ∃ y, escB s = y := ⟨_, rfl⟩
 rw [hRR]
 have HRR := Lib.hid hRR
 simp only [headX] at H82
 clear hi3 hs3 h hRR
 go_enter Tryd.func104, Tryd.ntmps104
 go_upto_block 0 with (go_at_call 82; go_must (refine H82.out.mono ?_; rintro e w0 ⟨rfl, hk1⟩); have HK0 := Lib.hid hk1; clear hk1; (try simp only [PU]))
 clear H82
 go_cut [3] (fun cv wx => cv = .int .u8 (headN s) ∧ w0 = wx ∧ Hid (∀ j, j < 8 → shortT.getD j 0 ≠ headB s))
 case first =>
  go_wp2_with fail
  go_loopg [4] 8 (fun k iv wr => ∃ i : Nat, ((i = 0 ∧ k = 8 ∧ iv = .int .i64 0) ∨ (i = 1 ∧ k = 7 ∧ iv = .int .i64 1) ∨ (i = 2 ∧ k = 6 ∧ iv = .int .i64 2) ∨ (i = 3 ∧ k = 5 ∧ iv = .int .i64 3) ∨ (i = 4 ∧ k = 4 ∧ iv = .int .i64 4) ∨ (i = 5 ∧ k = 3 ∧ iv = .int .i64 5) ∨ (i = 6 ∧ k = 2 ∧ iv = .int .i64 6) ∨ (i = 7 ∧ k = 1 ∧ iv = .int .i64 7) ∨ (i = 8 ∧ k = 0 ∧ iv = .int .i64 8)) ∧ w0 = wr ∧ Hid (∀ j, j < i → shortT.getD j 0 ≠ headB s))
  case atStart => exact ⟨0, .inl ⟨rfl, rfl, rfl⟩, rfl, Lib.hid (fun j hj => absurd hj (Nat.not_lt_zero _))⟩
  case round =>
   obtain ⟨i, hi, hw, Hno⟩ := hrel
   subst hw
   rcases hi with ⟨rfl, rfl, rfl⟩ | ⟨rfl, rfl, rfl⟩ | ⟨rfl, rfl, rfl⟩ | ⟨rfl, rfl, rfl⟩ | ⟨rfl, rfl, rfl⟩ | ⟨rfl, rfl, rfl⟩ | ⟨rfl, rfl, rfl⟩ | ⟨rfl, rfl, rfl⟩ | ⟨rfl, rfl, rfl⟩
   · have hl : (((⟨#[34, 92, 47, 98, 102, 110, 114, 116]⟩ : ByteArray)[0]'(by decide)).toNat : Int) = 34 := rfl
     by_cases hc : headB s = 34
     · rw [show headN s = 34 by rw [headN_B, hc]; rfl]
       obtain ⟨q, rfl⟩ : ∃ q, s = 34 :: q := by
        cases s with
        | nil => exact absurd hc (by decide)
        | cons c q => exact ⟨q, by rw [show c = 34 from hc]⟩
       obtain ⟨a, ha, ⟨hbk, -⟩, hT, hsum, hn⟩ := (H.out.keep HK0.out id).cons
       have Hn := Lib.hid hn
       have Hb := Lib.hid hbk
       have hai : (a : Int) ≤ 1000000 := by omega
       have c1 := (blk_cell hbk 1).trans rfl
       have HR2 := Lib.hid (show RR = .ok (34, q) by rw [← HRR.out]; rfl)
       clear hbk hn ha hsum hc
       go_wp2_with (first
        | ((with_reducible refine at_store (t := 3) rfl ?_); go_must (refine ev_store (cs' := #[.string T, .int .i64 ((a : Int) + 1), .int .i64 (-1)]) rfl rfl rfl rfl rfl rfl HI.out.1 HI.out.2 rfl Hb.out (Nat.le_of_ble_eq_true rfl) rfl ?_; intro w1 hb1 hk1)
           have Hr1 := Lib.hid (Hn.out _ hb1)
           have HK1 := Lib.hid hk1
           clear hb1 hk1 c1
           (try simp only [PU]))
       )
       go_ret
       rw [HR2.out]
       exact ⟨⟨34, rfl, fun x hx => by injection hx with hx; rw [← hx]⟩, Hr1.out, (HK0.out.mono (fun _ _ e => e.elim)).trans HK1.out (fun _ _ h => h)⟩
     · have hne : (((34 : Int)) == headN s) = false := by
        rw [headN_B]
        refine beq_eq_false_iff_ne.2 (fun e => hc (UInt8.toNat_inj.1 ?_))
        have e2 : (34 : UInt8).toNat = 34 := rfl
        omega
       have Hno := Lib.hid (show ∀ j, j < 1 → shortT.getD j 0 ≠ headB s from fun j hj => by
        by_cases e : j = 0
        · subst e; exact fun e => hc e.symm
        · exact Hno.out j (by omega))
       clear hc
       generalize headN s = hv at *
       go_wp2
       go_roundg 7
       case measure => omega
       case rel => exact ⟨1, .inr (.inl ⟨rfl, rfl, rfl⟩), rfl, Hno⟩
   · have hl : (((⟨#[34, 92, 47, 98, 102, 110, 114, 116]⟩ : ByteArray)[1]'(by decide)).toNat : Int) = 92 := rfl
     by_cases hc : headB s = 92
     · rw [show headN s = 92 by rw [headN_B, hc]; rfl]
       obtain ⟨q, rfl⟩ : ∃ q, s = 92 :: q := by
        cases s with
        | nil => exact absurd hc (by decide)
        | cons c q => exact ⟨q, by rw [show c = 92 from hc]⟩
       obtain ⟨a, ha, ⟨hbk, -⟩, hT, hsum, hn⟩ := (H.out.keep HK0.out id).cons
       have Hn := Lib.hid hn
       have Hb := Lib.hid hbk
       have hai : (a : Int) ≤ 1000000 := by omega
       have c1 := (blk_cell hbk 1).trans rfl
       have HR2 := Lib.hid (show RR = .ok (92, q) by rw [← HRR.out]; rfl)
       clear hbk hn ha hsum hc
       go_wp2_with (first
        | ((with_reducible refine at_store (t := 3) rfl ?_); go_must (refine ev_store (cs' := #[.string T, .int .i64 ((a : Int) + 1), .int .i64 (-1)]) rfl rfl rfl rfl rfl rfl HI.out.1 HI.out.2 rfl Hb.out (Nat.le_of_ble_eq_true rfl) rfl ?_; intro w1 hb1 hk1)
           have Hr1 := Lib.hid (Hn.out _ hb1)
           have HK1 := Lib.hid hk1
           clear hb1 hk1 c1
           (try simp only [PU]))
       )
       go_ret
       rw [HR2.out]
       exact ⟨⟨92, rfl, fun x hx => by injection hx with hx; rw [← hx]⟩, Hr1.out, (HK0.out.mono (fun _ _ e => e.elim)).trans HK1.out (fun _ _ h => h)⟩
     · have hne : (((92 : Int)) == headN s) = false := by
        rw [headN_B]
        refine beq_eq_false_iff_ne.2 (fun e => hc (UInt8.toNat_inj.1 ?_))
        have e2 : (92 : UInt8).toNat = 92 := rfl
        omega
       have Hno := Lib.hid (show ∀ j, j < 2 → shortT.getD j 0 ≠ headB s from fun j hj => by
        by_cases e : j = 1
        · subst e; exact fun e => hc e.symm
        · exact Hno.out j (by omega))
       clear hc
       generalize headN s = hv at *
       go_wp2
       go_roundg 6
       case measure => omega
       case rel => exact ⟨2, .inr (.inr (.inl ⟨rfl, rfl, rfl⟩)), rfl, Hno⟩
   · have hl : (((⟨#[34, 92, 47, 98, 102, 110, 114, 116]⟩ : ByteArray)[2]'(by decide)).toNat : Int) = 47 := rfl
     by_cases hc : headB s = 47
     · rw [show headN s = 47 by rw [headN_B, hc]; rfl]
       obtain ⟨q, rfl⟩ : ∃ q, s = 47 :: q := by
        cases s with
        | nil => exact absurd hc (by decide)
        | cons c q => exact ⟨q, by rw [show c = 47 from hc]⟩
       obtain ⟨a, ha, ⟨hbk, -⟩, hT, hsum, hn⟩ := (H.out.keep HK0.out id).cons
       have Hn := Lib.hid hn
       have Hb := Lib.hid hbk
       have hai : (a : Int) ≤ 1000000 := by omega
       have c1 := (blk_cell hbk 1).trans rfl
       have HR2 := Lib.hid (show RR = .ok (47, q) by rw [← HRR.out]; rfl)
       clear hbk hn ha hsum hc
       go_wp2_with (first
        | ((with_reducible refine at_store (t := 3) rfl ?_); go_must (refine ev_store (cs' := #[.string T, .int .i64 ((a : Int) + 1), .int .i64 (-1)]) rfl rfl rfl rfl rfl rfl HI.out.1 HI.out.2 rfl Hb.out (Nat.le_of_ble_eq_true rfl) rfl ?_; intro w1 hb1 hk1)
           have Hr1 := Lib.hid (Hn.out _ hb1)
           have HK1 := Lib.hid hk1
           clear hb1 hk1 c1
           (try simp only [PU]))
       )
       go_ret
       rw [HR2.out]
       exact ⟨⟨47, rfl, fun x hx => by injection hx with hx; rw [← hx]⟩, Hr1.out, (HK0.out.mono (fun _ _ e => e.elim)).trans HK1.out (fun _ _ h => h)⟩
     · have hne : (((47 : Int)) == headN s) = false := by
        rw [headN_B]
        refine beq_eq_false_iff_ne.2 (fun e => hc (UInt8.toNat_inj.1 ?_))
        have e2 : (47 : UInt8).toNat = 47 := rfl
        omega
       have Hno := Lib.hid (show ∀ j, j < 3 → shortT.getD j 0 ≠ headB s from fun j hj => by
        by_cases e : j = 2
        · subst e; exact fun e => hc e.symm
        · exact Hno.out j (by omega))
       clear hc
       generalize headN s = hv at *
       go_wp2
       go_roundg 5
       case measure => omega
       case rel => exact ⟨3, .inr (.inr (.inr (.inl ⟨rfl, rfl, rfl⟩))), rfl, Hno⟩
   · have hl : (((⟨#[34, 92, 47, 98, 102, 110, 114, 116]⟩ : ByteArray)[3]'(by decide)).toNat : Int) = 98 := rfl
     by_cases hc : headB s = 98
     · rw [show headN s = 98 by rw [headN_B, hc]; rfl]
       obtain ⟨q, rfl⟩ : ∃ q, s = 98 :: q := by
        cases s with
        | nil => exact absurd hc (by decide)
        | cons c q => exact ⟨q, by rw [show c = 98 from hc]⟩
       obtain ⟨a, ha, ⟨hbk, -⟩, hT, hsum, hn⟩ := (H.out.keep HK0.out id).cons
       have Hn := Lib.hid hn
       have Hb := Lib.hid hbk
       have hai : (a : Int) ≤ 1000000 := by omega
       have c1 := (blk_cell hbk 1).trans rfl
       have HR2 := Lib.hid (show RR = .ok (8, q) by rw [← HRR.out]; rfl)
       clear hbk hn ha hsum hc
       go_wp2_with (first
        | ((with_reducible refine at_store (t := 3) rfl ?_); go_must (refine ev_store (cs' := #[.string T, .int .i64 ((a : Int) + 1), .int .i64 (-1)]) rfl rfl rfl rfl rfl rfl HI.out.1 HI.out.2 rfl Hb.out (Nat.le_of_ble_eq_true rfl) rfl ?_; intro w1 hb1 hk1)
           have Hr1 := Lib.hid (Hn.out _ hb1)
           have HK1 := Lib.hid hk1
           clear hb1 hk1 c1
           (try simp only [PU]))
       )
       go_ret
       rw [HR2.out]
       exact ⟨⟨8, rfl, fun x hx => by injection hx with hx; rw [← hx]⟩, Hr1.out, (HK0.out.mono (fun _ _ e => e.elim)).trans HK1.out (fun _ _ h => h)⟩
     · have hne : (((98 : Int)) == headN s) = false := by
        rw [headN_B]
        refine beq_eq_false_iff_ne.2 (fun e => hc (UInt8.toNat_inj.1 ?_))
        have e2 : (98 : UInt8).toNat = 98 := rfl
        omega
       have Hno := Lib.hid (show ∀ j, j < 4 → shortT.getD j 0 ≠ headB s from fun j hj => by
        by_cases e : j = 3
        · subst e; exact fun e => hc e.symm
        · exact Hno.out j (by omega))
       clear hc
       generalize headN s = hv at *
       go_wp2
       go_roundg 4
       case measure => omega
       case rel => exact ⟨4, .inr (.inr (.inr (.inr (.inl ⟨rfl, rfl, rfl⟩)))), rfl, Hno⟩
   · have hl : (((⟨#[34, 92, 47, 98, 102, 110, 114, 116]⟩ : ByteArray)[4]'(by decide)).toNat : Int) = 102 := rfl
     by_cases hc : headB s = 102
     · rw [show headN s = 102 by rw [headN_B, hc]; rfl]
       obtain ⟨q, rfl⟩ : ∃ q, s = 102 :: q := by
        cases s with
        | nil => exact absurd hc (by decide)
        | cons c q => exact ⟨q, by rw [show c = 102 from hc]⟩
       obtain ⟨a, ha, ⟨hbk, -⟩, hT, hsum, hn⟩ := (H.out.keep HK0.out id).cons
       have Hn := Lib.hid hn
       have Hb := Lib.hid hbk
       have hai : (a : Int) ≤ 1000000 := by omega
       have c1 := (blk_cell hbk 1).trans rfl
       have HR2 := Lib.hid (show RR = .ok (12, q) by rw [← HRR.out]; rfl)
       clear hbk hn ha hsum hc
       go_wp2_with (first
        | ((with_reducible refine at_store (t := 3) rfl ?_); go_must (refine ev_store (cs' := #[.string T, .int .i64 ((a : Int) + 1), .int .i64 (-1)]) rfl rfl rfl rfl rfl rfl HI.out.1 HI.out.2 rfl Hb.out (Nat.le_of_ble_eq_true rfl) rfl ?_; intro w1 hb1 hk1)
           have Hr1 := Lib.hid (Hn.out _ hb1)
           have HK1 := Lib.hid hk1
           clear hb1 hk1 c1
           (try simp only [PU]))
       )
       go_ret
       rw [HR2.out]
       exact ⟨⟨12, rfl, fun x hx => by injection hx with hx; rw [← hx]⟩, Hr1.out, (HK0.out.mono (fun _ _ e => e.elim)).trans HK1.out (fun _ _ h => h)⟩
     · have hne : (((102 : Int)) == headN s) = false := by
        rw [headN_B]
        refine beq_eq_false_iff_ne.2 (fun e => hc (UInt8.toNat_inj.1 ?_))
        have e2 : (102 : UInt8).toNat = 102 := rfl
        omega
       have Hno := Lib.hid (show ∀ j, j < 5 → shortT.getD j 0 ≠ headB s from fun j hj => by
        by_cases e : j = 4
        · subst e; exact fun e => hc e.symm
        · exact Hno.out j (by omega))
       clear hc
       generalize headN s = hv at *
       go_wp2
       go_roundg 3
       case measure => omega
       case rel => exact ⟨5, .inr (.inr (.inr (.inr (.inr (.inl ⟨rfl, rfl, rfl⟩))))), rfl, Hno⟩
   · have hl : (((⟨#[34, 92, 47, 98, 102, 110, 114, 116]⟩ : ByteArray)[5]'(by decide)).toNat : Int) = 110 := rfl
     by_cases hc : headB s = 110
     · rw [show headN s = 110 by rw [headN_B, hc]; rfl]
       obtain ⟨q, rfl⟩ : ∃ q, s = 110 :: q := by
        cases s with
        | nil => exact absurd hc (by decide)
        | cons c q => exact ⟨q, by rw [show c = 110 from hc]⟩
       obtain ⟨a, ha, ⟨hbk, -⟩, hT, hsum, hn⟩ := (H.out.keep HK0.out id).cons
       have Hn := Lib.hid hn
       have Hb := Lib.hid hbk
       have hai : (a : Int) ≤ 1000000 := by omega
       have c1 := (blk_cell hbk 1).trans rfl
       have HR2 := Lib.hid (show RR = .ok (10, q) by rw [← HRR.out]; rfl)
       clear hbk hn ha hsum hc
       go_wp2_with (first
        | ((with_reducible refine at_store (t := 3) rfl ?_); go_must (refine ev_store (cs' := #[.string T, .int .i64 ((a : Int) + 1), .int .i64 (-1)]) rfl rfl rfl rfl rfl rfl HI.out.1 HI.out.2 rfl Hb.out (Nat.le_of_ble_eq_true rfl) rfl ?_; intro w1 hb1 hk1)
           have Hr1 := Lib.hid (Hn.out _ hb1)
           have HK1 := Lib.hid hk1
           clear hb1 hk1 c1
           (try simp only [PU]))
       )
       go_ret
       rw [HR2.out]
       exact ⟨⟨10, rfl, fun x hx => by injection hx with hx; rw [← hx]⟩, Hr1.out, (HK0.out.mono (fun _ _ e => e.elim)).trans HK1.out (fun _ _ h => h)⟩
     · have hne : (((110 : Int)) == headN s) = false := by
        rw [headN_B]
        refine beq_eq_false_iff_ne.2 (fun e => hc (UInt8.toNat_inj.1 ?_))
        have e2 : (110 : UInt8).toNat = 110 := rfl
        omega
       have Hno := Lib.hid (show ∀ j, j < 6 → shortT.getD j 0 ≠ headB s from fun j hj => by
        by_cases e : j = 5
        · subst e; exact fun e => hc e.symm
        · exact Hno.out j (by omega))
       clear hc
       generalize headN s = hv at *
       go_wp2
       go_roundg 2
       case measure => omega
       case rel => exact ⟨6, .inr (.inr (.inr (.inr (.inr (.inr (.inl ⟨rfl, rfl, rfl⟩)))))), rfl, Hno⟩
   · have hl : (((⟨#[34, 92, 47, 98, 102, 110, 114, 116]⟩ : ByteArray)[6]'(by decide)).toNat : Int) = 114 := rfl
     by_cases hc : headB s = 114
     · rw [show headN s = 114 by rw [headN_B, hc]; rfl]
       obtain ⟨q, rfl⟩ : ∃ q, s = 114 :: q := by
        cases s with
        | nil => exact absurd hc (by decide)
        | cons c q => exact ⟨q, by rw [show c = 114 from hc]⟩
       obtain ⟨a, ha, ⟨hbk, -⟩, hT, hsum, hn⟩ := (H.out.keep HK0.out id).cons
       have Hn := Lib.hid hn
       have Hb := Lib.hid hbk
       have hai : (a : Int) ≤ 1000000 := by omega
       have c1 := (blk_cell hbk 1).trans rfl
       have HR2 := Lib.hid (show RR = .ok (13, q) by rw [← HRR.out]; rfl)
       clear hbk hn ha hsum hc
       go_wp2_with (first
        | ((with_reducible refine at_store (t := 3) rfl ?_); go_must (refine ev_store (cs' := #[.string T, .int .i64 ((a : Int) + 1), .int .i64 (-1)]) rfl rfl rfl rfl rfl rfl HI.out.1 HI.out.2 rfl Hb.out (Nat.le_of_ble_eq_true rfl) rfl ?_; intro w1 hb1 hk1)
           have Hr1 := Lib.hid (Hn.out _ hb1)
           have HK1 := Lib.hid hk1
           clear hb1 hk1 c1
           (try simp only [PU]))
       )
       go_ret
       rw [HR2.out]
       exact ⟨⟨13, rfl, fun x hx => by injection hx with hx; rw [← hx]⟩, Hr1.out, (HK0.out.mono (fun _ _ e => e.elim)).trans HK1.out (fun _ _ h => h)⟩
     · have hne : (((114 : Int)) == headN s) = false := by
        rw [headN_B]
        refine beq_eq_false_iff_ne.2 (fun e => hc (UInt8.toNat_inj.1 ?_))
        have e2 : (114 : UInt8).toNat = 114 := rfl
        omega
       have Hno := Lib.hid (show ∀ j, j < 7 → shortT.getD j 0 ≠ headB s from fun j hj => by
        by_cases e : j = 6
        · subst e; exact fun e => hc e.symm
        · exact Hno.out j (by omega))
       clear hc
       generalize headN s = hv at *
       go_wp2
       go_roundg 1
       case measure => omega
       case rel => exact ⟨7, .inr (.inr (.inr (.inr (.inr (.inr (.inr (.inl ⟨rfl, rfl, rfl⟩))))))), rfl, Hno⟩
   · have hl : (((⟨#[34, 92, 47, 98, 102, 110, 114, 116]⟩ : ByteArray)[7]'(by decide)).toNat : Int) = 116 := rfl
     by_cases hc : headB s = 116
     · rw [show headN s = 116 by rw [headN_B, hc]; rfl]
       obtain ⟨q, rfl⟩ : ∃ q, s = 116 :: q := by
        cases s with
        | nil => exact absurd hc (by decide)
        | cons c q => exact ⟨q, by rw [show c = 116 from hc]⟩
       obtain ⟨a, ha, ⟨hbk, -⟩, hT, hsum, hn⟩ := (H.out.keep HK0.out id).cons
       have Hn := Lib.hid hn
       have Hb := Lib.hid hbk
       have hai : (a : Int) ≤ 1000000 := by omega
       have c1 := (blk_cell hbk 1).trans rfl
       have HR2 := Lib.hid (show RR = .ok (9, q) by rw [← HRR.out]; rfl)
       clear hbk hn ha hsum hc
       go_wp2_with (first
        | ((with_reducible refine at_store (t := 3) rfl ?_); go_must (refine ev_store (cs' := #[.string T, .int .i64 ((a : Int) + 1), .int .i64 (-1)]) rfl rfl rfl rfl rfl rfl HI.out.1 HI.out.2 rfl Hb.out (Nat.le_of_ble_eq_true rfl) rfl ?_; intro w1 hb1 hk1)
           have Hr1 := Lib.hid (Hn.out _ hb1)
           have HK1 := Lib.hid hk1
           clear hb1 hk1 c1
           (try simp only [PU]))
       )
       go_ret
       rw [HR2.out]
       exact ⟨⟨9, rfl, fun x hx => by injection hx with hx; rw [← hx]⟩, Hr1.out, (HK0.out.mono (fun _ _ e => e.elim)).trans HK1.out (fun _ _ h => h)⟩
     · have hne : (((116 : Int)) == headN s) = false := by
        rw [headN_B]
        refine beq_eq_false_iff_ne.2 (fun e => hc (UInt8.toNat_inj.1 ?_))
        have e2 : (116 : UInt8).toNat = 116 := rfl
        omega
       have Hno := Lib.hid (show ∀ j, j < 8 → shortT.getD j 0 ≠ headB s from fun j hj => by
        by_cases e : j = 7
        · subst e; exact fun e => hc e.symm
        · exact Hno.out j (by omega))
       clear hc
       generalize headN s = hv at *
       go_wp2
       go_roundg 0
       case measure => omega
       case rel => exact ⟨8, .inr (.inr (.inr (.inr (.inr (.inr (.inr (.inr (⟨rfl, rfl, rfl⟩)))))))), rfl, Hno⟩
   · go_wp2_with fail
     go_meet
     exact ⟨rfl, rfl, Hno⟩
 case rest =>
  obtain ⟨rfl, hw, Hno⟩ := hcut
  subst hw
  have hsh := short_none Hno.out
  clear Hno
  by_cases hu : headB s = 117
  · obtain ⟨q, rfl⟩ : ∃ q, s = 117 :: q := by
     cases s with
     | nil => exact absurd hu (by decide)
     | cons c q => exact ⟨q, by rw [show c = 117 from hu]⟩
    have HE := Lib.hid (show hexE (hexK (hexG 4 0 q)) = RR by rw [← HRR.out, escB_u])
    clear hsh hu HRR
    have Hrc := Lib.hid (H.out.keep HK0.out id)
    obtain ⟨a, ha, ⟨hbk, -⟩, hT, hsum, hn⟩ := Hrc.out.cons
    have Hn := Lib.hid hn
    have Hb := Lib.hid hbk
    have hai : (a : Int) ≤ 1000000 := by omega
    have c1 := (blk_cell hbk 1).trans rfl
    have hqT : q.length < T.size := by omega
    rw [show headN (117 :: q) = 117 from rfl]
    clear hbk hn ha hsum
    go_wp2_with (first
     | ((with_reducible refine at_store (t := 3) rfl ?_); go_must (refine ev_store (cs' := #[.string T, .int .i64 ((a : Int) + 1), .int .i64 (-1)]) rfl rfl rfl rfl rfl rfl HI.out.1 HI.out.2 rfl Hb.out (Nat.le_of_ble_eq_true rfl) rfl ?_; intro w1 hb1 hk1)
        have Hr1 := Lib.hid (Hn.out _ hb1)
        have HK1 := Lib.hid hk1
        clear hb1 hk1 c1
        (try simp only [PU]))
    )
    have HKq := Lib.hid ((HK0.out.mono (M' := (· = r)) (fun _ _ e => e.elim)).trans HK1.out (fun _ _ h => h))
    obtain ⟨R4, hR4⟩ : ∃ y, hexG 4 0 q = y := ⟨_, rfl⟩
    rw [hR4] at HE
    have HR4 := Lib.hid hR4
    clear hR4 Hb Hn hai H Hrc HK0 HK1
    go_loopg [5, 6] 4 (fun k nv iv wr => ∃ (i n : Nat) (s' : Bs), nv = .int .i64 n ∧ iv = .int .i64 i ∧ i + k = 4 ∧ n < 16 ^ i ∧ s'.length < T.size ∧ Hid (Rf wr r T (.ok s')) ∧ Hid (Keeps (· = r) w wr) ∧ Hid (hexG (4 - i) n s' = R4))
    case atStart => exact ⟨0, 0, q, rfl, rfl, rfl, by decide, hqT, Hr1, HKq, HR4⟩
    case round =>
     obtain ⟨i, n, s', rfl, rfl, hik, hn16, hsT, Hr, HK, HG⟩ := hrel
     have hp : 16 ^ i ≤ 65536 := by
      have := Nat.pow_le_pow_right (show 0 < 16 by decide) (show i ≤ 4 by omega)
      exact this
     have hni : (n : Int) ≤ 1000000 := by omega
     have Hn16 := Lib.hid hn16
     have Hik := Lib.hid hik
     clear hp hn16 hik
     obtain ⟨a, hbk, hsum, ha, -⟩ := Hr.out.good
     have c1 := (blk_cell hbk 1).trans rfl
     have c2 := (blk_cell hbk 2).trans rfl
     have Hb := Lib.hid hbk
     have hai : (a : Int) ≤ 1000000 := by have := Hr.out.len; omega
     by_cases hlt : i < 4
     · have hii : (i : Int) < 4 := by omega
       obtain ⟨d, hd⟩ : ∃ d, hexI (headB s') = d := ⟨_, rfl⟩
       have Hd := Lib.hid hd
       rw [show 4 - i = (3 - i) + 1 by omega] at HG
       have H82 := Lib.hid (peek82 Hr.out)
       rw [show headX (.ok s') = ((headB s').toNat : Int) from headN_B s'] at H82
       rcases hxd : hexD (headB s') with _ | dn
       · have hd1 : d = -1 := by rw [← hd]; unfold hexI; rw [hxd]
         subst hd1
         have HR2 := Lib.hid (show RR = .error s'.length by
          rw [← HE.out, ← HG.out]
          cases s' with
          | nil => rfl
          | cons c q' => unfold hexG; rw [show hexD c = none from hxd]; rfl)
         have Hfail := Lib.hid (fun W (hk : Keeps Nob wr W) => failG (Hr.out.keep hk id) s'.length Hr.out.le (a : Nat) (by rw [ha]))
         clear hd hxd hbk ha HG HE hsum
         go_wp2_with (first
          | (go_at_call 82; go_must (refine H82.out.mono ?_; rintro e w5 ⟨rfl, hk5⟩); have HK5 := Lib.hid hk5; clear hk5 c1; have Hb := Lib.hid (HK5.out.blk Hb.out id); have c1 := (blk_cell Hb.out 1).trans rfl; (try simp only [PU]))
          | (go_at_call 113; go_must (refine (hex113 _ _).mono ?_; rintro e w6 ⟨rfl, rfl⟩; rw [Hd.out]); (try simp only [PU]))
          | (go_at_call 50; go_must (refine (Hfail.out _ HK5.out).mono ?_; rintro e w2 ⟨⟨y, rfl⟩, hr2, hk2⟩); have Hr2 := Lib.hid hr2; have HK2 := Lib.hid hk2; clear hr2 hk2; (try simp only [PU]))
         )
         go_ret
         rw [HR2.out]
         exact ⟨⟨0, rfl, fun x hx => by cases hx⟩, Hr2.out, (HK.out.then HK5.out).trans HK2.out (fun _ _ h => h)⟩
       · have hdn : d = (dn : Int) := by rw [← hd]; unfold hexI; rw [hxd]
         subst hdn
         obtain ⟨c, q', rfl⟩ : ∃ c q', s' = c :: q' := by
          cases s' with
          | nil => exact absurd hxd (show ¬ (none : Option Nat) = some dn from fun e => by cases e)
          | cons c q' => exact ⟨c, q', rfl⟩
         have hdn15 : dn ≤ 15 := by
          rcases hexS (headB (c :: q')) with ⟨h, _⟩ | ⟨d', h, h2, _⟩
          · rw [h] at hxd; cases hxd
          · rw [h] at hxd; injection hxd with e; omega
         have hdni : 0 ≤ (dn : Int) ∧ (dn : Int) ≤ 15 := by omega
         obtain ⟨hd0, hd15⟩ := hdni
         have HG2 := Lib.hid (show hexG (3 - i) (n * 16 + dn) q' = R4 by rw [← HG.out]; conv => rhs; unfold hexG; rw [show hexD c = some dn from hxd])
         obtain ⟨a, ha2, ⟨hbk, -⟩, hT, hsum, hn⟩ := Hr.out.cons
         have Hn := Lib.hid hn
         have hai : (a : Int) ≤ 1000000 := by omega
         have c1 := (blk_cell hbk 1).trans rfl
         have c2 := (blk_cell hbk 2).trans rfl
         have Hb := Lib.hid hbk
         have hsT2 : q'.length < T.size := by omega
         clear hd hxd hbk HG HE hsum hn ha2 hdn15
         go_upto_region 21 with (first
          | (go_at_call 82; go_must (refine H82.out.mono ?_; rintro e w5 ⟨rfl, hk5⟩); have HK5 := Lib.hid hk5; clear hk5 c1; have Hb := Lib.hid (HK5.out.blk Hb.out id); have c1 := (blk_cell Hb.out 1).trans rfl; (try simp only [PU]))
          | (go_at_call 113; go_must (refine (hex113 _ _).mono ?_; rintro e w6 ⟨rfl, rfl⟩; rw [Hd.out]); (try simp only [PU]))
         )
         go_wp2_with (first
          | ((with_reducible refine at_store (t := 3) rfl ?_); go_must (refine ev_store (cs' := #[.string T, .int .i64 ((a : Int) + 1), .int .i64 (-1)]) rfl rfl rfl rfl rfl rfl HI.out.1 HI.out.2 rfl Hb.out (Nat.le_of_ble_eq_true rfl) rfl ?_; intro w1 hb1 hk1)
             have Hr1 := Lib.hid (Hn.out _ hb1)
             have HK1 := Lib.hid hk1
             clear hb1 hk1 c1
             (try simp only [PU]))
         )
         go_roundg (3 - i)
         case measure => have := Hik.out; omega
         case rel => exact ⟨i + 1, n * 16 + dn, q', by show Value.int .i64 (16 * (n : Int) + (dn : Int)) = _; congr 1; push_cast; omega, by rfl, by omega, by rw [Nat.pow_succ]; have := Hn16.out; omega, hsT2, Hr1, Lib.hid ((HK.out.then HK5.out).trans HK1.out (fun _ _ h => h)), by rw [show 4 - (i + 1) = 3 - i by omega]; exact HG2⟩
     · have hi4 : i = 4 := by have := Hik.out; omega
       subst hi4
       have hR4 : R4 = .ok (n, s') := by rw [← HG.out]; rfl
       by_cases h255 : n ≤ 255
       · have hn255 : (n : Int) ≤ 255 := by omega
         have HR2 := Lib.hid (show RR = .ok (UInt8.ofNat n, s') by rw [← HE.out, hR4]; show hexE (if 255 < n then .error (s'.length + 1) else .ok (n, s')) = _; rw [if_neg (by omega)]; rfl)
         have Hu := Lib.hid (u8_wrap n h255)
         clear hbk ha HG HE hsum hR4 h255
         go_wp2
         go_ret
         rw [HR2.out]
         exact ⟨⟨UInt8.ofNat n, congrArg (fun x => Ending.returned (Value.int IntKind.u8 x)) Hu.out.symm, fun x hx => by injection hx with hx; rw [← hx]⟩, Hr.out, HK.out⟩
       · have hn255 : ¬ (n : Int) ≤ 255 := by omega
         have hn256 : (255 : Int) < (n : Int) := by omega
         have HR2 := Lib.hid (show RR = .error (s'.length + 1) by rw [← HE.out, hR4]; show hexE (if 255 < n then .error (s'.length + 1) else .ok (n, s')) = _; rw [if_pos (by omega)]; rfl)
         have Hfail := Lib.hid (failG Hr.out (s'.length + 1) (by omega) ((a : Int) - 1) (by omega))
         obtain ⟨bz, hbz⟩ : ∃ y : Int, ((UInt8.ofNat n).toNat : Int) = y := ⟨_, rfl⟩
         have hwr : IntKind.u8.wrap (n : Int) = bz := by
          rw [← hbz]
          simp [IntKind.wrap, IntKind.bits, IntKind.signed]
         have Hbz := Lib.hid hbz
         clear hbk ha HG HE hsum hR4 h255 hbz
         go_wp2_with (first
          | (go_at_call 50; go_must (refine Hfail.out.mono ?_; rintro e w2 ⟨⟨y, rfl⟩, hr2, hk2⟩); have Hr2 := Lib.hid hr2; have HK2 := Lib.hid hk2; clear hr2 hk2; (try simp only [PU]))
         )
         go_ret
         rw [HR2.out]
         exact ⟨⟨UInt8.ofNat n, congrArg (fun x => Ending.returned (Value.int IntKind.u8 x)) Hbz.out.symm, fun x hx => by cases hx⟩, Hr2.out, HK.out.trans HK2.out (fun _ _ h => h)⟩
  · have hne : (headN s != 117) = true := by
     rw [headN_B]
     refine bne_iff_ne.2 (fun e => hu (UInt8.toNat_inj.1 ?_))
     have e2 : (117 : UInt8).toNat = 117 := rfl
     omega
    have HR2 := Lib.hid (show RR = .error s.length by rw [← HRR.out, escB_no s hsh hu])
    have Hrc := Lib.hid (H.out.keep HK0.out id)
    obtain ⟨a, hb, -, ha, -⟩ := Hrc.out.good
    have c1 := (blk_cell hb 1).trans rfl
    have Hfail := Lib.hid (fun W (hk : Keeps Nob w0 W) => failG (Hrc.out.keep hk id) s.length Hrc.out.le (a : Nat) (by rw [ha]))
    clear hu hb ha hsh HRR
    generalize headN s = hv at *
    go_wp2_with (first
     | (go_at_call 50; go_must (refine (Hfail.out _ (Keeps.refl Nob _)).mono ?_; rintro e w2 ⟨⟨y, rfl⟩, hr2, hk2⟩); have Hr2 := Lib.hid hr2; have HK2 := Lib.hid hk2; clear hr2 hk2; (try simp only [PU]))
    )
    go_ret
    rw [HR2.out]
    exact ⟨⟨0, rfl, fun x hx => by cases hx⟩, Hr2.out, (HK0.out.mono (fun _ _ e => e.elim)).trans HK2.out (fun _ _ h => h)⟩
end Go.Proofs.WV

namespace Go.Proofs.KL
open Go.RowKit Go.Proofs.WM
set_option maxRecDepth 100000
set_option linter.unusedVariables false

theorem run_conv_bs {P : Program} {W : World} {src dst : TypeId} (hs : P.underlying src = some (.slice 5)) (h5 : P.underlying 5 = some (.int .u8)) (hd : P.underlying dst = some .string)
  {A : Option Addr} {n c : Nat} {bs : Bs} {X : Nat → Prop} (hb : BytesX W X (.slice A n c) bs) : (convert src dst (.slice A n c)).run P W = .ok (.string (mkB bs)) W := by
 have hr := run_convert_bytes_string (P := P) W src dst 5 A n c hs h5 hd
 rw [hr]
 have hn : n = bs.length := by obtain ⟨_, _, e, _⟩ := hb; injection e
 cases A with
 | none =>
   have : bs = [] := by
    cases bs with
    | nil => rfl
    | cons b bs => obtain ⟨_, _, e2, _, hx⟩ := hb; obtain ⟨b', o', e, _⟩ := hx 0 (by simp); injection e2 with e2 _ _; rw [← e2] at e; cases e
   subst this
   rfl
 | some ad =>
   have hl : (loadCells ad n).run P W = .ok ((bs.map fun c => (c.toNat : Int)).map (Value.int .u8)).toArray W := by
    have e : ((bs.map fun c => (c.toNat : Int)).map (Value.int .u8)) = bs.map byteV := by rw [List.map_map]; rfl
    rw [e]
    rcases Nat.eq_zero_or_pos n with h0 | h0
    · have : bs = [] := List.eq_nil_of_length_eq_zero (by omega)
      subst this
      rw [h0]
      simp [loadCells, loadCellsFrom]
    · obtain ⟨ad', e', hnw⟩ := hb.news h0
      injection e' with e'
      subst e'
      have := run_loadCells_list (P := P) W ad (bs.map byteV) hnw
      rw [List.length_map, ← hn] at this
      exact this
   rw [run_bytesToString W ad n c _ hl, fold_push]
   rfl
def subA (A : Option Addr) (l c : Nat) : Option Addr := if c = l then A else A.map (·.add l)
theorem run_sub {P : Program} {t : TypeId} (ht : ByteT P t) (A : Option Addr) (n c l h : Nat) (hlh : l ≤ h) (hh : h ≤ c) (w : World) :
  (Instr.slice t (.slice A n c) (some (.int .i64 l)) (some (.int .i64 h)) none).run P w = .ok (.slice (subA A l c) (h - l) (c - l)) w := by
 obtain ⟨i, hi, hz⟩ := Option.map_eq_some_iff.1 ht.info
 simp only [Prod.mk.injEq] at hz
 have e1 : (0 : Int) ≤ (l : Int) ∧ (l : Int) ≤ (h : Int) := by omega
 have e2 : (0 : Int) ≤ (h : Int) ∧ (h : Int) ≤ (c : Int) := by omega
 simp [Instr.slice, run_underlying ht.under, Instr.sliceBounds, Instr.sliceBound, asIntOf, e1, e2, hlh, hh, sizeOf, typeInfo, hi, hz.2.1, subA]
theorem run_sub_h {P : Program} {t : TypeId} (ht : ByteT P t) (A : Option Addr) (n c h : Nat) (hh : h ≤ c) (w : World) :
  (Instr.slice t (.slice A n c) none (some (.int .i64 h)) none).run P w = .ok (.slice (subA A 0 c) h c) w := by
 obtain ⟨i, hi, hz⟩ := Option.map_eq_some_iff.1 ht.info
 simp only [Prod.mk.injEq] at hz
 have e2 : (0 : Int) ≤ (h : Int) ∧ (h : Int) ≤ (c : Int) := by omega
 simp [Instr.slice, run_underlying ht.under, Instr.sliceBounds, Instr.sliceBound, asIntOf, e2, hh, sizeOf, typeInfo, hi, subA]
theorem run_sub_l {P : Program} {t : TypeId} (ht : ByteT P t) (A : Option Addr) (n c l : Nat) (hl : l ≤ n) (w : World) :
  (Instr.slice t (.slice A n c) (some (.int .i64 l)) none none).run P w = .ok (.slice (subA A l c) (n - l) (c - l)) w := by
 obtain ⟨i, hi, hz⟩ := Option.map_eq_some_iff.1 ht.info
 simp only [Prod.mk.injEq] at hz
 have e2 : (0 : Int) ≤ (l : Int) ∧ (l : Int) ≤ (n : Int) := by omega
 simp [Instr.slice, run_underlying ht.under, Instr.sliceBounds, Instr.sliceBound, asIntOf, e2, hl, sizeOf, typeInfo, hi, hz.2.1, subA]
theorem BytesX.sub {W : World} {X : Nat → Prop} {A : Option Addr} {n c : Nat} {s : Bs} (hb : BytesX W X (.slice A n c) s) {l h : Nat} (hlh : l ≤ h) (hh : h ≤ n) : BytesX W X (.slice (subA A l c) (h - l) (c - l)) ((s.drop l).take (h - l)) := by
 obtain ⟨A', c', e, hc, hx⟩ := hb
 injection e with e1 e2 e3
 subst e1; subst e2; subst e3
 have hlen : ((s.drop l).take (h - l)).length = h - l := by rw [List.length_take, List.length_drop]; omega
 refine ⟨subA A l c, c - l, by rw [hlen], by omega, fun i hi => ?_⟩
 rw [hlen] at hi
 obtain ⟨b, o, rfl, hX, hcell⟩ := hx (l + i) (by omega)
 have hg : ((s.drop l).take (h - l)).getD i 0 = s.getD (l + i) 0 := by
  rw [List.getD_eq_getElem?_getD, List.getD_eq_getElem?_getD, List.getElem?_take, if_pos hi, List.getElem?_drop]
 rw [hg]
 refine ⟨b, o + l, ?_, hX, by rw [Nat.add_assoc]; exact hcell⟩
 unfold subA
 rw [if_neg (by omega)]
 simp [Addr.add]
theorem BytesX.len {W : World} {X : Nat → Prop} {A : Option Addr} {n c : Nat} {s : Bs} (hb : BytesX W X (.slice A n c) s) : n = s.length ∧ n ≤ c := by
 obtain ⟨A', c', e, hc, hx⟩ := hb
 injection e with e1 e2 e3
 subst e2; subst e3
 exact ⟨rfl, hc⟩
theorem BytesX.at {W : World} {X : Nat → Prop} {A : Option Addr} {n c : Nat} {s : Bs} (hb : BytesX W X (.slice A n c) s) (h0 : 0 < n) : ∃ b o, A = some ⟨b, o, none⟩ ∧ X b ∧ ∀ i, i < n → W.cell? ⟨b, o + i, none⟩ = some (byteV (s.getD i 0)) := by
 obtain ⟨A', c', e, hc, hx⟩ := hb
 injection e with e1 e2 e3
 subst e1; subst e2; subst e3
 obtain ⟨b, o, rfl, hX, -⟩ := hx 0 h0
 refine ⟨b, o, rfl, hX, fun i hi => ?_⟩
 obtain ⟨b', o', e, -, hcell⟩ := hx i hi
 injection e with e
 injection e with e1 e2
 subst e1; subst e2
 exact hcell
theorem BytesX.nums {W : World} {X : Nat → Prop} {A : Option Addr} {n c : Nat} {s : Bs} (hb : BytesX W X (.slice A n c) s) : Lib.BytesIn W A n (s.map fun c => (c.toNat : Int)) := fun h0 => by
 obtain ⟨b, o, e, -, hx⟩ := hb.at h0
 obtain ⟨hn, -⟩ := hb.len
 refine ⟨b, o, e, fun i hi => ?_⟩
 rw [hx i hi, List.getD_eq_getElem?_getD, List.getD_eq_getElem?_getD, List.getElem?_map, List.getElem?_eq_getElem (by omega)]
 rfl
theorem bytesOf_nums (s : Bs) : Lib.bytesOf (s.map fun c => (c.toNat : Int)) = s := by
 unfold Lib.bytesOf
 rw [List.map_map]
 refine (List.map_congr_left (g := id) (fun c _ => ?_)).trans (List.map_id s)
 simp
section
variable {P : Program} {ops : Array Oper} {rest : List Oper} {o : Oper} {a : Act} {Q : Exit → Act → World → Prop}
theorem ev_ung {W : World} {d : Option Tmp} {op : Op} {ty : TypeId} {pos : String} {af : Array Edge} {gd : Option (Nat × Bool)} (hw : Region.wanted ⟨d, op, ty, pos, af, gd⟩ (yielded ops a.tmps) = true)
  (h : wpList P ops Q (⟨d, op, ty, pos, af, none⟩ :: rest) a W) : wpList P ops Q (⟨d, op, ty, pos, af, gd⟩ :: rest) a W := by
 unfold wpList at h ⊢
 rw [if_pos hw]
 rw [if_pos (by simp [Region.wanted])] at h
 exact h
theorem run_sliceAt_b {t : TypeId} (ht : ByteT P t) (x : Value) (lo hi mx : Option Value) (w : World) : (Instr.sliceAt t x lo hi mx).run P w = (Instr.slice t x lo hi mx).run P w := by
 simp [Instr.sliceAt, run_underlying ht.under]
theorem freeze1_keeps (W : World) (g k : Nat) : Keeps (· = g) W (W.freeze ⟨g, k, none⟩ 1) := by
 unfold World.freeze
 rw [if_neg (by decide)]
 exact ⟨rfl, rfl, rfl, by simp, fun k _ hn => by simp only [Array.getElem?_modify]; rw [if_neg (fun e => hn e.symm)]⟩
theorem ev_conv_same {W : World} (hgd : o.guard = none) {x : Operand} {t : TypeId} (ho : o.op = .convert t t x) (ht : ByteT P t) (h5 : P.underlying 5 = some (.int .u8)) {g n c : Nat} {cs : Array Value} (hx : a.eval x = .slice (some ⟨g, 0, none⟩) n c) (hg : W.heap[g]? = some (.cells cs 5 (0, 0)))
  (h : ∀ w1, w1.heap[g]? = some (.cells cs 5 (cs.size, cs.size + 1)) → Keeps (· = g) W w1 → wpList P ops Q rest (a.put o.dst (.slice (some ⟨g, 0, none⟩) n c)) w1) : wpList P ops Q (o :: rest) a W := by
 have hsh : W.shape? g = some (5, cs.size) := by simp [World.shape?, hg]
 refine ev_run hgd (v := .slice (some ⟨g, 0, none⟩) n c) (w1 := W.freeze ⟨g, cs.size, none⟩ 1) ?_ (h _ ?_ (freeze1_keeps W g _))
 · simp [execOp, ho, hx, convert, run_underlying ht.under, run_underlying h5, markStringish, hsh]
 · have hs := (Array.getElem?_eq_some_iff.1 hg).1
   simp [World.freeze, Array.getElem?_modify, hg]
theorem ev_sub {W : World} (hgd : o.guard = none) {x lo hi : Operand} {t : TypeId} (ho : o.op = .slice t x (some lo) (some hi) none) (ht : ByteT P t) {A : Option Addr} {n c l h : Nat} (hx : a.eval x = .slice A n c) (hlo : a.eval lo = .int .i64 l) (hhi : a.eval hi = .int .i64 h) (hlh : l ≤ h) (hh : h ≤ c)
  (k : wpList P ops Q rest (a.put o.dst (.slice (subA A l c) (h - l) (c - l))) W) : wpList P ops Q (o :: rest) a W := by
 refine ev_run hgd (v := .slice (subA A l c) (h - l) (c - l)) (w1 := W) ?_ k
 simp [execOp, ho, hx, hlo, hhi, run_sliceAt_b ht, run_sub ht A n c l h hlh hh]
theorem ev_sub_h {W : World} (hgd : o.guard = none) {x hi : Operand} {t : TypeId} (ho : o.op = .slice t x none (some hi) none) (ht : ByteT P t) {A : Option Addr} {n c h : Nat} (hx : a.eval x = .slice A n c) (hhi : a.eval hi = .int .i64 h) (hh : h ≤ c)
  (k : wpList P ops Q rest (a.put o.dst (.slice (subA A 0 c) h c)) W) : wpList P ops Q (o :: rest) a W := by
 refine ev_run hgd (v := .slice (subA A 0 c) h c) (w1 := W) ?_ k
 simp [execOp, ho, hx, hhi, run_sliceAt_b ht, run_sub_h ht A n c h hh]
theorem ev_sub_l {W : World} (hgd : o.guard = none) {x lo : Operand} {t : TypeId} (ho : o.op = .slice t x (some lo) none none) (ht : ByteT P t) {A : Option Addr} {n c l : Nat} (hx : a.eval x = .slice A n c) (hlo : a.eval lo = .int .i64 l) (hl : l ≤ n)
  (k : wpList P ops Q rest (a.put o.dst (.slice (subA A l c) (n - l) (c - l))) W) : wpList P ops Q (o :: rest) a W := by
 refine ev_run hgd (v := .slice (subA A l c) (n - l) (c - l)) (w1 := W) ?_ k
 simp [execOp, ho, hx, hlo, run_sliceAt_b ht, run_sub_l ht A n c l hl]
end
end Go.Proofs.KL

namespace Go.Proofs.WM

inductive Fr where
 | bad
 | part
 | whole (x rest : Bs)
def beginB : Bs := [76, 101, 110, 103, 116, 104, 58, 32]
def neckB : Bs := [13, 10, 13, 10]
def neckF (n : Nat) : Bs → Bs → Fr
 | [], r => if r.length < n then .part else .whole (r.take n) (r.drop n)
 | _ :: _, [] => .part
 | c :: w, d :: r => if d = c then neckF n w r else .bad
def sizeF : Bool → Nat → Bs → Fr
 | _, _, [] => .part
 | any, n, c :: r =>
   if isDigit c then (if (any = true ∧ n = 0) ∨ 1000000 < n * 10 + digB c then .bad else sizeF true (n * 10 + digB c) r)
   else if any = false then .bad else neckF n neckB (c :: r)
def headF : Bs → Bs → Fr
 | [], r => sizeF false 0 r
 | _ :: _, [] => .part
 | c :: w, d :: r => if d = c then headF w r else .bad
def frameB (b : Bs) : Fr := headF beginB b
theorem neckF_len {n : Nat} : ∀ {w r x y : Bs}, neckF n w r = .whole x y → y.length + x.length + w.length = r.length ∧ x.length = n
 | [], r, x, y, h => by
   unfold neckF at h
   split at h
   · cases h
   · rename_i hn
     injection h with h1 h2; subst h1; subst h2
     simp only [List.length_take, List.length_drop, List.length_nil]
     omega
 | c :: w, [], x, y, h => by unfold neckF at h; cases h
 | c :: w, d :: r, x, y, h => by
   unfold neckF at h
   split at h
   · have := neckF_len h; simp only [List.length_cons]; omega
   · cases h
theorem sizeF_len : ∀ {r x y : Bs} {any : Bool} {n : Nat}, sizeF any n r = .whole x y → y.length + x.length < r.length
 | [], x, y, any, n, h => by unfold sizeF at h; cases h
 | c :: r, x, y, any, n, h => by
   unfold sizeF at h
   split at h
   · split at h
     · cases h
     · have := sizeF_len h; simp only [List.length_cons]; omega
   · split at h
     · cases h
     · have := neckF_len h; simp only [List.length_cons, neckB] at this ⊢; simp only [List.length_nil] at this; omega
theorem headF_len : ∀ {w r x y : Bs}, headF w r = .whole x y → y.length + x.length < r.length
 | [], r, x, y, h => sizeF_len h
 | c :: w, [], x, y, h => by unfold headF at h; cases h
 | c :: w, d :: r, x, y, h => by
   unfold headF at h
   split at h
   · have := headF_len h; simp only [List.length_cons]; omega
   · cases h
structure Fed where
 out : List Bs
 waits : Bs
 dead : Bool
def feedF : Nat → List Bs → Bs → Fed
 | 0, out, w => ⟨out, w, false⟩
 | f + 1, out, w => match frameB w with
   | .bad => ⟨out, [], true⟩
   | .part => ⟨out, w, false⟩
   | .whole x r => feedF f (out ++ [x]) r
def feedB (waits b : Bs) : Fed := feedF ((waits ++ b).length + 1) [] (waits ++ b)

end Go.Proofs.WM

namespace Go.Proofs.WM

def numH : Bool → Nat → Bs → Option (Bool × Nat × Bs)
 | any, n, [] => some (any, n, [])
 | any, n, c :: r => if isDigit c then (if (any = true ∧ n = 0) ∨ 1000000 < n * 10 + digB c then none else numH true (n * 10 + digB c) r) else some (any, n, c :: r)
def tailH (len : Nat) : Option (Bool × Nat × Bs) → Nat × Nat × Bool × Bool
 | none => (0, 0, false, false)
 | some (any, n, r) => if r = [] then (0, 0, false, true) else if any = false ∨ (r.take 4).isPrefixOf neckB = false then (0, 0, false, false) else (len - r.length + 4, n, decide (4 ≤ r.length), true)
def headH (s : Bs) : Nat × Nat × Bool × Bool := if s.take 8 = beginB.take s.length then tailH s.length (numH false 0 (s.drop 8)) else (0, 0, false, false)
theorem numH_suf : ∀ {r : Bs} {any : Bool} {n : Nat} {x : Bool × Nat × Bs}, numH any n r = some x → n ≤ 1000000 → x.2.1 ≤ 1000000 ∧ ∃ p, r = p ++ x.2.2
 | [], any, n, x, h, hn => by unfold numH at h; injection h with h; subst h; exact ⟨hn, [], rfl⟩
 | c :: r, any, n, x, h, hn => by
   unfold numH at h
   split at h
   · split at h
     · cases h
     · rename_i h2
       obtain ⟨h3, p, hp⟩ := numH_suf h (by omega)
       exact ⟨h3, c :: p, by rw [hp]; rfl⟩
   · injection h with h; subst h; exact ⟨hn, [], rfl⟩
theorem sizeF_num : ∀ (r : Bs) (any : Bool) (n : Nat), sizeF any n r = match numH any n r with
  | none => .bad
  | some x => if x.2.2 = [] then .part else if x.1 = false then .bad else neckF x.2.1 neckB x.2.2
 | [], any, n => by unfold sizeF numH; simp
 | c :: r, any, n => by
   unfold sizeF numH
   split
   · split
     · rfl
     · exact sizeF_num r true _
   · simp
theorem headF_begin : ∀ (w s : Bs), headF w s = if s.take w.length = w.take s.length then sizeF false 0 (s.drop w.length) else .bad
 | [], s => by unfold headF; simp
 | c :: w, [] => by unfold headF sizeF; simp
 | c :: w, d :: s => by
   unfold headF
   rw [headF_begin w s]
   simp only [List.length_cons, List.take_succ_cons, List.cons.injEq, List.drop_succ_cons]
   by_cases h : d = c
   · simp [h]
   · simp [h]
theorem neckF_take (n : Nat) : ∀ (w r : Bs), neckF n w r = if (r.take w.length).isPrefixOf w = false then .bad else if r.length < w.length ∨ r.length < w.length + n then .part else .whole ((r.drop w.length).take n) (r.drop (w.length + n))
 | [], r => by unfold neckF; simp
 | c :: w, [] => by unfold neckF; simp
 | c :: w, d :: r => by
   unfold neckF
   rw [neckF_take n w r]
   simp only [List.length_cons, List.take_succ_cons, List.isPrefixOf, List.drop_succ_cons, Bool.and_eq_false_iff, beq_eq_false_iff_ne]
   by_cases h : d = c
   · subst h
     rw [if_pos rfl]
     rw [show w.length + 1 + n = (w.length + n) + 1 by omega, List.drop_succ_cons]
     simp
   · rw [if_neg h, if_pos (.inl h)]
def frOf (s : Bs) (x : Nat × Nat × Bool × Bool) : Fr := if x.2.2.2 = false then .bad else if x.2.2.1 = false ∨ s.length < x.1 + x.2.1 then .part else .whole ((s.drop x.1).take x.2.1) (s.drop (x.1 + x.2.1))
theorem frame_head (s : Bs) : frameB s = frOf s (headH s) := by
 unfold frameB headH
 rw [headF_begin, show beginB.length = 8 from rfl]
 by_cases hb : s.take 8 = beginB.take s.length
 · rw [if_pos hb, if_pos hb, sizeF_num]
   rcases hn : numH false 0 (s.drop 8) with _ | ⟨any, n, r⟩
   · rfl
   · simp only [tailH]
     by_cases hr : r = []
     · rw [if_pos hr, if_pos hr]; rfl
     · rw [if_neg hr, if_neg hr]
       rcases any with _ | _
       · rfl
       · rw [if_neg (by decide), neckF_take, show neckB.length = 4 from rfl]
         obtain ⟨-, p, hp⟩ := numH_suf hn (by omega)
         rcases hpre : (r.take 4).isPrefixOf neckB with _ | _
         · simp [frOf]
         · simp only [Bool.true_eq_false, or_self, if_false, frOf]
           have hs : s = (s.take 8 ++ p) ++ r := by rw [List.append_assoc, ← hp, List.take_append_drop]
           have hl : s.length = (s.take 8 ++ p).length + r.length := by rw [← List.length_append, ← hs]
           have hd : ∀ k, s.drop (s.length - r.length + k) = r.drop k := fun k => by
            rw [show s.length - r.length + k = (s.take 8 ++ p).length + k by omega]
            generalize s.take 8 ++ p = u at *
            subst hs
            rw [List.drop_append, List.drop_of_length_le (by omega), List.nil_append, show u.length + k - u.length = k by omega]
           rw [show s.length - r.length + 4 + n = s.length - r.length + (4 + n) by omega, hd, hd]
           have h1 : r.length ≤ s.length := by omega
           by_cases h4 : 4 ≤ r.length
           · simp only [h4, decide_true, Bool.true_eq_false, false_or]
             by_cases hln : r.length < 4 + n
             · rw [if_pos (.inr hln), if_pos (by omega)]
             · rw [if_neg (by omega), if_neg (by omega)]
           · rw [if_pos (.inl (by omega)), if_pos (.inl (by simpa using h4))]
 · rw [if_neg hb, if_neg hb]; rfl
end Go.Proofs.WM
