/-
  The plain law of what Read and Write answer, in parts. No program in sight; no condition.
-/
import Derived.Test.YtcmmnbipaemgiaaDoorAl0
namespace Go.Proofs.WV
open Go.Proofs.KL Go.Proofs.WM

theorem readW_ok {T : ByteArray} {j : J} (hl : T.size ≤ 1000000) (hr : readJ (bl T) = .ok j) (hc : checkJ j = 0) : readW T = (j, 0, 0) := by
  unfold readW
  rw [if_neg (by omega), hr]
  simp only [hc, if_true]
theorem readW_err {T : ByteArray} {a : Nat} (hl : T.size ≤ 1000000) (hr : readJ (bl T) = .error a) : readW T = (zJ, (a : Int), 4) := by
  unfold readW
  rw [if_neg (by omega), hr]
theorem writeJ_ok {j : J} (h : checkJ j = 0) : writeJ j = (textJ j, 0) := by
  unfold checkJ at h
  unfold writeJ
  split at h
  · cases h
  split at h
  · cases h
  · rename_i h1 h2
    rw [if_neg h1, if_neg h2]
end Go.Proofs.WV

/-
  The plain law of layer 30 (wire): how large a value is, as the laws count it. No program in sight; no condition.
-/
namespace Go.Proofs.WM

mutual
def sizeS : J → Nat → Nat
  | .mk _ _ _ t ks vs, left => goS (1 + t.size + ks.length + (ks.map ByteArray.size).sum) left vs
def goS : Nat → Nat → List J → Nat
  | n, _, [] => n
  | n, left, v :: r => if left < n then n else goS (n + sizeS v (left - n)) left r
end
mutual
theorem sizeS_le : ∀ (j : J) (left : Nat), sizeS j left ≤ sizeJ j ∧ (sizeS j left ≤ left → sizeS j left = sizeJ j)
  | .mk k b n t ks vs, left => by
    have h := goS_le vs (1 + t.size + ks.length + (ks.map ByteArray.size).sum) left
    unfold sizeS sizeJ
    exact h
theorem goS_le : ∀ (vs : List J) (n left : Nat), goS n left vs ≤ n + sizeL vs ∧ (goS n left vs ≤ left → goS n left vs = n + sizeL vs)
  | [], n, left => by unfold goS sizeL; exact ⟨by omega, fun _ => by omega⟩
  | v :: r, n, left => by
    unfold goS sizeL
    by_cases h : left < n
    · rw [if_pos h]; exact ⟨by omega, fun h' => by omega⟩
    · rw [if_neg h]
      have h1 := sizeS_le v (left - n)
      have h2 := goS_le r (n + sizeS v (left - n)) left
      have h3 : n + sizeS v (left - n) ≤ goS (n + sizeS v (left - n)) left r := goS_ge r _ _
      refine ⟨by omega, fun h' => ?_⟩
      have := h2.2 h'
      have := h1.2 (by omega)
      omega
theorem goS_ge : ∀ (vs : List J) (n left : Nat), n ≤ goS n left vs
  | [], n, left => by unfold goS; exact Nat.le_refl _
  | v :: r, n, left => by
    unfold goS
    split
    · exact Nat.le_refl _
    · have := goS_ge r (n + sizeS v (left - n)) left
      omega
end
/-- Counted up to a bound, it passes the bound if and only if the value does. -/
theorem sizeS_iff (j : J) (left : Nat) : left < sizeS j left ↔ left < sizeJ j := by
  have h := sizeS_le j left
  constructor
  · intro h'; omega
  · intro h'
    rcases Nat.lt_or_ge left (sizeS j left) with h2 | h2
    · exact h2
    · have := h.2 h2; omega
theorem sum_take (ks : List ByteArray) (j : Nat) (hj : j < ks.length) : ((ks.take (j + 1)).map ByteArray.size).sum = ((ks.take j).map ByteArray.size).sum + (ks.getD j ByteArray.empty).size := by
  rw [List.take_succ_eq_append_getElem hj, List.map_append, List.sum_append, List.getD_eq_getElem?_getD, List.getElem?_eq_getElem hj]
  simp
theorem sum_take_le (ks : List ByteArray) (j : Nat) : ((ks.take j).map ByteArray.size).sum ≤ (ks.map ByteArray.size).sum := by
  have : (ks.map ByteArray.size).sum = ((ks.take j).map ByteArray.size).sum + ((ks.drop j).map ByteArray.size).sum := by
    rw [← List.sum_append, ← List.map_append, List.take_append_drop]
  omega
theorem dropJ {vs : List J} {j : Nat} (hj : j < vs.length) : vs.drop j = vs.getD j default :: vs.drop (j + 1) := by
  rw [List.drop_eq_getElem_cons hj, List.getD_eq_getElem?_getD, List.getElem?_eq_getElem hj]
  rfl
end Go.Proofs.WM

/-
  How large a value is (Size), by the specification, in memory. Condition: the value lies; its size is not greater than an int counts.
-/
namespace Go.Proofs.WV
open Go.RowKit Go.Proofs.KL Go.Proofs.WM
set_option maxRecDepth 100000
set_option linter.unusedSimpArgs false
set_option linter.unusedVariables false

set_option maxHeartbeats 4000000 in
theorem size34 {w : World} {X : Nat → Prop} {v : Value} {j : J} (h : JX w X v j) : ∀ W (left : Nat), Keeps Nob w W → sizeJ j ≤ 1000000000000 → left ≤ 1000000000000 → Calls Tryd.prog 34 #[v, .int .i64 left] W fun e w' => e = .returned (.int .i64 (sizeS j left)) ∧ Keeps Nob W w' := by
  induction h with
  | mk k b n t ks vs kv A c u h1 hc hA hv ih =>
    intro W left hW hb hleft
    obtain ⟨i25, hi25, hs25⟩ := info25
    have HI := Lib.hid (And.intro hi25 hs25)
    have HA := Lib.hid hA
    have IH := Lib.hid ih
    have HV := Lib.hid hv
    have HW := Lib.hid hW
    obtain ⟨kA, kc, rfl, hkc, hkx⟩ := id h1
    have HKX := Lib.hid hkx
    have Hb := Lib.hid (show 1 + t.size + ks.length + (ks.map ByteArray.size).sum + sizeL vs ≤ 1000000000000 by have h' := hb; unfold sizeJ at h'; exact h')
    obtain ⟨R, hR⟩ : ∃ x, sizeS (.mk k b n t ks vs) left = x := ⟨_, rfl⟩
    rw [hR]
    have HR := Lib.hid (show goS (1 + t.size + ks.length + (ks.map ByteArray.size).sum) left vs = R by rw [← hR]; unfold sizeS; rfl)
    have Hsz := Lib.hid (show vs.length ≤ sizeL vs from size_len vs)
    obtain ⟨kl, hkl⟩ : ∃ x, ks.length = x := ⟨_, rfl⟩
    have Hkl := Lib.hid hkl
    obtain ⟨len, hlen⟩ : ∃ x, vs.length = x := ⟨_, rfl⟩
    have Hlen := Lib.hid hlen
    have hbk : (t.size : Int) ≤ 1000000000000 ∧ (kl : Int) ≤ 1000000000000 ∧ (len : Int) ≤ 1000000000000 := by have h1 := Hb.out; have h2 := Hsz.out; omega
    obtain ⟨hbt, hbk, hbl⟩ := hbk
    rw [hlen, hkl]
    rw [hkl] at hkc
    clear h1 hc hA hv ih hW hlen hkl hi25 hs25 hR hkx hb
    go_enter Tryd.func34, Tryd.ntmps34
    go_wp2_with (first
      | ((with_reducible refine at_dst (N := 2) rfl ?_); go_must (refine ev_box (cs := #[.int .i64 k, .bool b, .int .i64 n, .string t, .slice kA kl kc, .slice A len c]) rfl rfl rfl ?_; intro g1 w1 hg1 hl1 hb1 hk1)
         have v3 := (blk_cell hb1 3).trans rfl
         have v4 := (blk_cell hb1 4).trans rfl
         have v5 := (blk_cell hb1 5).trans rfl
         have Hb1 := Lib.hid hb1
         have HK1 := Lib.hid hk1
         clear hb1 hk1
         (try simp only [PU]))
    )
    obtain ⟨n0, hn0⟩ : ∃ x : Nat, 1 + t.size + kl = x := ⟨_, rfl⟩
    have Hn0 := Lib.hid hn0
    have hn0i : 1 + (t.size : Int) + (kl : Int) = (n0 : Int) := by omega
    rw [hn0i]
    clear hn0 hn0i v3 v4
    go_loopw [21, 5] (fun iv nv wr => ∃ i : Nat, iv = .int .i64 i ∧ i ≤ kl ∧ nv = .int .i64 ((n0 + ((ks.take i).map ByteArray.size).sum : Nat) : Int) ∧ Hid (wr = w1)) (fun iv _ _ => kl - (intOf iv).toNat)
    case atStart => exact ⟨0, rfl, Nat.zero_le _, by simp, Lib.hid rfl⟩
    case round =>
      obtain ⟨i, rfl, hi, rfl, Hw⟩ := hrel
      have hw : w1 = wr := Hw.out.symm
      subst hw
      by_cases hlt : i < kl
      · obtain ⟨b', o, rfl, -, hcell⟩ := HKX.out i (by rw [Hkl.out]; exact hlt)
        have kc0 := (HW.out.trans HK1.out (fun _ _ h => h)).cell hcell id
        have hst := sum_take ks i (by rw [Hkl.out]; exact hlt)
        have hsl := sum_take_le ks (i + 1)
        obtain ⟨key, hkey⟩ : ∃ x, ks.getD i ByteArray.empty = x := ⟨_, rfl⟩
        rw [hkey] at kc0 hst
        obtain ⟨m, hm⟩ : ∃ x, n0 + ((ks.take i).map ByteArray.size).sum = x := ⟨_, rfl⟩
        have hmb : (m : Int) ≤ 1000000000000 ∧ (key.size : Int) ≤ 1000000000000 := by have h1 := Hb.out; have h2 := Hn0.out; have h3 := Hkl.out; omega
        obtain ⟨hmb1, hmb2⟩ := hmb
        have Hst := Lib.hid (show n0 + ((ks.take (i + 1)).map ByteArray.size).sum = m + key.size by omega)
        rw [hm]
        clear hcell hst hsl hkey hm
        go_wp2
        go_roundw
        case rel => exact ⟨i + 1, by go_num, by omega, by rw [Hst.out] <;> (congr 1), by first | exact Lib.hid rfl | exact Lib.hid trivial⟩
        case measure => simp [intOf]; omega
      · have hi' : i = kl := by omega
        subst hi'
        have htl := List.take_length (l := ks)
        rw [Hkl.out] at htl
        rw [htl]
        obtain ⟨m, hm⟩ : ∃ x, n0 + (ks.map ByteArray.size).sum = x := ⟨_, rfl⟩
        have HG0 := Lib.hid (show goS m left vs = R by rw [← HR.out, ← hm, ← Hn0.out, Hkl.out])
        have Hm := Lib.hid (show m + sizeL vs ≤ 1000000000000 by have h1 := Hb.out; have h2 := Hn0.out; have h3 := Hkl.out; omega)
        rw [hm]
        clear htl hm
        go_wp2
        go_loopw [33, 5] (fun iv nv wr => ∃ i n1 : Nat, iv = .int .i64 i ∧ i ≤ len ∧ nv = .int .i64 n1 ∧ Hid (goS n1 left (vs.drop i) = R) ∧ Hid (n1 + sizeL (vs.drop i) ≤ 1000000000000) ∧ Hid (Keeps Nob W wr)) (fun iv _ _ => len - (intOf iv).toNat)
        case atStart => exact ⟨0, m, rfl, Nat.zero_le _, rfl, HG0, Hm, HK1⟩
        case round =>
          obtain ⟨i, n1, rfl, hi, rfl, HG, Hn1, HKr⟩ := hrel
          by_cases hlt : i < len
          · have hdrop := dropJ (vs := vs) (j := i) (by rw [Hlen.out]; exact hlt)
            obtain ⟨b', o, rfl, -, h6⟩ := HA.out i (by rw [Hlen.out]; exact hlt)
            obtain ⟨⟨e0, e1, e2⟩, e3, e4, e5⟩ := h6.keep (HW.out.trans HKr.out (fun _ _ h => h)) id
            have hg := HG.out
            have hnn := Hn1.out
            rw [hdrop] at hg hnn
            unfold goS at hg
            unfold sizeL at hnn
            have hsix := (HV.out i (by rw [Hlen.out]; exact hlt)).six
            have hrun := IH.out i (by rw [Hlen.out]; exact hlt)
            have hsle := (sizeS_le (vs.getD i default) (left - n1)).1
            generalize vs.getD i default = vj at *
            have hn1i : (n1 : Int) ≤ 1000000000000 := by omega
            generalize u i 0 = x0 at *
            generalize u i 1 = x1 at *
            generalize u i 2 = x2 at *
            generalize u i 3 = x3 at *
            generalize u i 4 = x4 at *
            generalize u i 5 = x5 at *
            obtain ⟨y0, y1, y2, y3, yA, yn, yc, yB, ym, yd, ⟨rfl, rfl, rfl⟩, rfl, rfl, rfl⟩ := hsix
            have hleftI : (left : Int) ≤ 1000000000000 := by omega
            by_cases hout : left < n1
            · rw [if_pos hout] at hg
              have HRR := Lib.hid hg
              have hti : (left : Int) < (n1 : Int) := by omega
              clear hg hnn hrun hsle hdrop h6 hout
              go_wp2_with (first
                | ((with_reducible refine at_dst (N := 9) rfl ?_); go_must (refine ev_alloc rfl rfl zero25 rfl ?_; intro g5 w2 hg5 hl5 hb5 hk5)
                   have Hb5 := Lib.hid hb5
                   have HK2 := Lib.hid hk5
                   clear hb5 hk5
                   (try simp only [PU]))
                | ((with_reducible refine at_store (t := 25) (p := 9) rfl ?_); go_must (refine ev_store (cs' := #[.int .i64 y0, .bool y1, .int .i64 y2, .string y3, .slice yA yn yc, .slice yB ym yd]) rfl rfl rfl rfl rfl rfl HI.out.1 HI.out.2 rfl Hb5.out (Nat.le_of_ble_eq_true rfl) rfl ?_; intro w3 hb3 hk3)
                   have s0 := (blk_cell hb3 0).trans rfl
                   have s1 := (blk_cell hb3 1).trans rfl
                   have s2 := (blk_cell hb3 2).trans rfl
                   have s3 := (blk_cell hb3 3).trans rfl
                   have s4 := (blk_cell hb3 4).trans rfl
                   have s5 := (blk_cell hb3 5).trans rfl
                   have HK3 := Lib.hid (show Keeps Nob W w3 from HKr.out.trans (HK2.out.own hk3 hg5) (fun _ _ h => h))
                   clear hb3 hk3
                   (try simp only [PU]))
              )
              go_ret
              rw [← HRR.out]
              exact ⟨rfl, HK3.out⟩
            · rw [if_neg hout] at hg
              have hti : ¬ (left : Int) < (n1 : Int) := by omega
              have hsub : (left : Int) - (n1 : Int) = ((left - n1 : Nat) : Int) := by omega
              have Hrun := Lib.hid (fun W' hk => hrun W' (left - n1) hk (by omega) (by omega))
              obtain ⟨d, hd⟩ : ∃ d, left - n1 = d := ⟨_, rfl⟩
              rw [hd] at hg hsub Hrun hsle
              obtain ⟨m1, hm1⟩ : ∃ m, sizeS vj d = m := ⟨_, rfl⟩
              rw [hm1] at hg hsle
              have Hm1 := Lib.hid hm1
              have HGn := Lib.hid hg
              have hm1i : (m1 : Int) ≤ 1000000000000 := by omega
              have Hnn := Lib.hid (show n1 + m1 + sizeL (vs.drop (i + 1)) ≤ 1000000000000 by omega)
              clear hg hnn hrun hsle hdrop h6 hout hd hm1
              go_wp2_with (first
                | ((with_reducible refine at_dst (N := 9) rfl ?_); go_must (refine ev_alloc rfl rfl zero25 rfl ?_; intro g5 w2 hg5 hl5 hb5 hk5)
                   have Hb5 := Lib.hid hb5
                   have HK2 := Lib.hid hk5
                   clear hb5 hk5
                   (try simp only [PU]))
                | ((with_reducible refine at_store (t := 25) (p := 9) rfl ?_); go_must (refine ev_store (cs' := #[.int .i64 y0, .bool y1, .int .i64 y2, .string y3, .slice yA yn yc, .slice yB ym yd]) rfl rfl rfl rfl rfl rfl HI.out.1 HI.out.2 rfl Hb5.out (Nat.le_of_ble_eq_true rfl) rfl ?_; intro w3 hb3 hk3)
                   have s0 := (blk_cell hb3 0).trans rfl
                   have s1 := (blk_cell hb3 1).trans rfl
                   have s2 := (blk_cell hb3 2).trans rfl
                   have s3 := (blk_cell hb3 3).trans rfl
                   have s4 := (blk_cell hb3 4).trans rfl
                   have s5 := (blk_cell hb3 5).trans rfl
                   have HK3 := Lib.hid (show Keeps Nob W w3 from HKr.out.trans (HK2.out.own hk3 hg5) (fun _ _ h => h))
                   clear hb3 hk3
                   (try simp only [PU]))
                | (go_at_call 34; go_must (refine (Hrun.out w3 (HW.out.trans HK3.out (fun _ _ h => h))).mono ?_; rintro e w4 ⟨rfl, hk4⟩); rw [Hm1.out]; have HK4 := Lib.hid (HK3.out.trans hk4 (fun _ _ h => h)); clear hk4; (try simp only [PU]))
              )
              go_roundw
              case rel => exact ⟨i + 1, n1 + m1, by go_num, by omega, by first | rfl | (congr 1), HGn, Hnn, HK4⟩
              case measure => simp [intOf]; omega
          · have hi' : i = len := by omega
            subst hi'
            have HRR := Lib.hid (show n1 = R by
              have hg := HG.out
              rw [List.drop_of_length_le (by rw [Hlen.out]; exact Nat.le_refl _)] at hg
              unfold goS at hg
              exact hg)
            go_wp2
            go_ret
            rw [← HRR.out]
            exact ⟨rfl, HKr.out⟩
end Go.Proofs.WV

/-
  The laws' small, by the program, in memory. Condition: the values lie; their sizes are not greater than an int counts.
-/
namespace Go.Proofs.WV
open Go.RowKit Go.Proofs.KL Go.Proofs.WM
set_option maxRecDepth 100000
set_option linter.unusedSimpArgs false
set_option linter.unusedVariables false

def smallJ (vs : List J) : Bool := vs.all fun j => decide (sizeJ j ≤ 3000)
set_option maxHeartbeats 4000000 in
theorem small12 {W : World} {X : Nat → Prop} {A : Option Addr} {len c : Nat} {vs : List J} (h : JsX W X (.slice A len c) vs) (hb : ∀ j ∈ vs, sizeJ j ≤ 1000000000000) (hlen : len ≤ 1000000000) : Calls Tryd.prog 12 #[.slice A len c] W fun e w' => e = .returned (.bool (smallJ vs)) ∧ Keeps Nob W w' := by
  obtain ⟨A', c', u, e, hc, hA, hv⟩ := h
  injection e with e1 e2 e3
  subst e1; subst e3
  obtain ⟨i25, hi25, hs25⟩ := info25
  have HI := Lib.hid (And.intro hi25 hs25)
  have Hlen := Lib.hid e2
  have HA := Lib.hid hA
  have HV := Lib.hid hv
  have Hb := Lib.hid hb
  obtain ⟨R, hR⟩ : ∃ x, smallJ vs = x := ⟨_, rfl⟩
  have HR := Lib.hid hR
  rw [hR]
  have hli : (len : Int) ≤ 1000000000 := by omega
  clear e2 hA hv hb hR hi25 hs25 hc
  go_enter Tryd.func12, Tryd.ntmps12
  go_wp2
  go_loopw [7] (fun iv wr => ∃ i : Nat, iv = .int .i64 i ∧ i ≤ len ∧ Hid (smallJ (vs.drop i) = R) ∧ Hid (Keeps Nob W wr)) (fun iv _ => len - (intOf iv).toNat)
  case atStart => exact ⟨0, rfl, Nat.zero_le _, HR, Lib.hid (Keeps.refl _ _)⟩
  case round =>
    obtain ⟨i, rfl, hi, HG, HKr⟩ := hrel
    by_cases hlt : i < len
    · have hdrop := dropJ (vs := vs) (j := i) (by rw [← Hlen.out]; exact hlt)
      obtain ⟨b', o, rfl, -, h6⟩ := HA.out i (by rw [← Hlen.out]; exact hlt)
      obtain ⟨⟨e0, e1, e2⟩, e3, e4, e5⟩ := h6.keep HKr.out id
      have hg := HG.out
      rw [hdrop] at hg
      have hg' : (decide (sizeJ (vs.getD i default) ≤ 3000) && smallJ (vs.drop (i + 1))) = R := hg
      have hjx := HV.out i (by rw [← Hlen.out]; exact hlt)
      have hsix := hjx.six
      have hbv := Hb.out (vs.getD i default) (by
        rw [List.getD_eq_getElem?_getD, List.getElem?_eq_getElem (by rw [← Hlen.out]; exact hlt)]
        exact List.getElem_mem _)
      have hsi := sizeS_iff (vs.getD i default) 3000
      have hsb := (sizeS_le (vs.getD i default) 3000).1
      have Hrun := Lib.hid (fun W' (hk : Keeps Nob W W') => size34 hjx W' 3000 hk hbv (by decide))
      generalize vs.getD i default = vj at *
      generalize u i 0 = x0 at *
      generalize u i 1 = x1 at *
      generalize u i 2 = x2 at *
      generalize u i 3 = x3 at *
      generalize u i 4 = x4 at *
      generalize u i 5 = x5 at *
      obtain ⟨y0, y1, y2, y3, yA, yn, yc, yB, ym, yd, ⟨rfl, rfl, rfl⟩, rfl, rfl, rfl⟩ := hsix
      obtain ⟨m, hm⟩ : ∃ m, sizeS vj 3000 = m := ⟨_, rfl⟩
      rw [hm] at hsi hsb
      have Hm := Lib.hid hm
      by_cases hbig : 3000 < m
      · have HRR := Lib.hid (show false = R by rw [← hg', decide_eq_false (by have := hsi.1 hbig; omega)]; rfl)
        have hmi : (3000 : Int) < (m : Int) := by omega
        clear hg hg' hdrop h6 hsi hsb hm hjx hbv hbig
        go_wp2_with (first
          | ((with_reducible refine at_dst (N := 4) rfl ?_); go_must (refine ev_alloc rfl rfl zero25 rfl ?_; intro g5 w2 hg5 hl5 hb5 hk5)
             have Hb5 := Lib.hid hb5
             have HK2 := Lib.hid hk5
             clear hb5 hk5
             (try simp only [PU]))
          | ((with_reducible refine at_store (t := 25) (p := 4) rfl ?_); go_must (refine ev_store (cs' := #[.int .i64 y0, .bool y1, .int .i64 y2, .string y3, .slice yA yn yc, .slice yB ym yd]) rfl rfl rfl rfl rfl rfl HI.out.1 HI.out.2 rfl Hb5.out (Nat.le_of_ble_eq_true rfl) rfl ?_; intro w3 hb3 hk3)
             have s0 := (blk_cell hb3 0).trans rfl
             have s1 := (blk_cell hb3 1).trans rfl
             have s2 := (blk_cell hb3 2).trans rfl
             have s3 := (blk_cell hb3 3).trans rfl
             have s4 := (blk_cell hb3 4).trans rfl
             have s5 := (blk_cell hb3 5).trans rfl
             have HK3 := Lib.hid (show Keeps Nob W w3 from HKr.out.trans (HK2.out.own hk3 hg5) (fun _ _ h => h))
             clear hb3 hk3
             (try simp only [PU]))
          | (go_at_call 34; go_must (refine (Hrun.out w3 HK3.out).mono ?_; rintro e w4 ⟨rfl, hk4⟩); rw [Hm.out]; have HK4 := Lib.hid (HK3.out.trans hk4 (fun _ _ h => h)); clear hk4; (try simp only [PU]))
        )
        go_ret
        rw [← HRR.out]
        exact ⟨rfl, HK4.out⟩
      · have HRR := Lib.hid (show smallJ (vs.drop (i + 1)) = R by rw [← hg', decide_eq_true (by rcases Nat.lt_or_ge 3000 (sizeJ vj) with h | h; exact absurd (hsi.2 h) hbig; exact h)]; rfl)
        have hmi : ¬ (3000 : Int) < (m : Int) := by omega
        clear hg hg' hdrop h6 hsi hsb hm hjx hbv hbig
        go_wp2_with (first
          | ((with_reducible refine at_dst (N := 4) rfl ?_); go_must (refine ev_alloc rfl rfl zero25 rfl ?_; intro g5 w2 hg5 hl5 hb5 hk5)
             have Hb5 := Lib.hid hb5
             have HK2 := Lib.hid hk5
             clear hb5 hk5
             (try simp only [PU]))
          | ((with_reducible refine at_store (t := 25) (p := 4) rfl ?_); go_must (refine ev_store (cs' := #[.int .i64 y0, .bool y1, .int .i64 y2, .string y3, .slice yA yn yc, .slice yB ym yd]) rfl rfl rfl rfl rfl rfl HI.out.1 HI.out.2 rfl Hb5.out (Nat.le_of_ble_eq_true rfl) rfl ?_; intro w3 hb3 hk3)
             have s0 := (blk_cell hb3 0).trans rfl
             have s1 := (blk_cell hb3 1).trans rfl
             have s2 := (blk_cell hb3 2).trans rfl
             have s3 := (blk_cell hb3 3).trans rfl
             have s4 := (blk_cell hb3 4).trans rfl
             have s5 := (blk_cell hb3 5).trans rfl
             have HK3 := Lib.hid (show Keeps Nob W w3 from HKr.out.trans (HK2.out.own hk3 hg5) (fun _ _ h => h))
             clear hb3 hk3
             (try simp only [PU]))
          | (go_at_call 34; go_must (refine (Hrun.out w3 HK3.out).mono ?_; rintro e w4 ⟨rfl, hk4⟩); rw [Hm.out]; have HK4 := Lib.hid (HK3.out.trans hk4 (fun _ _ h => h)); clear hk4; (try simp only [PU]))
        )
        go_roundw
        case rel => exact ⟨i + 1, by go_num, by omega, HRR, HK4⟩
        case measure => simp [intOf]; omega
    · have hi' : i = len := by omega
      subst hi'
      have HRR := Lib.hid (show true = R by
        have hg := HG.out
        rw [List.drop_of_length_le (by rw [← Hlen.out]; exact Nat.le_refl _)] at hg
        exact hg)
      go_wp2
      go_ret
      rw [← HRR.out]
      exact ⟨rfl, HKr.out⟩
end Go.Proofs.WV

/-
  The law WireBack, by the program, in memory. Condition: the standard library's table of powers lies; the value lies, of a size that an int counts.
-/
namespace Go.Proofs.WV
open Go.RowKit Go.Proofs.KL Go.Proofs.WM
set_option maxRecDepth 100000
set_option linter.unusedSimpArgs false
set_option linter.unusedVariables false

theorem js1 {w : World} {X : Nat → Prop} {g : Nat} {x0 x1 x2 x3 x4 x5 : Value} {a : J} (hg : w.heap[g]? = some (.cells #[x0, x1, x2, x3, x4, x5] 25 (0, 0))) (hX : X g) (ha : JX w X (.agg #[x0, x1, x2, x3, x4, x5]) a) :
    JsX w X (.slice (some ⟨g, 0, none⟩) 1 1) [a] := by
  refine ⟨some ⟨g, 0, none⟩, 1, fun i k => [x0, x1, x2, x3, x4, x5].getD k lz, rfl, Nat.le_refl _, fun i hi => ⟨g, 0, rfl, hX, ?_⟩, fun i hi => ?_⟩
  · have hi' : i < 1 := hi
    match i, hi' with
    | 0, _ => exact ⟨⟨(blk_cell hg _).trans rfl, (blk_cell hg _).trans rfl, (blk_cell hg _).trans rfl⟩, (blk_cell hg _).trans rfl, (blk_cell hg _).trans rfl, (blk_cell hg _).trans rfl⟩
  · have hi' : i < 1 := hi
    match i, hi' with
    | 0, _ => exact ha
/-- What the law compares. -/
theorem back_plain {j : J} (hs : sizeJ j ≤ 3000) (hc : checkJ j = 0) : writeJ j = (textJ j, 0) ∧ readW (mkB (textJ j)) = (j, 0, 0) := by
  have hf : formedJ j = true ∧ levelsJ j ≤ 40 := by
    unfold checkJ at hc
    split at hc
    · cases hc
    split at hc
    · cases hc
    · rename_i h1 h2
      exact ⟨by simpa using h1, by omega⟩
  have ht := text_size j hf.1
  exact ⟨writeJ_ok hc, readW_ok (by show (textJ j).length ≤ _; omega) (readJ_text hf.1 hf.2) hc⟩
theorem small_one (j : J) : smallJ [j] = decide (sizeJ j ≤ 3000) := by unfold smallJ; simp
set_option maxHeartbeats 8000000 in
theorem WireBack_any {w : World} {v : Value} {j : J} (ht : Tab w w.heap.size) (h : JX w (fun _ => True) v j) (hb : sizeJ j ≤ 100000000) : Calls Tryd.prog 6 #[v] w fun e w' => e = .returned (.bool true) ∧ Keeps Nob w w' := by
  obtain ⟨jk, jb, jn, jt, ks, vs, kv, vv, hjj, rfl, hjk, hjv⟩ := h.open
  obtain ⟨kA, kc, rfl, -, -⟩ := id hjk
  obtain ⟨vA, vc, ru, rfl, -, -, -⟩ := id hjv
  generalize ks.length = kl at *
  generalize vs.length = vl at *
  obtain ⟨i25, hi25, hs25⟩ := info25
  have HI := Lib.hid (And.intro hi25 hs25)
  have HT := Lib.hid ht
  have HV := Lib.hid h.low
  have HJ := Lib.hid (show sizeJ j ≤ 10000000000 ∧ sizeJ j ≤ 1000000000000 by omega)
  have H12 := Lib.hid (fun (W' : World) (g9 : Nat) (hg : W'.heap[g9]? = some (.cells #[.int .i64 jk, .bool jb, .int .i64 jn, .string jt, .slice kA kl kc, .slice vA vl vc] 25 (0, 0))) (hx : JX W' (fun b => b < w.heap.size) (.agg #[.int .i64 jk, .bool jb, .int .i64 jn, .string jt, .slice kA kl kc, .slice vA vl vc]) j) =>
    small12 (js1 (X := fun _ => True) hg trivial (hx.keep (Keeps.refl Nob W') (fun _ _ _ => id) (fun _ _ _ => trivial))) (by simp only [List.mem_cons, List.not_mem_nil, or_false]; rintro j' rfl; omega) (by decide))
  rw [small_one] at H12
  clear ht h hjk hjv hi25 hs25
  by_cases hsm : sizeJ j ≤ 3000
  · have Hsm := Lib.hid (decide_eq_true hsm)
    by_cases hc : checkJ j = 0
    · obtain ⟨p1, p2⟩ := back_plain hsm hc
      have h15 : ∀ W X v, JX W X v j → Tab W W.heap.size → Calls Tryd.prog 15 #[v] W fun e w' => e = .returned (.tuple #[.string (mkB (textJ j)), .int .i64 0]) ∧ Keeps Nob W w' := fun W X v h ht => by
        have := write15 h ht HJ.out.1
        rw [p1] at this
        exact this
      have h18 := fun W ht => Read_any (w := W) (T := mkB (textJ j)) ht
      rw [p2] at h18
      generalize mkB (textJ j) = S at *
      have H15 := Lib.hid h15
      have H18 := Lib.hid h18
      have Hsame := Lib.hid (show sameJ j j = true from (sameJ_iff _ _).2 rfl)
      clear hsm hc p1 p2 h15 h18 hjj hb
      go_enter Tryd.func6, Tryd.ntmps6
      go_upto_region 7 with (first
        | ((with_reducible refine at_dst (N := 1) rfl ?_); go_must (refine ev_box (cs := #[.int .i64 jk, .bool jb, .int .i64 jn, .string jt, .slice kA kl kc, .slice vA vl vc]) rfl rfl rfl ?_; intro g1 w1 hg1 hl1 hb1 hk1)
           have Hb1 := Lib.hid hb1
           have HV := Lib.hid (HV.out.after hk1)
           have HK := Lib.hid hk1
           have s0 := (blk_cell Hb1.out 0).trans rfl
           have s1 := (blk_cell Hb1.out 1).trans rfl
           have s2 := (blk_cell Hb1.out 2).trans rfl
           have s3 := (blk_cell Hb1.out 3).trans rfl
           have s4 := (blk_cell Hb1.out 4).trans rfl
           have s5 := (blk_cell Hb1.out 5).trans rfl
           clear hb1 hk1 hg1 hl1
           (try simp only [PU]))
        | ((with_reducible refine at_dst (N := 9) rfl ?_); go_must (refine ev_slice (cs := #[.int .i64 jk, .bool jb, .int .i64 jn, .string jt, .slice kA kl kc, .slice vA vl vc]) (t := 25) (n := 1) (c := 1) rfl (by first | (go_simp; done) | (go_simp; rfl)) ?_; intro g9 w2 hg2 hl2 hb2 hk2)
           have Hb9 := Lib.hid hb2
           have Hb1 := Lib.hid (hk2.blk Hb1.out id)
           have HV := Lib.hid (HV.out.after hk2)
           have HK := Lib.hid (HK.out.trans hk2 (fun _ _ h => h))
           clear hb2 hk2 hg2 hl2 s0 s1 s2 s3 s4 s5
           have s0 := (blk_cell Hb1.out 0).trans rfl
           have s1 := (blk_cell Hb1.out 1).trans rfl
           have s2 := (blk_cell Hb1.out 2).trans rfl
           have s3 := (blk_cell Hb1.out 3).trans rfl
           have s4 := (blk_cell Hb1.out 4).trans rfl
           have s5 := (blk_cell Hb1.out 5).trans rfl
           (try simp only [PU]))
        | (go_at_call 12; go_must (refine (H12.out _ _ Hb9.out HV.out).mono ?_; rintro e w3 ⟨rfl, hk3⟩; rw [Hsm.out])
           have Hb1 := Lib.hid (hk3.blk Hb1.out id)
           have HV := Lib.hid (HV.out.after hk3)
           have HK := Lib.hid (HK.out.trans hk3 (fun _ _ h => h))
           clear hk3 s0 s1 s2 s3 s4 s5
           have s0 := (blk_cell Hb1.out 0).trans rfl
           have s1 := (blk_cell Hb1.out 1).trans rfl
           have s2 := (blk_cell Hb1.out 2).trans rfl
           have s3 := (blk_cell Hb1.out 3).trans rfl
           have s4 := (blk_cell Hb1.out 4).trans rfl
           have s5 := (blk_cell Hb1.out 5).trans rfl
           (try simp only [PU]))
        | (go_at_call 15; go_must (refine (H15.out _ _ _ HV.out (Tab.after HT.out HK.out)).mono ?_; rintro e w4 ⟨rfl, hk4⟩)
           have Hb1 := Lib.hid (hk4.blk Hb1.out id)
           have HV := Lib.hid (HV.out.after hk4)
           have HK := Lib.hid (HK.out.trans hk4 (fun _ _ h => h))
           clear hk4 s0 s1 s2 s3 s4 s5
           have s0 := (blk_cell Hb1.out 0).trans rfl
           have s1 := (blk_cell Hb1.out 1).trans rfl
           have s2 := (blk_cell Hb1.out 2).trans rfl
           have s3 := (blk_cell Hb1.out 3).trans rfl
           have s4 := (blk_cell Hb1.out 4).trans rfl
           have s5 := (blk_cell Hb1.out 5).trans rfl
           (try simp only [PU]))
        | (go_at_call 18; go_must (refine (H18.out _ (Tab.after HT.out HK.out)).mono ?_; rintro e w5 ⟨⟨v1, rfl, hv1⟩, hk5⟩; obtain ⟨xk, xb, xn, xt, xks, xvs, xkv, xvv, hxj, rfl, hxk, hxv⟩ := hv1.open; obtain ⟨xkA, xkc, rfl, -, -⟩ := hxk; obtain ⟨xvA, xvc, xu, rfl, -, -, -⟩ := hxv)
           have HV2 := Lib.hid hv1.low
           have Hb1 := Lib.hid (hk5.blk Hb1.out id)
           have HV := Lib.hid (HV.out.after hk5)
           have HK := Lib.hid (HK.out.trans hk5 (fun _ _ h => h))
           clear hk5 hv1 hxj s0 s1 s2 s3 s4 s5
           generalize xks.length = xkl at *
           generalize xvs.length = xvl at *
           (try simp only [PU]))
        | ((with_reducible refine at_dst (N := 5) rfl ?_); go_must (refine ev_alloc rfl rfl zero25 rfl ?_; intro g5 w6 hg hl hb6 hk)
           have Hb5 := Lib.hid hb6
           have Hg5 := Lib.hid (show w.heap.size ≤ g5 ∧ g1 < g5 from ⟨Nat.le_trans HK.out.size hg, Nat.lt_of_lt_of_le (blk_lt Hb1.out) hg⟩)
           have HV2 := Lib.hid (HV2.out.keep (X' := fun b => b < g5) hk (fun _ _ _ => id) (fun b hb hx => Nat.lt_of_lt_of_le hx hg))
           have Hb1 := Lib.hid (hk.blk Hb1.out id)
           have HV := Lib.hid (HV.out.after hk)
           have HK := Lib.hid (HK.out.trans hk (fun _ _ h => h))
           clear hb6 hk hg hl
           (try simp only [PU]))
        | ((with_reducible refine at_store (t := 25) (p := 5) rfl ?_); go_must (refine ev_store (cs' := #[.int .i64 xk, .bool xb, .int .i64 xn, .string xt, .slice xkA xkl xkc, .slice xvA xvl xvc]) rfl rfl rfl rfl rfl rfl HI.out.1 HI.out.2 rfl Hb5.out (Nat.le_of_ble_eq_true rfl) rfl ?_; intro w7 hb7 hk)
           have Hb5 := Lib.hid hb7
           have HV2 := Lib.hid (HV2.out.keep (X' := fun b => b < g5) hk (fun b _ hb e => by omega) (fun _ _ h => h))
           have HV := Lib.hid (HV.out.keep (X' := fun b => b < w.heap.size) hk (fun b _ hb e => by have := Hg5.out; omega) (fun _ _ h => h))
           have Hb1 := Lib.hid (hk.blk Hb1.out (fun e : g1 = g5 => by have := Hg5.out; omega))
           have HK := Lib.hid (show Keeps Nob w w7 from HK.out.trans hk (fun i hi e => by have := Hg5.out; omega))
           clear hb7 hk
           (try simp only [PU]))
      )
      have s0 := (blk_cell Hb1.out 0).trans rfl
      have s1 := (blk_cell Hb1.out 1).trans rfl
      have s2 := (blk_cell Hb1.out 2).trans rfl
      have s3 := (blk_cell Hb1.out 3).trans rfl
      have s4 := (blk_cell Hb1.out 4).trans rfl
      have s5 := (blk_cell Hb1.out 5).trans rfl
      have r0 := (blk_cell Hb5.out 0).trans rfl
      have r1 := (blk_cell Hb5.out 1).trans rfl
      have r2 := (blk_cell Hb5.out 2).trans rfl
      have r3 := (blk_cell Hb5.out 3).trans rfl
      have r4 := (blk_cell Hb5.out 4).trans rfl
      have r5 := (blk_cell Hb5.out 5).trans rfl
      go_wp2_with (first
        | (go_at_call 23; go_must (refine (same23 HV.out _ _ HV2.out _ (Keeps.refl Nob _) HJ.out.2 HJ.out.2).mono ?_; rintro e w8 ⟨rfl, hk8⟩; rw [Hsame.out]); have HK := Lib.hid (HK.out.trans hk8 (fun _ _ h => h)); clear hk8; (try simp only [PU]))
        | (go_at_call 13; go_must (refine (alive13 (Tab.after HT.out HK.out)).mono ?_; rintro e w9 ⟨rfl, hk9⟩); have HKz := Lib.hid (HK.out.trans hk9 (fun _ _ h => h)); clear hk9; (try simp only [PU]))
      )
      go_ret
      exact ⟨rfl, HKz.out⟩
    · have h15 : ∀ W X v, JX W X v j → Tab W W.heap.size → Calls Tryd.prog 15 #[v] W fun e w' => e = .returned (.tuple #[.string (mkB (writeJ j).1), .int .i64 (checkJ j)]) ∧ Keeps Nob W w' := fun W X v h ht => by
        have := write15 h ht HJ.out.1
        rw [← writeJ_check]
        exact this
      generalize mkB (writeJ j).1 = S at *
      obtain ⟨ck, hck⟩ : ∃ c, checkJ j = c := ⟨_, rfl⟩
      rw [hck] at h15 hc
      have hcb : (ck == 0) = false := beq_eq_false_iff_ne.2 hc
      have H15 := Lib.hid h15
      clear hsm h15 hjj hb hck
      go_enter Tryd.func6, Tryd.ntmps6
      go_wp2_with (first
        | ((with_reducible refine at_dst (N := 1) rfl ?_); go_must (refine ev_box (cs := #[.int .i64 jk, .bool jb, .int .i64 jn, .string jt, .slice kA kl kc, .slice vA vl vc]) rfl rfl rfl ?_; intro g1 w1 hg1 hl1 hb1 hk1)
           have Hb1 := Lib.hid hb1
           have HV := Lib.hid (HV.out.after hk1)
           have HK := Lib.hid hk1
           have s0 := (blk_cell Hb1.out 0).trans rfl
           have s1 := (blk_cell Hb1.out 1).trans rfl
           have s2 := (blk_cell Hb1.out 2).trans rfl
           have s3 := (blk_cell Hb1.out 3).trans rfl
           have s4 := (blk_cell Hb1.out 4).trans rfl
           have s5 := (blk_cell Hb1.out 5).trans rfl
           clear hb1 hk1 hg1 hl1
           (try simp only [PU]))
        | ((with_reducible refine at_dst (N := 9) rfl ?_); go_must (refine ev_slice (cs := #[.int .i64 jk, .bool jb, .int .i64 jn, .string jt, .slice kA kl kc, .slice vA vl vc]) (t := 25) (n := 1) (c := 1) rfl (by first | (go_simp; done) | (go_simp; rfl)) ?_; intro g9 w2 hg2 hl2 hb2 hk2)
           have Hb9 := Lib.hid hb2
           have Hb1 := Lib.hid (hk2.blk Hb1.out id)
           have HV := Lib.hid (HV.out.after hk2)
           have HK := Lib.hid (HK.out.trans hk2 (fun _ _ h => h))
           clear hb2 hk2 hg2 hl2 s0 s1 s2 s3 s4 s5
           have s0 := (blk_cell Hb1.out 0).trans rfl
           have s1 := (blk_cell Hb1.out 1).trans rfl
           have s2 := (blk_cell Hb1.out 2).trans rfl
           have s3 := (blk_cell Hb1.out 3).trans rfl
           have s4 := (blk_cell Hb1.out 4).trans rfl
           have s5 := (blk_cell Hb1.out 5).trans rfl
           (try simp only [PU]))
        | (go_at_call 12; go_must (refine (H12.out _ _ Hb9.out HV.out).mono ?_; rintro e w3 ⟨rfl, hk3⟩; rw [Hsm.out])
           have Hb1 := Lib.hid (hk3.blk Hb1.out id)
           have HV := Lib.hid (HV.out.after hk3)
           have HK := Lib.hid (HK.out.trans hk3 (fun _ _ h => h))
           clear hk3 s0 s1 s2 s3 s4 s5
           have s0 := (blk_cell Hb1.out 0).trans rfl
           have s1 := (blk_cell Hb1.out 1).trans rfl
           have s2 := (blk_cell Hb1.out 2).trans rfl
           have s3 := (blk_cell Hb1.out 3).trans rfl
           have s4 := (blk_cell Hb1.out 4).trans rfl
           have s5 := (blk_cell Hb1.out 5).trans rfl
           (try simp only [PU]))
        | (go_at_call 15; go_must (refine (H15.out _ _ _ HV.out (Tab.after HT.out HK.out)).mono ?_; rintro e w4 ⟨rfl, hk4⟩)
           have Hb1 := Lib.hid (hk4.blk Hb1.out id)
           have HV := Lib.hid (HV.out.after hk4)
           have HK := Lib.hid (HK.out.trans hk4 (fun _ _ h => h))
           clear hk4 s0 s1 s2 s3 s4 s5
           have s0 := (blk_cell Hb1.out 0).trans rfl
           have s1 := (blk_cell Hb1.out 1).trans rfl
           have s2 := (blk_cell Hb1.out 2).trans rfl
           have s3 := (blk_cell Hb1.out 3).trans rfl
           have s4 := (blk_cell Hb1.out 4).trans rfl
           have s5 := (blk_cell Hb1.out 5).trans rfl
           (try simp only [PU]))
        | (go_at_call 13; go_must (refine (alive13 (Tab.after HT.out HK.out)).mono ?_; rintro e w9 ⟨rfl, hk9⟩); have HKz := Lib.hid (HK.out.trans hk9 (fun _ _ h => h)); clear hk9; (try simp only [PU]))
      )
      go_ret
      exact ⟨rfl, HKz.out⟩
  · have Hsm := Lib.hid (decide_eq_false hsm)
    have H15 := Lib.hid True.intro
    clear hsm hjj hb
    go_enter Tryd.func6, Tryd.ntmps6
    go_wp2_with (first
      | ((with_reducible refine at_dst (N := 1) rfl ?_); go_must (refine ev_box (cs := #[.int .i64 jk, .bool jb, .int .i64 jn, .string jt, .slice kA kl kc, .slice vA vl vc]) rfl rfl rfl ?_; intro g1 w1 hg1 hl1 hb1 hk1)
         have Hb1 := Lib.hid hb1
         have HV := Lib.hid (HV.out.after hk1)
         have HK := Lib.hid hk1
         have s0 := (blk_cell Hb1.out 0).trans rfl
         have s1 := (blk_cell Hb1.out 1).trans rfl
         have s2 := (blk_cell Hb1.out 2).trans rfl
         have s3 := (blk_cell Hb1.out 3).trans rfl
         have s4 := (blk_cell Hb1.out 4).trans rfl
         have s5 := (blk_cell Hb1.out 5).trans rfl
         clear hb1 hk1 hg1 hl1
         (try simp only [PU]))
      | ((with_reducible refine at_dst (N := 9) rfl ?_); go_must (refine ev_slice (cs := #[.int .i64 jk, .bool jb, .int .i64 jn, .string jt, .slice kA kl kc, .slice vA vl vc]) (t := 25) (n := 1) (c := 1) rfl (by first | (go_simp; done) | (go_simp; rfl)) ?_; intro g9 w2 hg2 hl2 hb2 hk2)
         have Hb9 := Lib.hid hb2
         have Hb1 := Lib.hid (hk2.blk Hb1.out id)
         have HV := Lib.hid (HV.out.after hk2)
         have HK := Lib.hid (HK.out.trans hk2 (fun _ _ h => h))
         clear hb2 hk2 hg2 hl2 s0 s1 s2 s3 s4 s5
         have s0 := (blk_cell Hb1.out 0).trans rfl
         have s1 := (blk_cell Hb1.out 1).trans rfl
         have s2 := (blk_cell Hb1.out 2).trans rfl
         have s3 := (blk_cell Hb1.out 3).trans rfl
         have s4 := (blk_cell Hb1.out 4).trans rfl
         have s5 := (blk_cell Hb1.out 5).trans rfl
         (try simp only [PU]))
      | (go_at_call 12; go_must (refine (H12.out _ _ Hb9.out HV.out).mono ?_; rintro e w3 ⟨rfl, hk3⟩; rw [Hsm.out])
         have Hb1 := Lib.hid (hk3.blk Hb1.out id)
         have HV := Lib.hid (HV.out.after hk3)
         have HK := Lib.hid (HK.out.trans hk3 (fun _ _ h => h))
         clear hk3 s0 s1 s2 s3 s4 s5
         have s0 := (blk_cell Hb1.out 0).trans rfl
         have s1 := (blk_cell Hb1.out 1).trans rfl
         have s2 := (blk_cell Hb1.out 2).trans rfl
         have s3 := (blk_cell Hb1.out 3).trans rfl
         have s4 := (blk_cell Hb1.out 4).trans rfl
         have s5 := (blk_cell Hb1.out 5).trans rfl
         (try simp only [PU]))
      | (go_at_call 15; go_must (refine (H15.out _ _ _ HV.out (Tab.after HT.out HK.out)).mono ?_; rintro e w4 ⟨rfl, hk4⟩)
         have Hb1 := Lib.hid (hk4.blk Hb1.out id)
         have HV := Lib.hid (HV.out.after hk4)
         have HK := Lib.hid (HK.out.trans hk4 (fun _ _ h => h))
         clear hk4 s0 s1 s2 s3 s4 s5
         have s0 := (blk_cell Hb1.out 0).trans rfl
         have s1 := (blk_cell Hb1.out 1).trans rfl
         have s2 := (blk_cell Hb1.out 2).trans rfl
         have s3 := (blk_cell Hb1.out 3).trans rfl
         have s4 := (blk_cell Hb1.out 4).trans rfl
         have s5 := (blk_cell Hb1.out 5).trans rfl
         (try simp only [PU]))
      | (go_at_call 13; go_must (refine (alive13 (Tab.after HT.out HK.out)).mono ?_; rintro e w9 ⟨rfl, hk9⟩); have HKz := Lib.hid (HK.out.trans hk9 (fun _ _ h => h)); clear hk9; (try simp only [PU]))
    )
    go_ret
    exact ⟨rfl, HKz.out⟩
end Go.Proofs.WV

/-
  What is formed, by the specification (formed): the whole, in memory. Condition: the value lies, and is not larger than an int counts.
-/
namespace Go.Proofs.WV
open Go.RowKit Go.Proofs.KL Go.Proofs.WM
set_option maxRecDepth 100000
set_option linter.unusedSimpArgs false
set_option linter.unusedVariables false

/-- What formed looks at first. -/
def headC (k : Int) (b : Bool) (n : Int) (t : ByteArray) (lk lv : Nat) : Bool := decide (1 ≤ k ∧ k ≤ 6) && bareC k b n t lk lv && decide (-9007199254740991 ≤ n ∧ n ≤ 9007199254740991) && (!(k == 6) || !((lk : Int) != (lv : Int)))
theorem fine_head (k : Int) (b : Bool) (n : Int) (t : ByteArray) (ks : List ByteArray) (nv : Nat) : fineJ k b n t ks nv = (headC k b n t ks.length nv && decide ks.Nodup) := by
  rw [fine_eq]
  unfold headC bareC
  by_cases hk : 1 ≤ k ∧ k ≤ 6
  · have h5 : decide (5 ≤ k) = ((k == 6) || (k == 5)) := by
      rw [Bool.eq_iff_iff]; simp; omega
    have ht : t.toList.isEmpty = decide (t.toList = []) := by rw [Bool.eq_iff_iff]; simp
    rw [h5, ht, decide_eq_true hk]
    generalize (k == 2) = B2
    generalize (k == 3) = B3
    generalize (k == 4) = B4
    generalize (k == 5) = B5
    generalize (k == 6) = B6
    generalize (n == 0) = N0
    generalize decide (t.toList = []) = T0
    generalize ((ks.length : Int) == 0) = K0
    generalize ((nv : Int) == 0) = V0
    generalize ((ks.length : Int) != (nv : Int)) = KV
    generalize decide (-9007199254740991 ≤ n ∧ n ≤ 9007199254740991) = RG
    generalize decide ks.Nodup = ND
    cases ND <;> cases RG <;> cases b <;> cases N0 <;> cases T0 <;> simp <;> (cases K0 <;> cases V0 <;> cases KV <;> cases B2 <;> cases B3 <;> cases B4 <;> cases B5 <;> cases B6 <;> rfl)
  · rw [decide_eq_false hk]
    simp
theorem subA_zero (A : Option Addr) (c : Nat) : subA A 0 c = A := by
  unfold subA
  split
  · rfl
  · cases A with
    | none => rfl
    | some a => simp [Addr.add]
theorem run_head {P : Program} {t e : TypeId} (hu : P.underlying t = some (.slice e)) {i : TypeInfo} (hi : P.info? e = some i) (hs : i.size = 1) (A : Option Addr) (n c h : Nat) (hh : h ≤ c) (w : World) :
    (Instr.slice t (.slice A n c) none (some (.int .i64 h)) none).run P w = .ok (.slice A h c) w := by
  have e2 : (0 : Int) ≤ (h : Int) ∧ (h : Int) ≤ (c : Int) := by omega
  have e3 := subA_zero A c
  unfold subA at e3
  simp [Instr.slice, run_underlying hu, Instr.sliceBounds, Instr.sliceBound, asIntOf, e2, hh, sizeOf, typeInfo, hi, hs]
  cases A <;> simp [Addr.add]
theorem ev_head {P : Program} {ops : Array Oper} {rest : List Oper} {o : Oper} {a : Act} {Q : Exit → Act → World → Prop} {W : World} (hgd : o.guard = none) {x hi : Operand} {t e : TypeId} (ho : o.op = .slice t x none (some hi) none) (hu : P.underlying t = some (.slice e)) {i : TypeInfo} (hinf : P.info? e = some i) (hs : i.size = 1) {A : Option Addr} {n c h : Nat} (hx : a.eval x = .slice A n c) (hhi : a.eval hi = .int .i64 h) (hh : h ≤ c)
    (k : wpList P ops Q rest (a.put o.dst (.slice A h c)) W) : wpList P ops Q (o :: rest) a W := by
  refine ev_run hgd (v := .slice A h c) (w1 := W) ?_ k
  have e1 : ∀ (x : Value) (lo hi mx : Option Value) (w : World), (Instr.sliceAt t x lo hi mx).run P w = (Instr.slice t x lo hi mx).run P w := fun x lo hi mx w => by simp [Instr.sliceAt, run_underlying hu]
  simp [execOp, ho, hx, hhi, e1, run_head hu hinf hs A n c h hh]
theorem info9s : ∃ i, Tryd.prog.info? 9 = some i ∧ i.size = 1 := by
  have h : (Tryd.prog.info? 9).map (·.size) = some 1 := by kernel_rfl
  obtain ⟨i, hi, hs⟩ := Option.map_eq_some_iff.1 h
  exact ⟨i, hi, hs⟩
theorem formedL_drop {vs : List J} {i : Nat} (hi : i < vs.length) : formedL (vs.drop i) = (formedJ (vs.getD i default) && formedL (vs.drop (i + 1))) := by
  rw [dropJ hi]
  rfl
set_option maxHeartbeats 8000000 in
theorem formed35 {w : World} {X : Nat → Prop} {v : Value} {j : J} (h : JX w X v j) : ∀ W, Keeps Nob w W → sizeJ j ≤ 1000000000000 → Calls Tryd.prog 35 #[v] W fun e w' => e = .returned (.bool (formedJ j)) ∧ Keeps Nob W w' := by
  induction h with
  | mk k b n t ks vs kv A c u h1 hc hA hv ih =>
    intro W hW hb
    have hsz : vs.length ≤ 1000000000000 ∧ ks.length ≤ 1000000000000 ∧ sizeL vs ≤ 1000000000000 := by have h1 := size_len vs; unfold sizeJ at hb; omega
    have h61 := fun W' (hk : Keeps Nob w W') => bare_any (k := k) (b := b) (n := n) (t := t) (h1.after hk) (show JsX W' X (.slice A vs.length c) vs from JsX.after ⟨A, c, u, rfl, hc, hA, hv⟩ hk)
    obtain ⟨kA, kc, rfl, hkc, hkx⟩ := h1
    obtain ⟨i25, hi25, hs25⟩ := info25
    obtain ⟨i9, hi9, hs9⟩ := info9s
    have HI := Lib.hid (And.intro (And.intro hi25 hs25) (And.intro hi9 hs9))
    have Hkx := Lib.hid hkx
    have HA := Lib.hid hA
    have HV := Lib.hid hv
    have IH := Lib.hid ih
    have HW := Lib.hid hW
    have Hsz := Lib.hid hsz
    obtain ⟨R, hR⟩ : ∃ x, formedJ (.mk k b n t ks vs) = x := ⟨_, rfl⟩
    rw [hR]
    have hR2 : (headC k b n t ks.length vs.length && decide ks.Nodup && formedL vs) = R := by
      rw [← hR]
      unfold formedJ
      rw [fine_head]
    obtain ⟨nk, hnk⟩ : ∃ x, ks.length = x := ⟨_, rfl⟩
    obtain ⟨nv, hnv⟩ : ∃ x, vs.length = x := ⟨_, rfl⟩
    have Hnk := Lib.hid hnk
    have Hnv := Lib.hid hnv
    rw [hnk] at hkc hsz h61 hR2 ⊢
    rw [hnv] at hsz h61 hR2 hc ⊢
    have HR := Lib.hid hR2
    have H61 := Lib.hid h61
    obtain ⟨bc, hbc⟩ : ∃ x, bareC k b n t nk nv = x := ⟨_, rfl⟩
    have Hbc := Lib.hid hbc
    have hnkI : (nk : Int) ≤ 1000000000000 := by omega
    have hnvI : (nv : Int) ≤ 1000000000000 := by omega
    clear h61 hkx hW hnk hnv hA hv ih hb hR hR2 hi25 hs25 hi9 hs9 hsz hbc
    by_cases c1 : k < 1
    · have c1' : ¬ (1 ≤ k ∧ k ≤ 6) := by omega
      have HRR := Lib.hid (show R = false by rw [← HR.out]; unfold headC; simp [c1'])
      go_enter Tryd.func35, Tryd.ntmps35
      go_wp2_with (first
        | ((with_reducible refine at_dst (N := 1) rfl ?_); go_must (refine ev_box (cs := #[.int .i64 k, .bool b, .int .i64 n, .string t, .slice kA nk kc, .slice A nv c]) rfl rfl rfl ?_; intro g1 w1 hg1 hl1 hb1 hk1)
           have v0 := (blk_cell hb1 0).trans rfl
           have v1 := (blk_cell hb1 1).trans rfl
           have v2 := (blk_cell hb1 2).trans rfl
           have v3 := (blk_cell hb1 3).trans rfl
           have v4 := (blk_cell hb1 4).trans rfl
           have v5 := (blk_cell hb1 5).trans rfl
           have HK := Lib.hid hk1
           have Hb1 := Lib.hid hb1
           clear hb1 hk1
           (try simp only [PU]))
        | (go_at_call 61; go_must (refine (H61.out _ (HW.out.trans HK.out (fun _ _ h => h))).mono ?_; rintro e w2 ⟨rfl, hk2⟩; rw [Hbc.out])
           have Hb1 := Lib.hid (hk2.blk Hb1.out id)
           have HK := Lib.hid (HK.out.trans hk2 (fun _ _ h => h))
           clear hk2 v0 v1 v2 v3 v4 v5
           have v0 := (blk_cell Hb1.out 0).trans rfl
           have v1 := (blk_cell Hb1.out 1).trans rfl
           have v2 := (blk_cell Hb1.out 2).trans rfl
           have v3 := (blk_cell Hb1.out 3).trans rfl
           have v4 := (blk_cell Hb1.out 4).trans rfl
           have v5 := (blk_cell Hb1.out 5).trans rfl
           (try simp only [PU]))
      )
      go_ret
      rw [HRR.out]
      exact ⟨rfl, HK.out⟩
    by_cases c2 : 6 < k
    · have c2' : ¬ (1 ≤ k ∧ k ≤ 6) := by omega
      have HRR := Lib.hid (show R = false by rw [← HR.out]; unfold headC; simp [c2'])
      go_enter Tryd.func35, Tryd.ntmps35
      go_wp2_with (first
        | ((with_reducible refine at_dst (N := 1) rfl ?_); go_must (refine ev_box (cs := #[.int .i64 k, .bool b, .int .i64 n, .string t, .slice kA nk kc, .slice A nv c]) rfl rfl rfl ?_; intro g1 w1 hg1 hl1 hb1 hk1)
           have v0 := (blk_cell hb1 0).trans rfl
           have v1 := (blk_cell hb1 1).trans rfl
           have v2 := (blk_cell hb1 2).trans rfl
           have v3 := (blk_cell hb1 3).trans rfl
           have v4 := (blk_cell hb1 4).trans rfl
           have v5 := (blk_cell hb1 5).trans rfl
           have HK := Lib.hid hk1
           have Hb1 := Lib.hid hb1
           clear hb1 hk1
           (try simp only [PU]))
        | (go_at_call 61; go_must (refine (H61.out _ (HW.out.trans HK.out (fun _ _ h => h))).mono ?_; rintro e w2 ⟨rfl, hk2⟩; rw [Hbc.out])
           have Hb1 := Lib.hid (hk2.blk Hb1.out id)
           have HK := Lib.hid (HK.out.trans hk2 (fun _ _ h => h))
           clear hk2 v0 v1 v2 v3 v4 v5
           have v0 := (blk_cell Hb1.out 0).trans rfl
           have v1 := (blk_cell Hb1.out 1).trans rfl
           have v2 := (blk_cell Hb1.out 2).trans rfl
           have v3 := (blk_cell Hb1.out 3).trans rfl
           have v4 := (blk_cell Hb1.out 4).trans rfl
           have v5 := (blk_cell Hb1.out 5).trans rfl
           (try simp only [PU]))
      )
      go_ret
      rw [HRR.out]
      exact ⟨rfl, HK.out⟩
    cases bc
    · have c3 := Hbc.out
      have HRR := Lib.hid (show R = false by rw [← HR.out]; unfold headC; simp [c3])
      clear c3
      go_enter Tryd.func35, Tryd.ntmps35
      go_wp2_with (first
        | ((with_reducible refine at_dst (N := 1) rfl ?_); go_must (refine ev_box (cs := #[.int .i64 k, .bool b, .int .i64 n, .string t, .slice kA nk kc, .slice A nv c]) rfl rfl rfl ?_; intro g1 w1 hg1 hl1 hb1 hk1)
           have v0 := (blk_cell hb1 0).trans rfl
           have v1 := (blk_cell hb1 1).trans rfl
           have v2 := (blk_cell hb1 2).trans rfl
           have v3 := (blk_cell hb1 3).trans rfl
           have v4 := (blk_cell hb1 4).trans rfl
           have v5 := (blk_cell hb1 5).trans rfl
           have HK := Lib.hid hk1
           have Hb1 := Lib.hid hb1
           clear hb1 hk1
           (try simp only [PU]))
        | (go_at_call 61; go_must (refine (H61.out _ (HW.out.trans HK.out (fun _ _ h => h))).mono ?_; rintro e w2 ⟨rfl, hk2⟩; rw [Hbc.out])
           have Hb1 := Lib.hid (hk2.blk Hb1.out id)
           have HK := Lib.hid (HK.out.trans hk2 (fun _ _ h => h))
           clear hk2 v0 v1 v2 v3 v4 v5
           have v0 := (blk_cell Hb1.out 0).trans rfl
           have v1 := (blk_cell Hb1.out 1).trans rfl
           have v2 := (blk_cell Hb1.out 2).trans rfl
           have v3 := (blk_cell Hb1.out 3).trans rfl
           have v4 := (blk_cell Hb1.out 4).trans rfl
           have v5 := (blk_cell Hb1.out 5).trans rfl
           (try simp only [PU]))
      )
      go_ret
      rw [HRR.out]
      exact ⟨rfl, HK.out⟩
    by_cases c4 : n < -9007199254740991
    · have c4' : ¬ (-9007199254740991 ≤ n ∧ n ≤ 9007199254740991) := by omega
      have HRR := Lib.hid (show R = false by rw [← HR.out]; unfold headC; simp [c4'])
      go_enter Tryd.func35, Tryd.ntmps35
      go_wp2_with (first
        | ((with_reducible refine at_dst (N := 1) rfl ?_); go_must (refine ev_box (cs := #[.int .i64 k, .bool b, .int .i64 n, .string t, .slice kA nk kc, .slice A nv c]) rfl rfl rfl ?_; intro g1 w1 hg1 hl1 hb1 hk1)
           have v0 := (blk_cell hb1 0).trans rfl
           have v1 := (blk_cell hb1 1).trans rfl
           have v2 := (blk_cell hb1 2).trans rfl
           have v3 := (blk_cell hb1 3).trans rfl
           have v4 := (blk_cell hb1 4).trans rfl
           have v5 := (blk_cell hb1 5).trans rfl
           have HK := Lib.hid hk1
           have Hb1 := Lib.hid hb1
           clear hb1 hk1
           (try simp only [PU]))
        | (go_at_call 61; go_must (refine (H61.out _ (HW.out.trans HK.out (fun _ _ h => h))).mono ?_; rintro e w2 ⟨rfl, hk2⟩; rw [Hbc.out])
           have Hb1 := Lib.hid (hk2.blk Hb1.out id)
           have HK := Lib.hid (HK.out.trans hk2 (fun _ _ h => h))
           clear hk2 v0 v1 v2 v3 v4 v5
           have v0 := (blk_cell Hb1.out 0).trans rfl
           have v1 := (blk_cell Hb1.out 1).trans rfl
           have v2 := (blk_cell Hb1.out 2).trans rfl
           have v3 := (blk_cell Hb1.out 3).trans rfl
           have v4 := (blk_cell Hb1.out 4).trans rfl
           have v5 := (blk_cell Hb1.out 5).trans rfl
           (try simp only [PU]))
      )
      go_ret
      rw [HRR.out]
      exact ⟨rfl, HK.out⟩
    by_cases c5 : 9007199254740991 < n
    · have c5' : ¬ (-9007199254740991 ≤ n ∧ n ≤ 9007199254740991) := by omega
      have HRR := Lib.hid (show R = false by rw [← HR.out]; unfold headC; simp [c5'])
      go_enter Tryd.func35, Tryd.ntmps35
      go_wp2_with (first
        | ((with_reducible refine at_dst (N := 1) rfl ?_); go_must (refine ev_box (cs := #[.int .i64 k, .bool b, .int .i64 n, .string t, .slice kA nk kc, .slice A nv c]) rfl rfl rfl ?_; intro g1 w1 hg1 hl1 hb1 hk1)
           have v0 := (blk_cell hb1 0).trans rfl
           have v1 := (blk_cell hb1 1).trans rfl
           have v2 := (blk_cell hb1 2).trans rfl
           have v3 := (blk_cell hb1 3).trans rfl
           have v4 := (blk_cell hb1 4).trans rfl
           have v5 := (blk_cell hb1 5).trans rfl
           have HK := Lib.hid hk1
           have Hb1 := Lib.hid hb1
           clear hb1 hk1
           (try simp only [PU]))
        | (go_at_call 61; go_must (refine (H61.out _ (HW.out.trans HK.out (fun _ _ h => h))).mono ?_; rintro e w2 ⟨rfl, hk2⟩; rw [Hbc.out])
           have Hb1 := Lib.hid (hk2.blk Hb1.out id)
           have HK := Lib.hid (HK.out.trans hk2 (fun _ _ h => h))
           clear hk2 v0 v1 v2 v3 v4 v5
           have v0 := (blk_cell Hb1.out 0).trans rfl
           have v1 := (blk_cell Hb1.out 1).trans rfl
           have v2 := (blk_cell Hb1.out 2).trans rfl
           have v3 := (blk_cell Hb1.out 3).trans rfl
           have v4 := (blk_cell Hb1.out 4).trans rfl
           have v5 := (blk_cell Hb1.out 5).trans rfl
           (try simp only [PU]))
      )
      go_ret
      rw [HRR.out]
      exact ⟨rfl, HK.out⟩
    have hk16 : 1 ≤ k ∧ k ≤ 6 := by omega
    have hrg : -9007199254740991 ≤ n ∧ n ≤ 9007199254740991 := by omega
    have Hk16 := Lib.hid hk16
    have Hrg := Lib.hid hrg
    clear hk16 hrg
    by_cases c6 : k = 6
    · have c6' : (k == 6) = true := by simpa using c6
      by_cases c7 : nk = nv
      · have c7i : (nk : Int) = (nv : Int) := by omega
        have c7' : ((nk : Int) != (nv : Int)) = false := by simpa using c7i
        have HRR := Lib.hid (show (decide ks.Nodup && formedL vs) = R by rw [← HR.out]; unfold headC; rw [Hbc.out, decide_eq_true Hk16.out, decide_eq_true Hrg.out, c7']; simp)
        clear c6 c7 c7i
        go_enter Tryd.func35, Tryd.ntmps35
        go_upto_region 3 with (first
          | ((with_reducible refine at_dst (N := 1) rfl ?_); go_must (refine ev_box (cs := #[.int .i64 k, .bool b, .int .i64 n, .string t, .slice kA nk kc, .slice A nv c]) rfl rfl rfl ?_; intro g1 w1 hg1 hl1 hb1 hk1)
             have v0 := (blk_cell hb1 0).trans rfl
             have v1 := (blk_cell hb1 1).trans rfl
             have v2 := (blk_cell hb1 2).trans rfl
             have v3 := (blk_cell hb1 3).trans rfl
             have v4 := (blk_cell hb1 4).trans rfl
             have v5 := (blk_cell hb1 5).trans rfl
             have HK := Lib.hid hk1
             have Hb1 := Lib.hid hb1
             clear hb1 hk1
             (try simp only [PU]))
          | (go_at_call 61; go_must (refine (H61.out _ (HW.out.trans HK.out (fun _ _ h => h))).mono ?_; rintro e w2 ⟨rfl, hk2⟩; rw [Hbc.out])
             have Hb1 := Lib.hid (hk2.blk Hb1.out id)
             have HK := Lib.hid (HK.out.trans hk2 (fun _ _ h => h))
             clear hk2 v0 v1 v2 v3 v4 v5
             have v0 := (blk_cell Hb1.out 0).trans rfl
             have v1 := (blk_cell Hb1.out 1).trans rfl
             have v2 := (blk_cell Hb1.out 2).trans rfl
             have v3 := (blk_cell Hb1.out 3).trans rfl
             have v4 := (blk_cell Hb1.out 4).trans rfl
             have v5 := (blk_cell Hb1.out 5).trans rfl
             (try simp only [PU]))
        )
        clear v0 v1 v2 v3
        go_wp2_with fail
        go_loopw [49] (fun iv wr => ∃ i : Nat, iv = .int .i64 i ∧ i ≤ nk ∧ Hid (wr = w2) ∧ Hid ((ks.take i).Nodup)) (fun iv _ => nk - (intOf iv).toNat)
        case atStart => exact ⟨0, rfl, Nat.zero_le _, Lib.hid rfl, Lib.hid (by simp)⟩
        case round =>
          obtain ⟨i, rfl, hi, Hw, Hnd⟩ := hrel
          have hw : w2 = wr := Hw.out.symm
          subst hw
          by_cases hlt : i < nk
          · obtain ⟨b', o, rfl, -, hcell⟩ := Hkx.out i (by rw [Hnk.out]; exact hlt)
            have kc0 := (HW.out.trans HK.out (fun _ _ h => h)).cell hcell id
            obtain ⟨key, hkey⟩ : ∃ x, ks.getD i ByteArray.empty = x := ⟨_, rfl⟩
            rw [hkey] at kc0
            have Hkey := Lib.hid hkey
            have hikc : i ≤ kc := by omega
            clear hcell hkey
            go_wp2_with (first
              | ((with_reducible refine at_dst (N := 57) rfl ?_); go_must (refine ev_head (h := i) rfl rfl Tryd.underlying22 HI.out.2.1 HI.out.2.2 rfl rfl hikc ?_); (try simp only [PU]))
            )
            go_loopw [59] (fun jv wr => ∃ j : Nat, jv = .int .i64 j ∧ j ≤ i ∧ Hid (wr = w2) ∧ Hid (key ∉ ks.take j)) (fun jv _ => i - (intOf jv).toNat)
            case atStart => exact ⟨0, rfl, Nat.zero_le _, Lib.hid rfl, Lib.hid (by simp)⟩
            case round =>
              obtain ⟨j, rfl, hj, Hw3, Hni⟩ := hrel
              have hw3 : w2 = wr := Hw3.out.symm
              subst hw3
              by_cases hjlt : j < i
              · obtain ⟨b2, o2, e2, -, hcell2⟩ := Hkx.out j (by rw [Hnk.out]; omega)
                injection e2 with e2
                injection e2 with e21 e22
                subst e21
                subst e22
                have kc2 := (HW.out.trans HK.out (fun _ _ h => h)).cell hcell2 id
                obtain ⟨kj, hkj⟩ : ∃ x, ks.getD j ByteArray.empty = x := ⟨_, rfl⟩
                rw [hkj] at kc2
                have Hkj := Lib.hid hkj
                have hjnk : j < nk := by omega
                clear hcell2 hkj
                by_cases hkk : key = kj
                · have htest : (key.toList == kj.toList) = true := by rw [hkk]; exact beq_self_eq_true _
                  have Hkk := Lib.hid hkk
                  clear hkk
                  go_wp2
                  go_ret
                  refine ⟨?_, HK.out⟩
                  have hnd : ¬ ks.Nodup := fun hn => by
                    have hj' : j < ks.length := by rw [Hnk.out]; exact hjnk
                    have hi' : i < ks.length := by rw [Hnk.out]; exact hlt
                    have h2 := ((nodup_step hi').1 (nodup_all ks hn _)).2
                    rw [Hkey.out] at h2
                    have hm : key ∈ ks.take i := by
                      refine List.mem_of_getElem? (i := j) ?_
                      rw [List.getElem?_take, if_pos hjlt, List.getElem?_eq_getElem hj', Hkk.out, ← Hkj.out, List.getD_eq_getElem?_getD, List.getElem?_eq_getElem hj']
                      rfl
                    rw [(hasKey_mem _ _).2 hm] at h2
                    cases h2
                  rw [← HRR.out, decide_eq_false hnd]
                  rfl
                · have htest : (key.toList == kj.toList) = false := by simpa using str_ne hkk
                  have Hkk := Lib.hid hkk
                  clear hkk
                  go_wp2
                  go_roundw
                  case rel => exact ⟨j + 1, by go_num, by omega, by first | exact Lib.hid rfl | exact Lib.hid trivial, Lib.hid (by
                    have hj' : j < ks.length := by rw [Hnk.out]; exact hjnk
                    rw [List.take_succ_eq_append_getElem hj', List.mem_append, List.mem_singleton]
                    rintro (h | h)
                    · exact Hni.out h
                    · have h1 := Hkj.out
                      rw [List.getD_eq_getElem?_getD, List.getElem?_eq_getElem hj'] at h1
                      exact Hkk.out (h.trans h1))⟩
                  case measure => simp [intOf]; omega
              · have hj' : j = i := by omega
                subst hj'
                go_wp2
                go_roundw
                case rel => exact ⟨j + 1, by go_num, by omega, by first | exact Lib.hid rfl | exact Lib.hid trivial, Lib.hid ((nodup_step (by rw [Hnk.out]; exact hlt)).2 ⟨Hnd.out, by
                  rw [Hkey.out]
                  rcases hk' : hasKey (ks.take j) key with _ | _
                  · rfl
                  · exact absurd ((hasKey_mem _ _).1 hk') Hni.out⟩)⟩
                case measure => simp [intOf]; omega
          · have hi' : i = nk := by omega
            subst hi'
            have htl := List.take_length (l := ks)
            rw [Hnk.out] at htl
            have hnd : ks.Nodup := by have := Hnd.out; rw [htl] at this; exact this
            have HR3 := Lib.hid (show formedL (vs.drop 0) = R by rw [← HRR.out, decide_eq_true hnd, List.drop_zero]; rfl)
            clear htl hnd
            go_wp2
            go_loopw [71] (fun iv wr => ∃ i : Nat, iv = .int .i64 i ∧ i ≤ nv ∧ Hid (formedL (vs.drop i) = R) ∧ Hid (Keeps Nob W wr)) (fun iv _ => nv - (intOf iv).toNat)
            case atStart => exact ⟨0, rfl, Nat.zero_le _, HR3, HK⟩
            case round =>
              obtain ⟨i, rfl, hi, HG, HKr⟩ := hrel
              by_cases hlt : i < nv
              · obtain ⟨b', o, rfl, -, h6⟩ := HA.out i (by rw [Hnv.out]; exact hlt)
                obtain ⟨⟨e0, e1, e2⟩, e3, e4, e5⟩ := h6.keep (HW.out.trans HKr.out (fun _ _ h => h)) id
                have hg := HG.out
                rw [formedL_drop (by rw [Hnv.out]; exact hlt)] at hg
                have hsix := (HV.out i (by rw [Hnv.out]; exact hlt)).six
                have Hrun := Lib.hid (fun W' hk => IH.out i (by rw [Hnv.out]; exact hlt) W' hk (by have h1 := size_get (vs := vs) (i := i) (by rw [Hnv.out]; exact hlt); have := Hsz.out; omega))
                generalize vs.getD i default = vj at *
                generalize u i 0 = x0 at *
                generalize u i 1 = x1 at *
                generalize u i 2 = x2 at *
                generalize u i 3 = x3 at *
                generalize u i 4 = x4 at *
                generalize u i 5 = x5 at *
                obtain ⟨y0, y1, y2, y3, yA, yn, yc, yB, ym, yd, ⟨rfl, rfl, rfl⟩, rfl, rfl, rfl⟩ := hsix
                rcases hfj : formedJ vj with _ | _
                · rw [hfj] at hg
                  have HRq := Lib.hid (show R = false from hg.symm)
                  have Hfj := Lib.hid hfj
                  clear hg h6 hfj
                  go_wp2_with (first
                    | ((with_reducible refine at_dst (N := 8) rfl ?_); go_must (refine ev_alloc rfl rfl zero25 rfl ?_; intro g5 wa hg5 hl5 hb5 hk5)
                       have Hb5 := Lib.hid hb5
                       have HK2 := Lib.hid hk5
                       clear hb5 hk5
                       (try simp only [PU]))
                    | ((with_reducible refine at_store (t := 25) (p := 8) rfl ?_); go_must (refine ev_store (cs' := #[.int .i64 y0, .bool y1, .int .i64 y2, .string y3, .slice yA yn yc, .slice yB ym yd]) rfl rfl rfl rfl rfl rfl HI.out.1.1 HI.out.1.2 rfl Hb5.out (Nat.le_of_ble_eq_true rfl) rfl ?_; intro w3 hb3 hk3)
                       have s0 := (blk_cell hb3 0).trans rfl
                       have s1 := (blk_cell hb3 1).trans rfl
                       have s2 := (blk_cell hb3 2).trans rfl
                       have s3 := (blk_cell hb3 3).trans rfl
                       have s4 := (blk_cell hb3 4).trans rfl
                       have s5 := (blk_cell hb3 5).trans rfl
                       have HK3 := Lib.hid (show Keeps Nob W w3 from HKr.out.trans (HK2.out.own hk3 hg5) (fun _ _ h => h))
                       clear hb3 hk3
                       (try simp only [PU]))
                    | (go_at_call 35; go_must (refine (Hrun.out w3 (HW.out.trans HK3.out (fun _ _ h => h))).mono ?_; rintro e w4 ⟨rfl, hk4⟩); rw [Hfj.out]; have HK4 := Lib.hid (HK3.out.trans hk4 (fun _ _ h => h)); clear hk4; (try simp only [PU]))
                  )
                  go_ret
                  rw [HRq.out]
                  exact ⟨rfl, HK4.out⟩
                · rw [hfj, Bool.true_and] at hg
                  have HGn := Lib.hid hg
                  have Hfj := Lib.hid hfj
                  clear hg h6 hfj
                  go_wp2_with (first
                    | ((with_reducible refine at_dst (N := 8) rfl ?_); go_must (refine ev_alloc rfl rfl zero25 rfl ?_; intro g5 wa hg5 hl5 hb5 hk5)
                       have Hb5 := Lib.hid hb5
                       have HK2 := Lib.hid hk5
                       clear hb5 hk5
                       (try simp only [PU]))
                    | ((with_reducible refine at_store (t := 25) (p := 8) rfl ?_); go_must (refine ev_store (cs' := #[.int .i64 y0, .bool y1, .int .i64 y2, .string y3, .slice yA yn yc, .slice yB ym yd]) rfl rfl rfl rfl rfl rfl HI.out.1.1 HI.out.1.2 rfl Hb5.out (Nat.le_of_ble_eq_true rfl) rfl ?_; intro w3 hb3 hk3)
                       have s0 := (blk_cell hb3 0).trans rfl
                       have s1 := (blk_cell hb3 1).trans rfl
                       have s2 := (blk_cell hb3 2).trans rfl
                       have s3 := (blk_cell hb3 3).trans rfl
                       have s4 := (blk_cell hb3 4).trans rfl
                       have s5 := (blk_cell hb3 5).trans rfl
                       have HK3 := Lib.hid (show Keeps Nob W w3 from HKr.out.trans (HK2.out.own hk3 hg5) (fun _ _ h => h))
                       clear hb3 hk3
                       (try simp only [PU]))
                    | (go_at_call 35; go_must (refine (Hrun.out w3 (HW.out.trans HK3.out (fun _ _ h => h))).mono ?_; rintro e w4 ⟨rfl, hk4⟩); rw [Hfj.out]; have HK4 := Lib.hid (HK3.out.trans hk4 (fun _ _ h => h)); clear hk4; (try simp only [PU]))
                  )
                  go_roundw
                  case rel => exact ⟨i + 1, by go_num, by omega, HGn, HK4⟩
                  case measure => simp [intOf]; omega
              · have hi' : i = nv := by omega
                subst hi'
                have HRq := Lib.hid (show true = R by
                  have hg := HG.out
                  rw [List.drop_of_length_le (by rw [Hnv.out]; exact Nat.le_refl _)] at hg
                  exact hg)
                go_wp2
                go_ret
                rw [← HRq.out]
                exact ⟨rfl, HKr.out⟩
      · have c7i : ¬ (nk : Int) = (nv : Int) := by omega
        have c7' : ((nk : Int) != (nv : Int)) = true := by simpa using c7i
        have HRR := Lib.hid (show R = false by rw [← HR.out]; unfold headC; rw [c6', c7']; simp)
        clear c6 c7 c7i
        go_enter Tryd.func35, Tryd.ntmps35
        go_wp2_with (first
          | ((with_reducible refine at_dst (N := 1) rfl ?_); go_must (refine ev_box (cs := #[.int .i64 k, .bool b, .int .i64 n, .string t, .slice kA nk kc, .slice A nv c]) rfl rfl rfl ?_; intro g1 w1 hg1 hl1 hb1 hk1)
             have v0 := (blk_cell hb1 0).trans rfl
             have v1 := (blk_cell hb1 1).trans rfl
             have v2 := (blk_cell hb1 2).trans rfl
             have v3 := (blk_cell hb1 3).trans rfl
             have v4 := (blk_cell hb1 4).trans rfl
             have v5 := (blk_cell hb1 5).trans rfl
             have HK := Lib.hid hk1
             have Hb1 := Lib.hid hb1
             clear hb1 hk1
             (try simp only [PU]))
          | (go_at_call 61; go_must (refine (H61.out _ (HW.out.trans HK.out (fun _ _ h => h))).mono ?_; rintro e w2 ⟨rfl, hk2⟩; rw [Hbc.out])
             have Hb1 := Lib.hid (hk2.blk Hb1.out id)
             have HK := Lib.hid (HK.out.trans hk2 (fun _ _ h => h))
             clear hk2 v0 v1 v2 v3 v4 v5
             have v0 := (blk_cell Hb1.out 0).trans rfl
             have v1 := (blk_cell Hb1.out 1).trans rfl
             have v2 := (blk_cell Hb1.out 2).trans rfl
             have v3 := (blk_cell Hb1.out 3).trans rfl
             have v4 := (blk_cell Hb1.out 4).trans rfl
             have v5 := (blk_cell Hb1.out 5).trans rfl
             (try simp only [PU]))
        )
        go_ret
        rw [HRR.out]
        exact ⟨rfl, HK.out⟩
    · have c6' : (k == 6) = false := by simpa using c6
      have HRR := Lib.hid (show (decide ks.Nodup && formedL vs) = R by rw [← HR.out]; unfold headC; rw [Hbc.out, decide_eq_true Hk16.out, decide_eq_true Hrg.out, c6']; simp)
      clear c6
      go_enter Tryd.func35, Tryd.ntmps35
      go_upto_region 3 with (first
        | ((with_reducible refine at_dst (N := 1) rfl ?_); go_must (refine ev_box (cs := #[.int .i64 k, .bool b, .int .i64 n, .string t, .slice kA nk kc, .slice A nv c]) rfl rfl rfl ?_; intro g1 w1 hg1 hl1 hb1 hk1)
           have v0 := (blk_cell hb1 0).trans rfl
           have v1 := (blk_cell hb1 1).trans rfl
           have v2 := (blk_cell hb1 2).trans rfl
           have v3 := (blk_cell hb1 3).trans rfl
           have v4 := (blk_cell hb1 4).trans rfl
           have v5 := (blk_cell hb1 5).trans rfl
           have HK := Lib.hid hk1
           have Hb1 := Lib.hid hb1
           clear hb1 hk1
           (try simp only [PU]))
        | (go_at_call 61; go_must (refine (H61.out _ (HW.out.trans HK.out (fun _ _ h => h))).mono ?_; rintro e w2 ⟨rfl, hk2⟩; rw [Hbc.out])
           have Hb1 := Lib.hid (hk2.blk Hb1.out id)
           have HK := Lib.hid (HK.out.trans hk2 (fun _ _ h => h))
           clear hk2 v0 v1 v2 v3 v4 v5
           have v0 := (blk_cell Hb1.out 0).trans rfl
           have v1 := (blk_cell Hb1.out 1).trans rfl
           have v2 := (blk_cell Hb1.out 2).trans rfl
           have v3 := (blk_cell Hb1.out 3).trans rfl
           have v4 := (blk_cell Hb1.out 4).trans rfl
           have v5 := (blk_cell Hb1.out 5).trans rfl
           (try simp only [PU]))
      )
      clear v0 v1 v2 v3
      go_wp2_with fail
      go_loopw [49] (fun iv wr => ∃ i : Nat, iv = .int .i64 i ∧ i ≤ nk ∧ Hid (wr = w2) ∧ Hid ((ks.take i).Nodup)) (fun iv _ => nk - (intOf iv).toNat)
      case atStart => exact ⟨0, rfl, Nat.zero_le _, Lib.hid rfl, Lib.hid (by simp)⟩
      case round =>
        obtain ⟨i, rfl, hi, Hw, Hnd⟩ := hrel
        have hw : w2 = wr := Hw.out.symm
        subst hw
        by_cases hlt : i < nk
        · obtain ⟨b', o, rfl, -, hcell⟩ := Hkx.out i (by rw [Hnk.out]; exact hlt)
          have kc0 := (HW.out.trans HK.out (fun _ _ h => h)).cell hcell id
          obtain ⟨key, hkey⟩ : ∃ x, ks.getD i ByteArray.empty = x := ⟨_, rfl⟩
          rw [hkey] at kc0
          have Hkey := Lib.hid hkey
          have hikc : i ≤ kc := by omega
          clear hcell hkey
          go_wp2_with (first
            | ((with_reducible refine at_dst (N := 57) rfl ?_); go_must (refine ev_head (h := i) rfl rfl Tryd.underlying22 HI.out.2.1 HI.out.2.2 rfl rfl hikc ?_); (try simp only [PU]))
          )
          go_loopw [59] (fun jv wr => ∃ j : Nat, jv = .int .i64 j ∧ j ≤ i ∧ Hid (wr = w2) ∧ Hid (key ∉ ks.take j)) (fun jv _ => i - (intOf jv).toNat)
          case atStart => exact ⟨0, rfl, Nat.zero_le _, Lib.hid rfl, Lib.hid (by simp)⟩
          case round =>
            obtain ⟨j, rfl, hj, Hw3, Hni⟩ := hrel
            have hw3 : w2 = wr := Hw3.out.symm
            subst hw3
            by_cases hjlt : j < i
            · obtain ⟨b2, o2, e2, -, hcell2⟩ := Hkx.out j (by rw [Hnk.out]; omega)
              injection e2 with e2
              injection e2 with e21 e22
              subst e21
              subst e22
              have kc2 := (HW.out.trans HK.out (fun _ _ h => h)).cell hcell2 id
              obtain ⟨kj, hkj⟩ : ∃ x, ks.getD j ByteArray.empty = x := ⟨_, rfl⟩
              rw [hkj] at kc2
              have Hkj := Lib.hid hkj
              have hjnk : j < nk := by omega
              clear hcell2 hkj
              by_cases hkk : key = kj
              · have htest : (key.toList == kj.toList) = true := by rw [hkk]; exact beq_self_eq_true _
                have Hkk := Lib.hid hkk
                clear hkk
                go_wp2
                go_ret
                refine ⟨?_, HK.out⟩
                have hnd : ¬ ks.Nodup := fun hn => by
                  have hj' : j < ks.length := by rw [Hnk.out]; exact hjnk
                  have hi' : i < ks.length := by rw [Hnk.out]; exact hlt
                  have h2 := ((nodup_step hi').1 (nodup_all ks hn _)).2
                  rw [Hkey.out] at h2
                  have hm : key ∈ ks.take i := by
                    refine List.mem_of_getElem? (i := j) ?_
                    rw [List.getElem?_take, if_pos hjlt, List.getElem?_eq_getElem hj', Hkk.out, ← Hkj.out, List.getD_eq_getElem?_getD, List.getElem?_eq_getElem hj']
                    rfl
                  rw [(hasKey_mem _ _).2 hm] at h2
                  cases h2
                rw [← HRR.out, decide_eq_false hnd]
                rfl
              · have htest : (key.toList == kj.toList) = false := by simpa using str_ne hkk
                have Hkk := Lib.hid hkk
                clear hkk
                go_wp2
                go_roundw
                case rel => exact ⟨j + 1, by go_num, by omega, by first | exact Lib.hid rfl | exact Lib.hid trivial, Lib.hid (by
                  have hj' : j < ks.length := by rw [Hnk.out]; exact hjnk
                  rw [List.take_succ_eq_append_getElem hj', List.mem_append, List.mem_singleton]
                  rintro (h | h)
                  · exact Hni.out h
                  · have h1 := Hkj.out
                    rw [List.getD_eq_getElem?_getD, List.getElem?_eq_getElem hj'] at h1
                    exact Hkk.out (h.trans h1))⟩
                case measure => simp [intOf]; omega
            · have hj' : j = i := by omega
              subst hj'
              go_wp2
              go_roundw
              case rel => exact ⟨j + 1, by go_num, by omega, by first | exact Lib.hid rfl | exact Lib.hid trivial, Lib.hid ((nodup_step (by rw [Hnk.out]; exact hlt)).2 ⟨Hnd.out, by
                rw [Hkey.out]
                rcases hk' : hasKey (ks.take j) key with _ | _
                · rfl
                · exact absurd ((hasKey_mem _ _).1 hk') Hni.out⟩)⟩
              case measure => simp [intOf]; omega
        · have hi' : i = nk := by omega
          subst hi'
          have htl := List.take_length (l := ks)
          rw [Hnk.out] at htl
          have hnd : ks.Nodup := by have := Hnd.out; rw [htl] at this; exact this
          have HR3 := Lib.hid (show formedL (vs.drop 0) = R by rw [← HRR.out, decide_eq_true hnd, List.drop_zero]; rfl)
          clear htl hnd
          go_wp2
          go_loopw [71] (fun iv wr => ∃ i : Nat, iv = .int .i64 i ∧ i ≤ nv ∧ Hid (formedL (vs.drop i) = R) ∧ Hid (Keeps Nob W wr)) (fun iv _ => nv - (intOf iv).toNat)
          case atStart => exact ⟨0, rfl, Nat.zero_le _, HR3, HK⟩
          case round =>
            obtain ⟨i, rfl, hi, HG, HKr⟩ := hrel
            by_cases hlt : i < nv
            · obtain ⟨b', o, rfl, -, h6⟩ := HA.out i (by rw [Hnv.out]; exact hlt)
              obtain ⟨⟨e0, e1, e2⟩, e3, e4, e5⟩ := h6.keep (HW.out.trans HKr.out (fun _ _ h => h)) id
              have hg := HG.out
              rw [formedL_drop (by rw [Hnv.out]; exact hlt)] at hg
              have hsix := (HV.out i (by rw [Hnv.out]; exact hlt)).six
              have Hrun := Lib.hid (fun W' hk => IH.out i (by rw [Hnv.out]; exact hlt) W' hk (by have h1 := size_get (vs := vs) (i := i) (by rw [Hnv.out]; exact hlt); have := Hsz.out; omega))
              generalize vs.getD i default = vj at *
              generalize u i 0 = x0 at *
              generalize u i 1 = x1 at *
              generalize u i 2 = x2 at *
              generalize u i 3 = x3 at *
              generalize u i 4 = x4 at *
              generalize u i 5 = x5 at *
              obtain ⟨y0, y1, y2, y3, yA, yn, yc, yB, ym, yd, ⟨rfl, rfl, rfl⟩, rfl, rfl, rfl⟩ := hsix
              rcases hfj : formedJ vj with _ | _
              · rw [hfj] at hg
                have HRq := Lib.hid (show R = false from hg.symm)
                have Hfj := Lib.hid hfj
                clear hg h6 hfj
                go_wp2_with (first
                  | ((with_reducible refine at_dst (N := 8) rfl ?_); go_must (refine ev_alloc rfl rfl zero25 rfl ?_; intro g5 wa hg5 hl5 hb5 hk5)
                     have Hb5 := Lib.hid hb5
                     have HK2 := Lib.hid hk5
                     clear hb5 hk5
                     (try simp only [PU]))
                  | ((with_reducible refine at_store (t := 25) (p := 8) rfl ?_); go_must (refine ev_store (cs' := #[.int .i64 y0, .bool y1, .int .i64 y2, .string y3, .slice yA yn yc, .slice yB ym yd]) rfl rfl rfl rfl rfl rfl HI.out.1.1 HI.out.1.2 rfl Hb5.out (Nat.le_of_ble_eq_true rfl) rfl ?_; intro w3 hb3 hk3)
                     have s0 := (blk_cell hb3 0).trans rfl
                     have s1 := (blk_cell hb3 1).trans rfl
                     have s2 := (blk_cell hb3 2).trans rfl
                     have s3 := (blk_cell hb3 3).trans rfl
                     have s4 := (blk_cell hb3 4).trans rfl
                     have s5 := (blk_cell hb3 5).trans rfl
                     have HK3 := Lib.hid (show Keeps Nob W w3 from HKr.out.trans (HK2.out.own hk3 hg5) (fun _ _ h => h))
                     clear hb3 hk3
                     (try simp only [PU]))
                  | (go_at_call 35; go_must (refine (Hrun.out w3 (HW.out.trans HK3.out (fun _ _ h => h))).mono ?_; rintro e w4 ⟨rfl, hk4⟩); rw [Hfj.out]; have HK4 := Lib.hid (HK3.out.trans hk4 (fun _ _ h => h)); clear hk4; (try simp only [PU]))
                )
                go_ret
                rw [HRq.out]
                exact ⟨rfl, HK4.out⟩
              · rw [hfj, Bool.true_and] at hg
                have HGn := Lib.hid hg
                have Hfj := Lib.hid hfj
                clear hg h6 hfj
                go_wp2_with (first
                  | ((with_reducible refine at_dst (N := 8) rfl ?_); go_must (refine ev_alloc rfl rfl zero25 rfl ?_; intro g5 wa hg5 hl5 hb5 hk5)
                     have Hb5 := Lib.hid hb5
                     have HK2 := Lib.hid hk5
                     clear hb5 hk5
                     (try simp only [PU]))
                  | ((with_reducible refine at_store (t := 25) (p := 8) rfl ?_); go_must (refine ev_store (cs' := #[.int .i64 y0, .bool y1, .int .i64 y2, .string y3, .slice yA yn yc, .slice yB ym yd]) rfl rfl rfl rfl rfl rfl HI.out.1.1 HI.out.1.2 rfl Hb5.out (Nat.le_of_ble_eq_true rfl) rfl ?_; intro w3 hb3 hk3)
                     have s0 := (blk_cell hb3 0).trans rfl
                     have s1 := (blk_cell hb3 1).trans rfl
                     have s2 := (blk_cell hb3 2).trans rfl
                     have s3 := (blk_cell hb3 3).trans rfl
                     have s4 := (blk_cell hb3 4).trans rfl
                     have s5 := (blk_cell hb3 5).trans rfl
                     have HK3 := Lib.hid (show Keeps Nob W w3 from HKr.out.trans (HK2.out.own hk3 hg5) (fun _ _ h => h))
                     clear hb3 hk3
                     (try simp only [PU]))
                  | (go_at_call 35; go_must (refine (Hrun.out w3 (HW.out.trans HK3.out (fun _ _ h => h))).mono ?_; rintro e w4 ⟨rfl, hk4⟩); rw [Hfj.out]; have HK4 := Lib.hid (HK3.out.trans hk4 (fun _ _ h => h)); clear hk4; (try simp only [PU]))
                )
                go_roundw
                case rel => exact ⟨i + 1, by go_num, by omega, HGn, HK4⟩
                case measure => simp [intOf]; omega
            · have hi' : i = nv := by omega
              subst hi'
              have HRq := Lib.hid (show true = R by
                have hg := HG.out
                rw [List.drop_of_length_le (by rw [Hnv.out]; exact Nat.le_refl _)] at hg
                exact hg)
              go_wp2
              go_ret
              rw [← HRq.out]
              exact ⟨rfl, HKr.out⟩
end Go.Proofs.WV

/-
  The plain law of layer 30 (wire): blanks outside of strings mean nothing. No program in sight; no condition.
-/
namespace Go.Proofs.WM

/-- Without the blanks that stand outside of strings; 'true': inside of one. -/
def bareB : Bool → Bs → Bs
  | _, [] => []
  | false, c :: r => if isBlank c then bareB false r else if c = 34 then c :: bareB true r else c :: bareB false r
  | true, [c] => [c]
  | true, c :: d :: r => if c = 92 then c :: d :: bareB true r else if c = 34 then c :: bareB false (d :: r) else c :: bareB true (d :: r)
theorem bare_nil (b : Bool) : bareB b [] = [] := by cases b <;> rfl
theorem bare_blank {c : UInt8} (h : isBlank c = true) (r : Bs) : bareB false (c :: r) = bareB false r := by
  show (if isBlank c then _ else _) = _
  rw [if_pos h]
theorem bare_quote (r : Bs) : bareB false (34 :: r) = 34 :: bareB true r := rfl
theorem bare_plain {c : UInt8} (h : isBlank c = false) (h2 : c ≠ 34) (r : Bs) : bareB false (c :: r) = c :: bareB false r := by
  show (if isBlank c then _ else if c = 34 then _ else _) = _
  rw [if_neg (by rw [h]; decide), if_neg h2]
theorem bare_end (r : Bs) : bareB true (34 :: r) = 34 :: bareB false r := by
  cases r with
  | nil => rfl
  | cons d r => rfl
theorem bare_esc (d : UInt8) (r : Bs) : bareB true (92 :: d :: r) = 92 :: d :: bareB true r := rfl
theorem bare_in {c : UInt8} (h : c ≠ 92) (h2 : c ≠ 34) (r : Bs) : bareB true (c :: r) = c :: bareB true r := by
  cases r with
  | nil => rfl
  | cons d r =>
    show (if c = 92 then _ else if c = 34 then _ else _) = _
    rw [if_neg h, if_neg h2]
theorem bare_blanks : ∀ r : Bs, bareB false (blanksB r) = bareB false r
  | [] => rfl
  | c :: r => by
    unfold blanksB
    split
    · rename_i h; rw [bare_blank h]; exact bare_blanks r
    · rfl
theorem blanksB_head : ∀ {r : Bs} {c : UInt8} {q : Bs}, blanksB r = c :: q → isBlank c = false
  | [], c, q, h => by cases h
  | d :: r, c, q, h => by
    unfold blanksB at h
    split at h
    · exact blanksB_head h
    · rename_i hd; injection h with h _; subst h; simpa using hd
theorem bare_cons {r : Bs} {c : UInt8} {q : Bs} (h : blanksB r = c :: q) : ∃ q', bareB false r = c :: q' := by
  rw [← bare_blanks, h]
  by_cases h2 : c = 34
  · subst h2; exact ⟨_, rfl⟩
  · exact ⟨_, bare_plain (blanksB_head h) h2 q⟩
theorem blanks_bare (r : Bs) : blanksB (bareB false r) = bareB false r := by
  rcases h : blanksB r with _ | ⟨c, q⟩
  · rw [← bare_blanks, h]; rfl
  · obtain ⟨q', e⟩ := bare_cons h
    rw [e, blanksB_stop (blanksB_head h)]
theorem starts_bare {r : Bs} (h : startsDigit (blanksB r) = false) : startsDigit (bareB false r) = false := by
  rcases hb : blanksB r with _ | ⟨c, q⟩
  · rw [← bare_blanks, hb]; rfl
  · obtain ⟨q', e⟩ := bare_cons hb
    rw [e]
    rw [hb] at h
    exact h
def Clear (w : Bs) : Prop := ∀ c ∈ w, isBlank c = false ∧ c ≠ 34
instance (w : Bs) : Decidable (Clear w) := inferInstanceAs (Decidable (∀ c ∈ w, isBlank c = false ∧ c ≠ 34))
theorem wordB_bare : ∀ (w r r' : Bs), Clear w → wordB w r = .ok r' → wordB w (bareB false r) = .ok (bareB false r')
  | [], r, r', _, h => by unfold wordB at h; injection h with h; subst h; unfold wordB; rfl
  | c :: w, [], r', _, h => by unfold wordB at h; cases h
  | c :: w, d :: r, r', hc, h => by
    unfold wordB at h
    split at h
    · rename_i e
      subst e
      obtain ⟨h1, h2⟩ := hc d List.mem_cons_self
      rw [bare_plain h1 h2]
      unfold wordB
      rw [if_pos rfl]
      exact wordB_bare w r r' (fun c hc' => hc c (List.mem_cons_of_mem _ hc')) h
    · cases h
theorem digit_clear {c : UInt8} (h : isDigit c = true) : isBlank c = false ∧ c ≠ 34 := by
  have : ∀ i : Fin 256, isDigit (UInt8.ofNat i.val) = true → isBlank (UInt8.ofNat i.val) = false ∧ UInt8.ofNat i.val ≠ 34 := by decide +kernel
  have h2 := this ⟨c.toNat, c.toNat_lt⟩
  simp only at h2
  rw [← u8_of] at h2
  exact h2 h
theorem numB_first {m first : Bool} {n : Nat} {x : Bs} (hx : startsDigit x = false) : numB m first n x = .ok (n, x) := by
  cases x with
  | nil => rfl
  | cons c r => unfold numB; rw [if_neg (by simpa [startsDigit] using hx)]
theorem numB_bare {m : Bool} : ∀ (r : Bs) (first : Bool) (n k : Nat) (r' : Bs), numB m first n r = .ok (k, r') → startsDigit (blanksB r') = false → numB m first n (bareB false r) = .ok (k, bareB false r')
  | [], first, n, k, r', h, _ => by unfold numB at h; injection h with h; injection h with h1 h2; subst h1; subst h2; rfl
  | c :: r, first, n, k, r', h, hs => by
    unfold numB at h
    split at h
    · rename_i hd
      split at h
      · cases h
      · rename_i hn
        obtain ⟨h1, h2⟩ := digit_clear hd
        rw [bare_plain h1 h2]
        unfold numB
        rw [if_pos hd, if_neg hn]
        exact numB_bare r false _ k r' h hs
    · injection h with h; injection h with h1 h2; subst h1; subst h2
      exact numB_first (starts_bare hs)
theorem digitsB_bare {m : Bool} {r r' : Bs} {k : Nat} (h : digitsB m r = .ok (k, r')) (hs : startsDigit (blanksB r') = false) : digitsB m (bareB false r) = .ok (k, bareB false r') := by
  unfold digitsB at h ⊢
  split at h
  · rename_i hd
    have : startsDigit (bareB false r) = true := by
      cases r with
      | nil => cases hd
      | cons c r => obtain ⟨h1, h2⟩ := digit_clear (c := c) hd; rw [bare_plain h1 h2]; exact hd
    rw [if_pos this]
    exact numB_bare r true 0 k r' h hs
  · cases h
theorem intB_minus (q : Bs) : intB (45 :: q) = match digitsB true q with
    | .ok (n, r1) => .ok (-(n : Int), r1)
    | .error e => .error e := rfl
theorem escB_cons (c : UInt8) (r : Bs) : escB (c :: r) = match shortB c with
    | some b => .ok (b, r)
    | none => if c = 117 then (match hexB4 4 0 r with
      | .ok (n, r1) => .ok (UInt8.ofNat n, r1)
      | .error e => .error e) else .error (r.length + 1) := rfl
theorem intB_bare {r r' : Bs} {n : Int} (h : intB r = .ok (n, r')) (hs : startsDigit (blanksB r') = false) : intB (bareB false r) = .ok (n, bareB false r') := by
  unfold intB at h
  split at h
  · rename_i q
    rcases hd : digitsB true q with e | ⟨k, r1⟩
    · rw [hd] at h; cases h
    · rw [hd] at h; injection h with h; injection h with h1 h2; subst h1; subst h2
      rw [bare_plain (by decide) (by decide), intB_minus, digitsB_bare hd hs]
  · rename_i hne
    rcases hd : digitsB false r with e | ⟨k, r1⟩
    · rw [hd] at h; cases h
    · rw [hd] at h; injection h with h; injection h with h1 h2; subst h1; subst h2
      have hb := digitsB_bare hd hs
      unfold intB
      split
      · rename_i q hq
        rw [hq] at hb
        unfold digitsB at hb
        rw [if_neg (by simp [startsDigit]; decide)] at hb
        cases hb
      · rw [hb]
theorem hexB4_bare : ∀ (k n : Nat) (r r' : Bs) (m : Nat), hexB4 k n r = .ok (m, r') → hexB4 k n (bareB true r) = .ok (m, bareB true r')
  | 0, n, r, r', m, h => by unfold hexB4 at h ⊢; injection h with h; injection h with h1 h2; subst h1; subst h2; rfl
  | k + 1, n, [], r', m, h => by unfold hexB4 at h; cases h
  | k + 1, n, c :: r, r', m, h => by
    unfold hexB4 at h
    rcases hd : hexD c with _ | d
    · rw [hd] at h; cases h
    · rw [hd] at h
      simp only at h
      split at h
      · cases h
      · rename_i hn
        have h1 : c ≠ 92 := fun e => by subst e; cases hd
        have h2 : c ≠ 34 := fun e => by subst e; cases hd
        rw [bare_in h1 h2]
        unfold hexB4
        rw [hd]
        simp only
        rw [if_neg hn]
        exact hexB4_bare k _ r r' m h
theorem strGo_bare : ∀ (f : Nat) (acc r s r' : Bs), strGo f acc r = .ok (s, r') → ∀ f', (bareB true r).length < f' → strGo f' acc (bareB true r) = .ok (s, bareB false r')
  | 0, acc, r, s, r', h, _, _ => by unfold strGo at h; cases h
  | f + 1, acc, [], s, r', h, _, _ => by unfold strGo at h; cases h
  | f + 1, acc, c :: r, s, r', h, 0, hf => by omega
  | f + 1, acc, c :: r, s, r', h, f' + 1, hf => by
    unfold strGo at h
    split at h
    · rename_i hc
      injection h with h; injection h with h1 h2; subst h1; subst h2; subst hc
      rw [bare_end]
      unfold strGo
      rw [if_pos rfl]
    · rename_i hc
      split at h
      · cases h
      · rename_i h32
        split at h
        · rename_i h92
          subst h92
          rcases hd : escB r with e | ⟨b, r1⟩
          · rw [hd] at h; cases h
          · rw [hd] at h
            simp only at h
            cases r with
            | nil => unfold escB at hd; cases hd
            | cons d r =>
              rw [bare_esc] at hf ⊢
              have key : escB (d :: bareB true r) = .ok (b, bareB true r1) := by
                rw [escB_cons] at hd ⊢
                rcases hs : shortB d with _ | x
                · rw [hs] at hd
                  simp only at hd ⊢
                  split at hd
                  · rename_i h117
                    rw [if_pos h117]
                    rcases hx : hexB4 4 0 r with e | ⟨n, r2⟩
                    · rw [hx] at hd; cases hd
                    · rw [hx] at hd
                      injection hd with hd; injection hd with h1 h2; subst h1; subst h2
                      rw [hexB4_bare 4 0 r _ n hx]
                  · cases hd
                · rw [hs] at hd
                  injection hd with hd; injection hd with h1 h2; subst h1; subst h2
                  rfl
              unfold strGo
              rw [if_neg (by decide), if_neg (by decide), if_pos rfl, key]
              simp only
              have hl := escB_len key
              refine strGo_bare f _ r1 s r' h f' ?_
              simp only [List.length_cons] at hf hl
              omega
        · rename_i h92
          rw [bare_in h92 hc] at hf ⊢
          unfold strGo
          rw [if_neg hc, if_neg h32, if_neg h92]
          refine strGo_bare f _ r s r' h f' ?_
          simp only [List.length_cons] at hf
          omega
theorem strB_bare {r s r' : Bs} (h : strB r = .ok (s, r')) : strB (bareB false r) = .ok (s, bareB false r') := by
  unfold strB at h
  rcases hw : wordB [34] r with e | r1
  · rw [hw] at h; cases h
  · rw [hw] at h
    have e := wordB_len _ _ _ hw
    subst e
    rw [List.singleton_append, bare_quote]
    unfold strB
    have : wordB [34] (34 :: bareB true r1) = .ok (bareB true r1) := by simp [wordB]
    rw [this]
    exact strGo_bare _ _ _ _ _ h _ (Nat.lt_succ_self _)
theorem keyB_bare {ks : List ByteArray} {r r' : Bs} {k : ByteArray} (h : keyB ks r = .ok (k, r')) : keyB ks (bareB false r) = .ok (k, bareB false r') := by
  unfold keyB at h
  rcases hs : strB r with e | ⟨s, r1⟩
  · rw [hs] at h; cases h
  · rw [hs] at h
    simp only at h
    split at h
    · cases h
    · rename_i hk
      rcases hw : wordB [58] (blanksB r1) with e | r2
      · rw [hw] at h; cases h
      · rw [hw] at h
        injection h with h; injection h with h1 h2; subst h1; subst h2
        unfold keyB
        rw [strB_bare hs]
        simp only
        rw [if_neg hk]
        have := wordB_bare _ _ _ (by decide) hw
        rw [bare_blanks] at this
        rw [blanks_bare, this]
        simp only
        rw [blanks_bare, bare_blanks]
theorem moreB_bare {c : UInt8} (hc : c = 93 ∨ c = 125) {r r' : Bs} : (moreB c r = .done r' → moreB c (bareB false r) = .done (bareB false r') ∧ startsDigit (blanksB r) = false) ∧ (moreB c r = .more r' → moreB c (bareB false r) = .more (bareB false r') ∧ startsDigit (blanksB r) = false) := by
  have hcl : isBlank c = false ∧ c ≠ 34 ∧ isDigit c = false := by rcases hc with rfl | rfl <;> decide
  constructor
  · intro h
    unfold moreB at h
    rcases hb : blanksB r with _ | ⟨d, q⟩
    · rw [hb] at h; cases h
    · rw [hb] at h
      simp only at h
      split at h
      · rename_i e
        subst e
        injection h with h; subst h
        refine ⟨?_, hcl.2.2⟩
        unfold moreB
        rw [blanks_bare, ← bare_blanks, hb, bare_plain hcl.1 hcl.2.1]
        simp
      · split at h <;> cases h
  · intro h
    unfold moreB at h
    rcases hb : blanksB r with _ | ⟨d, q⟩
    · rw [hb] at h; cases h
    · rw [hb] at h
      simp only at h
      split at h
      · cases h
      · rename_i hne
        split at h
        · rename_i e
          subst e
          injection h with h; subst h
          refine ⟨?_, by rfl⟩
          unfold moreB
          rw [blanks_bare, ← bare_blanks r, hb, bare_plain (by decide) (by decide)]
          simp only
          rw [if_neg hne, blanks_bare, bare_blanks]
          simp
        · cases h
theorem openB_bare {c : UInt8} (hc : c = 93 ∨ c = 125) {r : Bs} : openB c (bareB false r) = (openB c r).map (bareB false) := by
  have hcl : isBlank c = false ∧ c ≠ 34 := by rcases hc with rfl | rfl <;> decide
  unfold openB
  rw [blanks_bare]
  rcases hb : blanksB r with _ | ⟨d, q⟩
  · rw [← bare_blanks, hb]; rfl
  · by_cases e : d = c
    · subst e
      rw [← bare_blanks, hb, bare_plain hcl.1 hcl.2]
      simp
    · obtain ⟨q', e'⟩ := bare_cons hb
      rw [e']
      simp [e]
theorem read_bare : ∀ f : Nat,
    (∀ deep r v r', valueF f deep r = .ok (v, r') → startsDigit (blanksB r') = false → valueF f deep (bareB false r) = .ok (v, bareB false r')) ∧
    (∀ deep r v r', innerF f deep r = .ok (v, r') → startsDigit (blanksB r') = false → innerF f deep (bareB false r) = .ok (v, bareB false r')) ∧
    (∀ deep acc r vs r', itemsF f deep acc r = .ok (vs, r') → itemsF f deep acc (bareB false r) = .ok (vs, bareB false r')) ∧
    (∀ deep ks vs r x r', pairsF f deep ks vs r = .ok (x, r') → pairsF f deep ks vs (bareB false r) = .ok (x, bareB false r')) := by
  intro f
  induction f with
  | zero =>
    refine ⟨fun deep r v r' h => ?_, fun deep r v r' h => ?_, fun deep acc r vs r' h => ?_, fun deep ks vs r x r' h => ?_⟩
    · unfold valueF at h; cases h
    · unfold innerF at h; cases h
    · unfold itemsF at h; cases h
    · unfold pairsF at h; cases h
  | succ f ih =>
    obtain ⟨ihV, ihI, ihL, ihP⟩ := ih
    refine ⟨fun deep r v r' h hs => ?_, fun deep r v r' h hs => ?_, fun deep acc r vs r' h => ?_, fun deep ks vs r x r' h => ?_⟩
    · cases r with
      | nil => unfold valueF at h; cases h
      | cons c q =>
        unfold valueF at h
        split at h
        · rename_i hc
          rcases hw : wordB [110, 117, 108, 108] (c :: q) with e | r1
          · rw [hw] at h; cases h
          · rw [hw] at h; injection h with h; injection h with h1 h2; subst h1; subst h2
            have := wordB_bare _ _ _ (by decide) hw
            subst hc
            rw [bare_plain (by decide) (by decide)] at this ⊢
            unfold valueF
            rw [if_pos rfl, this]
        rename_i n1
        split at h
        · rename_i hc
          rcases hw : wordB [116, 114, 117, 101] (c :: q) with e | r1
          · rw [hw] at h; cases h
          · rw [hw] at h; injection h with h; injection h with h1 h2; subst h1; subst h2
            have := wordB_bare _ _ _ (by decide) hw
            subst hc
            rw [bare_plain (by decide) (by decide)] at this ⊢
            unfold valueF
            rw [if_neg n1, if_pos rfl, this]
        rename_i n2
        split at h
        · rename_i hc
          rcases hw : wordB [102, 97, 108, 115, 101] (c :: q) with e | r1
          · rw [hw] at h; cases h
          · rw [hw] at h; injection h with h; injection h with h1 h2; subst h1; subst h2
            have := wordB_bare _ _ _ (by decide) hw
            subst hc
            rw [bare_plain (by decide) (by decide)] at this ⊢
            unfold valueF
            rw [if_neg n1, if_neg n2, if_pos rfl, this]
        rename_i n3
        split at h
        · rename_i hc
          rcases hw : strB (c :: q) with e | ⟨s, r1⟩
          · rw [hw] at h; cases h
          · rw [hw] at h; injection h with h; injection h with h1 h2; subst h1; subst h2
            have := strB_bare hw
            subst hc
            rw [bare_quote] at this ⊢
            unfold valueF
            rw [if_neg n1, if_neg n2, if_neg n3, if_pos rfl, this]
        rename_i n4
        split at h
        · rename_i hc
          rcases hw : intB (c :: q) with e | ⟨n, r1⟩
          · rw [hw] at h; cases h
          · rw [hw] at h; injection h with h; injection h with h1 h2; subst h1; subst h2
            have := intB_bare hw hs
            have hcl : isBlank c = false ∧ c ≠ 34 := by
              rcases hc with rfl | hc
              · decide
              · exact digit_clear hc
            rw [bare_plain hcl.1 hcl.2] at this ⊢
            unfold valueF
            rw [if_neg n1, if_neg n2, if_neg n3, if_neg n4, if_pos hc, this]
        rename_i n5
        split at h
        · rename_i hc
          subst hc
          rw [bare_plain (by decide) (by decide)]
          unfold valueF
          rw [if_neg n1, if_neg n2, if_neg n3, if_neg n4, if_neg n5, if_pos rfl, openB_bare (.inl rfl)]
          rcases ho : openB 93 q with _ | r1
          · rw [ho] at h
            simp only at h
            rcases hi : itemsF f deep [] (blanksB q) with e | ⟨vs, r1⟩
            · rw [hi] at h; cases h
            · rw [hi] at h; injection h with h; injection h with h1 h2; subst h1; subst h2
              have := ihL _ _ _ _ _ hi
              rw [bare_blanks] at this
              simp only [Option.map_none]
              rw [blanks_bare, this]
          · rw [ho] at h; injection h with h; injection h with h1 h2; subst h1; subst h2
            rfl
        rename_i n6
        split at h
        · rename_i hc
          subst hc
          rw [bare_plain (by decide) (by decide)]
          unfold valueF
          rw [if_neg n1, if_neg n2, if_neg n3, if_neg n4, if_neg n5, if_neg n6, if_pos rfl, openB_bare (.inr rfl)]
          rcases ho : openB 125 q with _ | r1
          · rw [ho] at h
            simp only at h
            rcases hi : pairsF f deep [] [] (blanksB q) with e | ⟨⟨ks, vs⟩, r1⟩
            · rw [hi] at h; cases h
            · rw [hi] at h; injection h with h; injection h with h1 h2; subst h1; subst h2
              have := ihP _ _ _ _ _ _ hi
              rw [bare_blanks] at this
              simp only [Option.map_none]
              rw [blanks_bare, this]
          · rw [ho] at h; injection h with h; injection h with h1 h2; subst h1; subst h2
            rfl
        · cases h
    · unfold innerF at h ⊢
      split at h
      · cases h
      · rename_i hd
        rw [if_neg hd]
        exact ihV _ _ _ _ h hs
    · unfold itemsF at h ⊢
      rcases hi : innerF f deep r with e | ⟨v, r1⟩
      · rw [hi] at h; cases h
      · rw [hi] at h
        simp only at h
        rcases hm : moreB 93 r1 with r2 | r2 | e
        · rw [hm] at h; injection h with h; injection h with h1 h2; subst h1; subst h2
          obtain ⟨hb, hs⟩ := (moreB_bare (.inl rfl)).1 hm
          rw [ihI _ _ _ _ hi hs]
          simp only
          rw [hb]
        · rw [hm] at h
          obtain ⟨hb, hs⟩ := (moreB_bare (.inl rfl)).2 hm
          rw [ihI _ _ _ _ hi hs]
          simp only
          rw [hb]
          exact ihL _ _ _ _ _ h
        · rw [hm] at h; cases h
    · unfold pairsF at h ⊢
      rcases hk : keyB ks r with e | ⟨k, r0⟩
      · rw [hk] at h; cases h
      · rw [hk] at h
        simp only at h
        rw [keyB_bare hk]
        simp only
        rcases hi : innerF f deep r0 with e | ⟨v, r1⟩
        · rw [hi] at h; cases h
        · rw [hi] at h
          simp only at h
          rcases hm : moreB 125 r1 with r2 | r2 | e
          · rw [hm] at h; injection h with h; injection h with h1 h2; subst h1; subst h2
            obtain ⟨hb, hs⟩ := (moreB_bare (.inr rfl)).1 hm
            rw [ihI _ _ _ _ hi hs]
            simp only
            rw [hb]
          · rw [hm] at h
            obtain ⟨hb, hs⟩ := (moreB_bare (.inr rfl)).2 hm
            rw [ihI _ _ _ _ hi hs]
            simp only
            rw [hb]
            exact ihP _ _ _ _ _ _ h
          · rw [hm] at h; cases h
/-- Fuel that is enough changes nothing. -/
theorem fuel_V : ∀ f : Nat,
    (∀ f' deep r, 3 * r.length + 1 ≤ f → 3 * r.length + 1 ≤ f' → valueF f deep r = valueF f' deep r) ∧
    (∀ f' deep r, 3 * r.length + 2 ≤ f → 3 * r.length + 2 ≤ f' → innerF f deep r = innerF f' deep r) ∧
    (∀ f' deep acc r, 3 * r.length + 3 ≤ f → 3 * r.length + 3 ≤ f' → itemsF f deep acc r = itemsF f' deep acc r) ∧
    (∀ f' deep ks vs r, 3 * r.length + 3 ≤ f → 3 * r.length + 3 ≤ f' → pairsF f deep ks vs r = pairsF f' deep ks vs r) := by
  intro f
  induction f with
  | zero => exact ⟨fun _ _ _ h => by omega, fun _ _ _ h => by omega, fun _ _ _ _ h => by omega, fun _ _ _ _ _ h => by omega⟩
  | succ f ih =>
    obtain ⟨ihV, ihI, ihL, ihP⟩ := ih
    refine ⟨fun f' deep r h h' => ?_, fun f' deep r h h' => ?_, fun f' deep acc r h h' => ?_, fun f' deep ks vs r h h' => ?_⟩
    · obtain ⟨g, rfl⟩ : ∃ g, f' = g + 1 := ⟨f' - 1, by omega⟩
      cases r with
      | nil => unfold valueF; rfl
      | cons c q =>
        simp only [List.length_cons] at h h'
        have hb := blanksB_le q
        unfold valueF
        rw [ihL g deep [] (blanksB q) (by omega) (by omega), ihP g deep [] [] (blanksB q) (by omega) (by omega)]
    · obtain ⟨g, rfl⟩ : ∃ g, f' = g + 1 := ⟨f' - 1, by omega⟩
      unfold innerF
      rw [ihV g (deep - 1) r (by omega) (by omega)]
    · obtain ⟨g, rfl⟩ : ∃ g, f' = g + 1 := ⟨f' - 1, by omega⟩
      unfold itemsF
      rw [ihI g deep r (by omega) (by omega)]
      rcases hi : innerF g deep r with e | ⟨v, r1⟩
      · rfl
      · simp only
        have hl := ((read_ok g).2.1 _ _ _ _ hi).2.1
        rcases hm : moreB 93 r1 with r2 | r2 | e
        · rfl
        · have := moreB_len (.inr hm)
          simp only
          exact ihL g deep _ r2 (by omega) (by omega)
        · rfl
    · obtain ⟨g, rfl⟩ : ∃ g, f' = g + 1 := ⟨f' - 1, by omega⟩
      unfold pairsF
      rcases hk : keyB ks r with e | ⟨k, r0⟩
      · rfl
      · simp only
        have hkl := (keyB_len hk).1
        rw [ihI g deep r0 (by omega) (by omega)]
        rcases hi : innerF g deep r0 with e | ⟨v, r1⟩
        · rfl
        · simp only
          have hl := ((read_ok g).2.1 _ _ _ _ hi).2.1
          rcases hm : moreB 125 r1 with r2 | r2 | e
          · rfl
          · have := moreB_len (.inr hm)
            simp only
            exact ihP g deep _ _ r2 (by omega) (by omega)
          · rfl
theorem bare_le : ∀ (b : Bool) (r : Bs), (bareB b r).length ≤ r.length
  | b, [] => by rw [bare_nil]; exact Nat.le_refl _
  | false, c :: r => by
    show (if isBlank c then bareB false r else if c = 34 then c :: bareB true r else c :: bareB false r).length ≤ _
    have h1 := bare_le false r
    have h2 := bare_le true r
    split
    · exact Nat.le_succ_of_le h1
    · split
      · exact Nat.succ_le_succ h2
      · exact Nat.succ_le_succ h1
  | true, [c] => Nat.le_refl _
  | true, c :: d :: r => by
    show (if c = 92 then c :: d :: bareB true r else if c = 34 then c :: bareB false (d :: r) else c :: bareB true (d :: r)).length ≤ _
    have h1 := bare_le true r
    have h2 := bare_le false (d :: r)
    have h3 := bare_le true (d :: r)
    split
    · exact Nat.succ_le_succ (Nat.succ_le_succ h1)
    · split
      · exact Nat.succ_le_succ h2
      · exact Nat.succ_le_succ h3
/-- BLANKS MEAN NOTHING. -/
theorem readJ_bare {t : Bs} {v : J} (h : readJ t = .ok v) : readJ (bareB false t) = .ok v := by
  unfold readJ at h ⊢
  rcases hv : valueF (4 * t.length + 8) 40 (blanksB t) with e | ⟨w, r⟩
  · rw [hv] at h; cases h
  · rw [hv] at h
    simp only at h
    rcases hr : blanksB r with _ | ⟨c, q⟩
    · rw [hr] at h
      injection h with h; subst h
      have hb := (read_bare _).1 _ _ _ _ hv (by rw [hr]; rfl)
      rw [bare_blanks] at hb
      have hl := bare_le false t
      rw [blanks_bare, (fuel_V _).1 (4 * t.length + 8) 40 (bareB false t) (by omega) (by omega), hb]
      simp only
      rw [blanks_bare, ← bare_blanks, hr]
      rfl
    · rw [hr] at h; cases h
theorem bare_esc1 (c : UInt8) (x : Bs) : bareB true (esc c ++ x) = esc c ++ bareB true x := by
  unfold esc
  split
  · exact bare_esc _ _
  · rename_i hc
    simp only [not_or] at hc
    split
    · exact bare_esc _ _
    · split
      · have hh : ∀ i : Fin 256, (hexB (UInt8.ofNat i.val / 16) ≠ 92 ∧ hexB (UInt8.ofNat i.val / 16) ≠ 34) ∧ (hexB (UInt8.ofNat i.val % 16) ≠ 92 ∧ hexB (UInt8.ofNat i.val % 16) ≠ 34) := by decide +kernel
        have h2 := hh ⟨c.toNat, c.toNat_lt⟩
        simp only at h2
        rw [← u8_of] at h2
        simp only [List.cons_append, List.nil_append]
        rw [bare_esc, bare_in (by decide) (by decide), bare_in (by decide) (by decide), bare_in h2.1.1 h2.1.2, bare_in h2.2.1 h2.2.2]
      · exact bare_in hc.2 hc.1 x
theorem bare_quoteB (s x : Bs) : bareB false (quoteB s ++ x) = quoteB s ++ bareB false x := by
  have key : ∀ s : Bs, bareB true (s.flatMap esc ++ ([34] ++ x)) = s.flatMap esc ++ (34 :: bareB false x) := fun s => by
    induction s with
    | nil => exact bare_end x
    | cons c s ih => rw [List.flatMap_cons, List.append_assoc, bare_esc1, ih, List.append_assoc]
  have e : quoteB s ++ x = 34 :: (s.flatMap esc ++ ([34] ++ x)) := by simp [quoteB]
  rw [e, bare_quote, key]
  simp [quoteB]
theorem bare_clear : ∀ (w x : Bs), Clear w → bareB false (w ++ x) = w ++ bareB false x
  | [], x, _ => rfl
  | c :: w, x, h => by
    obtain ⟨h1, h2⟩ := h c List.mem_cons_self
    rw [List.cons_append, bare_plain h1 h2, bare_clear w x (fun c hc => h c (List.mem_cons_of_mem _ hc))]; rfl
theorem dec_clear (u : Nat) : Clear (Lib.decDigits u) := by
  induction u using Nat.strongRecOn with
  | _ u ih =>
    intro c hc
    by_cases h : u < 10
    · rw [Lib.decDigits_one h] at hc
      simp only [List.mem_singleton] at hc
      subst hc
      exact digit_clear (dig_at h).1
    · rw [decDigits_big h, List.mem_append] at hc
      rcases hc with hc | hc
      · exact ih (u / 10) (by omega) c hc
      · simp only [List.mem_singleton] at hc
        subst hc
        exact digit_clear (dig_at (Nat.mod_lt _ (by decide))).1
theorem itoa_clear (n : Int) : Clear (Lib.itoa n) := by
  unfold Lib.itoa
  split
  · intro c hc
    rcases List.mem_cons.1 hc with rfl | hc
    · decide
    · exact dec_clear _ c hc
  · exact dec_clear _
/-- Parts that stay as they are. -/
def Stays (p : Bs) : Prop := ∀ x, bareB false (p ++ x) = p ++ bareB false x
theorem Stays.append {a b : Bs} (ha : Stays a) (hb : Stays b) : Stays (a ++ b) := fun x => by rw [List.append_assoc, ha, hb, List.append_assoc]
theorem stays_joinC : ∀ l : List Bs, (∀ p ∈ l, Stays p) → Stays (joinC l)
  | [], _ => fun x => rfl
  | a :: l, h => by
    have key : ∀ l : List Bs, (∀ p ∈ l, Stays p) → Stays (l.flatMap (44 :: ·)) := fun l => by
      induction l with
      | nil => exact fun _ x => rfl
      | cons b l ih =>
        intro h
        rw [List.flatMap_cons]
        exact Stays.append (Stays.append (a := [44]) (fun x => bare_clear [44] x (by decide)) (h b List.mem_cons_self)) (ih (fun p hp => h p (List.mem_cons_of_mem _ hp)))
    exact Stays.append (h a List.mem_cons_self) (key l (fun p hp => h p (List.mem_cons_of_mem _ hp)))
theorem stays_pairs : ∀ (ks : List ByteArray) (ps : List Bs), (∀ p ∈ ps, Stays p) → ∀ p ∈ List.zipWith (fun q p => quoteB (bl q) ++ [58] ++ p) ks ps, Stays p
  | [], _, _, p, hp => by simp at hp
  | _ :: _, [], _, p, hp => by simp at hp
  | k :: ks, a :: ps, h, p, hp => by
    rw [List.zipWith_cons_cons] at hp
    rcases List.mem_cons.1 hp with rfl | hp
    · exact Stays.append (Stays.append (fun x => bare_quoteB _ x) (fun x => bare_clear [58] x (by decide))) (h a List.mem_cons_self)
    · exact stays_pairs ks ps (fun p hp => h p (List.mem_cons_of_mem _ hp)) p hp
mutual
theorem stays_text : ∀ v : J, Stays (textJ v)
  | .mk k b n t ks vs => by
    have hl := stays_textL vs
    unfold textJ
    split
    · exact fun x => bare_clear _ x (by decide)
    split
    · split
      · exact fun x => bare_clear _ x (by decide)
      · exact fun x => bare_clear _ x (by decide)
    split
    · exact fun x => bare_clear _ x (itoa_clear n)
    split
    · exact fun x => bare_quoteB _ x
    split
    · exact Stays.append (Stays.append (fun x => bare_clear [91] x (by decide)) (stays_joinC _ hl)) (fun x => bare_clear [93] x (by decide))
    · exact Stays.append (Stays.append (fun x => bare_clear [123] x (by decide)) (stays_joinC _ (stays_pairs ks _ hl))) (fun x => bare_clear [125] x (by decide))
theorem stays_textL : ∀ vs : List J, ∀ p ∈ textL vs, Stays p
  | [], p, hp => by simp [textL] at hp
  | v :: r, p, hp => by
    unfold textL at hp
    rcases List.mem_cons.1 hp with rfl | hp
    · exact stays_text v
    · exact stays_textL r p hp
end
/-- A value's text has no blanks outside of strings. -/
theorem bare_textJ (v : J) : bareB false (textJ v) = textJ v := by
  have := stays_text v []
  rwa [List.append_nil, bare_nil, List.append_nil] at this
end Go.Proofs.WM

/-
  The laws' bare (a string without the blanks outside of its strings), by the program, in memory. Condition: at most a thousand million bytes.
-/
namespace Go.Proofs.WV
open Go.RowKit Go.Proofs.KL Go.Proofs.WM
set_option maxRecDepth 100000
set_option linter.unusedSimpArgs false
set_option linter.unusedVariables false

theorem str_at {T : ByteArray} {i : Nat} {c : UInt8} {q : Bs} (h : (bl T).drop i = c :: q) : ∃ hi : i < T.size, ((T[i].toNat : Nat) : Int) = (c.toNat : Int) := by
  obtain ⟨h1, h2, -⟩ := drop_cons h
  have hi : i < T.size := by rw [bl_len] at h1; exact h1
  refine ⟨hi, ?_⟩
  have h3 : (bl T)[i]? = some T[i] := by
    rw [List.getElem?_eq_getElem h1]; rfl
  rw [List.getD_eq_getElem?_getD, h3] at h2
  have h4 : T[i] = c := h2
  rw [h4]
theorem blank_cases (c : UInt8) : isBlank c = true ↔ ((c.toNat : Int) = 32 ∨ (c.toNat : Int) = 9 ∨ (c.toNat : Int) = 10 ∨ (c.toNat : Int) = 13) := by
  have e : ∀ n : UInt8, (c == n) = true ↔ (c.toNat : Int) = (n.toNat : Int) := fun n => by
    rw [beq_iff_eq]
    constructor
    · rintro rfl; rfl
    · intro h; exact UInt8.toNat_inj.1 (by omega)
  unfold isBlank
  rw [Bool.or_eq_true, Bool.or_eq_true, Bool.or_eq_true, e, e, e, e]
  show ((((c.toNat : Int) = 32 ∨ (c.toNat : Int) = 9) ∨ (c.toNat : Int) = 10) ∨ (c.toNat : Int) = 13) ↔ _
  constructor
  · rintro (((h | h) | h) | h)
    · exact .inl h
    · exact .inr (.inl h)
    · exact .inr (.inr (.inl h))
    · exact .inr (.inr (.inr h))
  · rintro (h | h | h | h)
    · exact .inl (.inl (.inl h))
    · exact .inl (.inl (.inr h))
    · exact .inl (.inr h)
    · exact .inr h
theorem byte_eq (c : UInt8) (n : Nat) (hn : n < 256) : c = UInt8.ofNat n ↔ (c.toNat : Int) = (n : Int) := by
  constructor
  · rintro rfl
    simp [Nat.mod_eq_of_lt hn]
  · intro h
    exact UInt8.toNat_inj.1 (by simp [Nat.mod_eq_of_lt hn]; omega)
set_option maxHeartbeats 8000000 in
theorem bare24 {w : World} {T : ByteArray} (hT : T.size ≤ 1000000000) : Calls Tryd.prog 24 #[.string T] w fun e w' => e = .returned (.string (mkB (bareB false (bl T)))) ∧ Keeps Nob w w' := by
  obtain ⟨R, hR⟩ : ∃ x, bareB false (bl T) = x := ⟨_, rfl⟩
  have hRl : R.length ≤ 1000000000 := by have := bare_le false (bl T); rw [hR, bl_len] at this; omega
  have HRl := Lib.hid hRl
  have HR := Lib.hid hR
  rw [hR]
  obtain ⟨n, hn⟩ : ∃ n, T.size = n := ⟨_, rfl⟩
  have Hn := Lib.hid hn
  have hni : (n : Int) ≤ 1000000000 := by omega
  clear hR hT hRl
  go_enter Tryd.func24, Tryd.ntmps24
  go_upto_region 4 with fail
  go_loopg [5, 4, 3] n (fun K iv fv ov wr => ∃ (i : Nat) (f : Bool) (oA : Option Addr) (oc : Nat) (out r : Bs), iv = .int .i64 i ∧ fv = .bool f ∧ ov = .slice oA out.length oc ∧ i + K = n ∧ i + r.length = n ∧ Hid ((bl T).drop i = r) ∧ Hid (OwnB wr w.heap.size (.slice oA out.length oc) out) ∧ Hid (Keeps Nob w wr) ∧ Hid (out ++ bareB f r = R))
  case atStart => exact ⟨0, false, none, 0, [], bl T, rfl, rfl, rfl, by omega, by rw [bl_len]; omega, Lib.hid rfl, Lib.hid (OwnB.nil _ _), Lib.hid (Keeps.refl _ _), HR⟩
  case round =>
    obtain ⟨i, f, oA, oc, out, r, rfl, rfl, rfl, hK, hir, Hr, HO, HK, HE⟩ := hrel
    rcases r with _ | ⟨ch, q⟩
    · have e : i = n := by simpa using hir
      subst e
      have hii : (i : Int) = T.size := by omega
      have HRR := Lib.hid (show out = R by rw [← HE.out, bare_nil, List.append_nil])
      clear hir hK
      go_wp2_with (first
        | ((with_reducible refine at_dst (N := 63) rfl ?_); go_must (refine ev_conv_bs rfl rfl Tryd.underlying38 Tryd.underlying5 Tryd.underlying9 (bs := out) rfl HO.out.bytes ?_); (try simp only [PU]))
      )
      go_ret
      rw [HRR.out]
      exact ⟨rfl, HK.out⟩
    · obtain ⟨hlt, hc⟩ := str_at Hr.out
      obtain ⟨hin, hget, hdrop⟩ := drop_cons Hr.out
      simp only [List.length_cons] at hir
      have Hq := Lib.hid hdrop
      have Hol := Lib.hid (show out.length ≤ 1000000000 by have := congrArg List.length HE.out; rw [List.length_append] at this; have := HRl.out; omega)
      have Hbl := Lib.hid (blank_cases ch)
      have H34 := Lib.hid (byte_eq ch 34 (by decide))
      have H92 := Lib.hid (byte_eq ch 92 (by decide))
      obtain ⟨cv, hcv⟩ : ∃ x : Int, (ch.toNat : Int) = x := ⟨_, rfl⟩
      have Hcv := Lib.hid hcv
      rw [hcv] at hc Hbl H34 H92
      have hini : (i : Int) < (T.size : Int) := by omega
      clear hin hget hdrop hcv
      cases f
      · rcases hb : isBlank ch with _ | _
        · have hnb : ¬ (cv = 32 ∨ cv = 9 ∨ cv = 10 ∨ cv = 13) := fun h => by have := Hbl.out.2 h; rw [hb] at this; cases this
          have b1 : (cv == 32) = false := beq_eq_false_iff_ne.2 (fun e => hnb (.inl e))
          have b2 : (cv == 9) = false := beq_eq_false_iff_ne.2 (fun e => hnb (.inr (.inl e)))
          have b3 : (cv == 10) = false := beq_eq_false_iff_ne.2 (fun e => hnb (.inr (.inr (.inl e))))
          have b4 : (cv == 13) = false := beq_eq_false_iff_ne.2 (fun e => hnb (.inr (.inr (.inr e))))
          have Hb := Lib.hid hb
          clear hnb hb
          by_cases h34 : cv = 34
          · have Hc34 := Lib.hid (H34.out.2 h34)
            subst h34
            go_wp2_with (first
              | ((with_reducible refine at_dst (N := 36) rfl ?_); go_must (refine ev_slice (cs := #[.int .u8 34]) (t := 5) (n := 1) (c := 1) rfl (by first | (go_simp; done) | (go_simp; rfl)) ?_; intro gb wb hgb hlb hbb hkb)
                 have Hbb := Lib.hid hbb
                 have HKb := Lib.hid (HK.out.trans hkb (fun _ _ h => h))
                 have HOb := Lib.hid (HO.out.keep hkb (fun _ _ => id))
                 clear hbb hkb hgb hlb
                 (try simp only [PU]))
              | ((with_reducible refine at_dst (N := 37) rfl ?_); go_must (refine ev_app_sl rfl rfl byteT38 (base := w.heap.size) rfl HOb.out rfl (news := [ch]) rfl (fun _ => ⟨_, rfl, by rw [List.map_cons, List.map_nil]; unfold byteV; rw [Hcv.out]; exact World.news_of_block Hbb.out⟩) (by have := Hol.out; omega) HKb.out.size ?_; intro v' wc ho2 ha2; obtain ⟨nA, nc, hv'⟩ := ho2.slice; subst hv')
                 have HO2 := Lib.hid ho2
                 have HK2 := Lib.hid (HKb.out.trans ha2.keep (fun i hi e => by have := (HOb.out.lt i e.symm).1; omega))
                 clear ho2 ha2
                 (try simp only [PU]))
            )
            go_roundg (n - i - 1)
            case measure => omega
            case rel => exact ⟨i + 1, true, nA, nc, out ++ [ch], q, by rfl, rfl, by rw [List.length_append] <;> rfl, by omega, by omega, Lib.hid Hq.out, HO2, HK2, Lib.hid (by rw [← HE.out, (show bareB false (ch :: q) = ch :: bareB true q by rw [Hc34.out] <;> rfl), List.append_assoc] <;> rfl)⟩
          · have Hc34 := Lib.hid (show ch ≠ 34 from fun e => h34 (H34.out.1 e))
            have b5 : (cv == 34) = false := beq_eq_false_iff_ne.2 h34
            go_wp2_with (first
              | ((with_reducible refine at_dst (N := 36) rfl ?_); go_must (refine ev_slice (cs := #[.int .u8 cv]) (t := 5) (n := 1) (c := 1) rfl (by first | (go_simp; done) | (go_simp; rfl)) ?_; intro gb wb hgb hlb hbb hkb)
                 have Hbb := Lib.hid hbb
                 have HKb := Lib.hid (HK.out.trans hkb (fun _ _ h => h))
                 have HOb := Lib.hid (HO.out.keep hkb (fun _ _ => id))
                 clear hbb hkb hgb hlb
                 (try simp only [PU]))
              | ((with_reducible refine at_dst (N := 37) rfl ?_); go_must (refine ev_app_sl rfl rfl byteT38 (base := w.heap.size) rfl HOb.out rfl (news := [ch]) rfl (fun _ => ⟨_, rfl, by rw [List.map_cons, List.map_nil]; unfold byteV; rw [Hcv.out]; exact World.news_of_block Hbb.out⟩) (by have := Hol.out; omega) HKb.out.size ?_; intro v' wc ho2 ha2; obtain ⟨nA, nc, hv'⟩ := ho2.slice; subst hv')
                 have HO2 := Lib.hid ho2
                 have HK2 := Lib.hid (HKb.out.trans ha2.keep (fun i hi e => by have := (HOb.out.lt i e.symm).1; omega))
                 clear ho2 ha2
                 (try simp only [PU]))
            )
            go_roundg (n - i - 1)
            case measure => omega
            case rel => exact ⟨i + 1, false, nA, nc, out ++ [ch], q, by rfl, rfl, by rw [List.length_append] <;> rfl, by omega, by omega, Lib.hid Hq.out, HO2, HK2, Lib.hid (by rw [← HE.out, (bare_plain Hb.out Hc34.out), List.append_assoc] <;> rfl)⟩
        · have hcase := Hbl.out.1 hb
          have Hb := Lib.hid hb
          clear hb
          rcases hcase with e | e | e | e
          · subst e
            go_wp2
            go_roundg (n - i - 1)
            case measure => omega
            case rel => exact ⟨i + 1, false, oA, oc, out, q, by rfl, rfl, rfl, by omega, by omega, Lib.hid Hq.out, HO, HK, Lib.hid (by rw [← HE.out, bare_blank Hb.out])⟩
          · subst e
            go_wp2
            go_roundg (n - i - 1)
            case measure => omega
            case rel => exact ⟨i + 1, false, oA, oc, out, q, by rfl, rfl, rfl, by omega, by omega, Lib.hid Hq.out, HO, HK, Lib.hid (by rw [← HE.out, bare_blank Hb.out])⟩
          · subst e
            go_wp2
            go_roundg (n - i - 1)
            case measure => omega
            case rel => exact ⟨i + 1, false, oA, oc, out, q, by rfl, rfl, rfl, by omega, by omega, Lib.hid Hq.out, HO, HK, Lib.hid (by rw [← HE.out, bare_blank Hb.out])⟩
          · subst e
            go_wp2
            go_roundg (n - i - 1)
            case measure => omega
            case rel => exact ⟨i + 1, false, oA, oc, out, q, by rfl, rfl, rfl, by omega, by omega, Lib.hid Hq.out, HO, HK, Lib.hid (by rw [← HE.out, bare_blank Hb.out])⟩
      · by_cases h92 : cv = 92
        · have Hc92 := Lib.hid (H92.out.2 h92)
          subst h92
          rcases hqq : q with _ | ⟨d, q'⟩
          · have hlast : ¬ ((i : Int) + 1 < (T.size : Int)) := by rw [hqq] at hir; simp only [List.length_nil] at hir; omega
            have HQQ := Lib.hid hqq
            clear hqq
            go_wp2_with (first
              | ((with_reducible refine at_dst (N := 36) rfl ?_); go_must (refine ev_slice (cs := #[.int .u8 92]) (t := 5) (n := 1) (c := 1) rfl (by first | (go_simp; done) | (go_simp; rfl)) ?_; intro gb wb hgb hlb hbb hkb)
                 have Hbb := Lib.hid hbb
                 have HKb := Lib.hid (HK.out.trans hkb (fun _ _ h => h))
                 have HOb := Lib.hid (HO.out.keep hkb (fun _ _ => id))
                 clear hbb hkb hgb hlb
                 (try simp only [PU]))
              | ((with_reducible refine at_dst (N := 37) rfl ?_); go_must (refine ev_app_sl rfl rfl byteT38 (base := w.heap.size) rfl HOb.out rfl (news := [ch]) rfl (fun _ => ⟨_, rfl, by rw [List.map_cons, List.map_nil]; unfold byteV; rw [Hcv.out]; exact World.news_of_block Hbb.out⟩) (by have := Hol.out; omega) HKb.out.size ?_; intro v' wc ho2 ha2; obtain ⟨nA, nc, hv'⟩ := ho2.slice; subst hv')
                 have HO2 := Lib.hid ho2
                 have HK2 := Lib.hid (HKb.out.trans ha2.keep (fun i hi e => by have := (HOb.out.lt i e.symm).1; omega))
                 clear ho2 ha2
                 (try simp only [PU]))
            )
            go_roundg (n - i - 1)
            case measure => omega
            case rel => exact ⟨i + 1, true, nA, nc, out ++ [ch], q, by rfl, rfl, by rw [List.length_append] <;> rfl, by omega, by omega, Lib.hid Hq.out, HO2, HK2, Lib.hid (by rw [← HE.out, (show bareB true (ch :: q) = ch :: bareB true q by rw [HQQ.out] <;> rfl), List.append_assoc] <;> rfl)⟩
          · subst hqq
            obtain ⟨hlt2, hd⟩ := str_at Hq.out
            obtain ⟨hin2, hget2, hdrop2⟩ := drop_cons Hq.out
            have Hq2 := Lib.hid hdrop2
            simp only [List.length_cons] at hir
            obtain ⟨dv, hdv⟩ : ∃ x : Int, (d.toNat : Int) = x := ⟨_, rfl⟩
            have Hdv := Lib.hid hdv
            rw [hdv] at hd
            have hmore : (i : Int) + 1 < (T.size : Int) := by omega
            clear hin2 hget2 hdrop2 hdv
            go_wp2_with (first
              | ((with_reducible refine at_dst (N := 36) rfl ?_); go_must (refine ev_slice (cs := #[.int .u8 92]) (t := 5) (n := 1) (c := 1) rfl (by first | (go_simp; done) | (go_simp; rfl)) ?_; intro gb wb hgb hlb hbb hkb)
                 have Hbb := Lib.hid hbb
                 have HKb := Lib.hid (HK.out.trans hkb (fun _ _ h => h))
                 have HOb := Lib.hid (HO.out.keep hkb (fun _ _ => id))
                 clear hbb hkb hgb hlb
                 (try simp only [PU]))
              | ((with_reducible refine at_dst (N := 37) rfl ?_); go_must (refine ev_app_sl rfl rfl byteT38 (base := w.heap.size) rfl HOb.out rfl (news := [ch]) rfl (fun _ => ⟨_, rfl, by rw [List.map_cons, List.map_nil]; unfold byteV; rw [Hcv.out]; exact World.news_of_block Hbb.out⟩) (by have := Hol.out; omega) HKb.out.size ?_; intro v' wc ho2 ha2; obtain ⟨nA, nc, hv'⟩ := ho2.slice; subst hv')
                 have HO2 := Lib.hid ho2
                 have HK2 := Lib.hid (HKb.out.trans ha2.keep (fun i hi e => by have := (HOb.out.lt i e.symm).1; omega))
                 clear ho2 ha2
                 (try simp only [PU]))
              | ((with_reducible refine at_dst (N := 56) rfl ?_); go_must (refine ev_slice (cs := #[.int .u8 dv]) (t := 5) (n := 1) (c := 1) rfl (by first | (go_simp; done) | (go_simp; rfl)) ?_; intro gd wd hgd hld hbd hkd)
                 have Hbd := Lib.hid hbd
                 have HKd := Lib.hid (HK2.out.trans hkd (fun _ _ h => h))
                 have HOd := Lib.hid (HO2.out.keep hkd (fun _ _ => id))
                 clear hbd hkd hgd hld
                 (try simp only [PU]))
              | ((with_reducible refine at_dst (N := 57) rfl ?_); go_must (refine ev_app_sl rfl rfl byteT38 (base := w.heap.size) rfl HOd.out rfl (news := [d]) rfl (fun _ => ⟨_, rfl, by rw [List.map_cons, List.map_nil]; unfold byteV; rw [Hdv.out]; exact World.news_of_block Hbd.out⟩) (by have := Hol.out; simp only [List.length_append, List.length_cons, List.length_nil]; omega) HKd.out.size ?_; intro v' we ho3 ha3; obtain ⟨mA, mc, hv'⟩ := ho3.slice; subst hv')
                 have HO3 := Lib.hid ho3
                 have HK3 := Lib.hid (HKd.out.trans ha3.keep (fun i hi e => by have := (HOd.out.lt i e.symm).1; omega))
                 clear ho3 ha3
                 (try simp only [PU]))
            )
            go_roundg (n - i - 2)
            case measure => omega
            case rel => exact ⟨i + 2, true, mA, mc, out ++ [ch] ++ [d], q', by first | rfl | (congr 1; omega), rfl, by simp only [List.length_append, List.length_cons, List.length_nil], by omega, by omega, Lib.hid Hq2.out, HO3, HK3, Lib.hid (by rw [← HE.out, Hc92.out, show bareB true (UInt8.ofNat 92 :: d :: q') = UInt8.ofNat 92 :: d :: bareB true q' from rfl, List.append_assoc, List.append_assoc]; rfl)⟩
        · have Hc92 := Lib.hid (show ch ≠ 92 from fun e => h92 (H92.out.1 e))
          have b6 : (cv == 92) = false := beq_eq_false_iff_ne.2 h92
          by_cases h34 : cv = 34
          · have Hc34 := Lib.hid (H34.out.2 h34)
            subst h34
            go_wp2_with (first
              | ((with_reducible refine at_dst (N := 36) rfl ?_); go_must (refine ev_slice (cs := #[.int .u8 34]) (t := 5) (n := 1) (c := 1) rfl (by first | (go_simp; done) | (go_simp; rfl)) ?_; intro gb wb hgb hlb hbb hkb)
                 have Hbb := Lib.hid hbb
                 have HKb := Lib.hid (HK.out.trans hkb (fun _ _ h => h))
                 have HOb := Lib.hid (HO.out.keep hkb (fun _ _ => id))
                 clear hbb hkb hgb hlb
                 (try simp only [PU]))
              | ((with_reducible refine at_dst (N := 37) rfl ?_); go_must (refine ev_app_sl rfl rfl byteT38 (base := w.heap.size) rfl HOb.out rfl (news := [ch]) rfl (fun _ => ⟨_, rfl, by rw [List.map_cons, List.map_nil]; unfold byteV; rw [Hcv.out]; exact World.news_of_block Hbb.out⟩) (by have := Hol.out; omega) HKb.out.size ?_; intro v' wc ho2 ha2; obtain ⟨nA, nc, hv'⟩ := ho2.slice; subst hv')
                 have HO2 := Lib.hid ho2
                 have HK2 := Lib.hid (HKb.out.trans ha2.keep (fun i hi e => by have := (HOb.out.lt i e.symm).1; omega))
                 clear ho2 ha2
                 (try simp only [PU]))
            )
            go_roundg (n - i - 1)
            case measure => omega
            case rel => exact ⟨i + 1, false, nA, nc, out ++ [ch], q, by rfl, rfl, by rw [List.length_append] <;> rfl, by omega, by omega, Lib.hid Hq.out, HO2, HK2, Lib.hid (by rw [← HE.out, (show bareB true (ch :: _) = ch :: bareB false _ by rw [Hc34.out]; exact bare_end _), List.append_assoc] <;> rfl)⟩
          · have Hc34 := Lib.hid (show ch ≠ 34 from fun e => h34 (H34.out.1 e))
            have b5 : (cv == 34) = false := beq_eq_false_iff_ne.2 h34
            go_wp2_with (first
              | ((with_reducible refine at_dst (N := 36) rfl ?_); go_must (refine ev_slice (cs := #[.int .u8 cv]) (t := 5) (n := 1) (c := 1) rfl (by first | (go_simp; done) | (go_simp; rfl)) ?_; intro gb wb hgb hlb hbb hkb)
                 have Hbb := Lib.hid hbb
                 have HKb := Lib.hid (HK.out.trans hkb (fun _ _ h => h))
                 have HOb := Lib.hid (HO.out.keep hkb (fun _ _ => id))
                 clear hbb hkb hgb hlb
                 (try simp only [PU]))
              | ((with_reducible refine at_dst (N := 37) rfl ?_); go_must (refine ev_app_sl rfl rfl byteT38 (base := w.heap.size) rfl HOb.out rfl (news := [ch]) rfl (fun _ => ⟨_, rfl, by rw [List.map_cons, List.map_nil]; unfold byteV; rw [Hcv.out]; exact World.news_of_block Hbb.out⟩) (by have := Hol.out; omega) HKb.out.size ?_; intro v' wc ho2 ha2; obtain ⟨nA, nc, hv'⟩ := ho2.slice; subst hv')
                 have HO2 := Lib.hid ho2
                 have HK2 := Lib.hid (HKb.out.trans ha2.keep (fun i hi e => by have := (HOb.out.lt i e.symm).1; omega))
                 clear ho2 ha2
                 (try simp only [PU]))
            )
            go_roundg (n - i - 1)
            case measure => omega
            case rel => exact ⟨i + 1, true, nA, nc, out ++ [ch], q, by rfl, rfl, by rw [List.length_append] <;> rfl, by omega, by omega, Lib.hid Hq.out, HO2, HK2, Lib.hid (by rw [← HE.out, (bare_in Hc92.out Hc34.out), List.append_assoc] <;> rfl)⟩
end Go.Proofs.WV

/-
  A text between quotes, by the specification (quoted), in memory. Condition: at most a million million bytes.
-/
namespace Go.Proofs.WV
open Go.RowKit Go.Proofs.KL Go.Proofs.WM
set_option maxRecDepth 100000
set_option linter.unusedSimpArgs false
set_option linter.unusedVariables false

/-- A row that was just made. -/
theorem own_made {w : World} {base g : Nat} {cs : Array Value} {s : Bs} (hg : w.heap[g]? = some (.cells cs 5 (0, 0))) (hb : base ≤ g) (hc : cs = (s.map byteV).toArray) (hm : s.length ≤ maxLen) : OwnB w base (.slice (some ⟨g, 0, none⟩) s.length s.length) s := by
  subst hc
  refine .inr ⟨g, s.length, _, (0, 0), rfl, hb, hg, .inl (Nat.zero_le _), Nat.le_refl _, hm, by simp, ?_⟩
  simp [List.take_of_length_le]
theorem news_made {w : World} {g : Nat} {cs : Array Value} {s : Bs} (hg : w.heap[g]? = some (.cells cs 5 (0, 0))) (hc : cs = (s.map byteV).toArray) : ∀ j u, (s.map byteV)[j]? = some u → w.cell? ((⟨g, 0, none⟩ : Addr).add j) = some u := by
  subst hc
  intro j u hj
  rw [addr_add0, blk_cell hg j, List.getElem?_toArray]
  exact hj
theorem byteV1 {ch : UInt8} {cv : Int} (h : (ch.toNat : Int) = cv) : (#[.int .u8 cv] : Array Value) = ([ch].map byteV).toArray := by subst h; rfl
set_option maxHeartbeats 8000000 in
theorem quoted43 {W : World} {T : ByteArray} (hT : T.size ≤ 1000000000000) : Calls Tryd.prog 43 #[.string T] W fun e w' => e = .returned (.string (mkB (quoteB (bl T)))) ∧ Keeps Nob W w' := by
  obtain ⟨R, hR⟩ : ∃ x, [34] ++ (bl T).flatMap esc = x := ⟨_, rfl⟩
  have HRl := Lib.hid (show R.length ≤ 10000000000000 by
    have h := flatMap_le (bl T)
    rw [bl_len] at h
    rw [← hR, List.length_append]
    simp only [List.length_cons, List.length_nil]
    omega)
  have hq : quoteB (bl T) = R ++ [34] := by rw [← hR]; rfl
  rw [hq]
  have HR := Lib.hid hR
  obtain ⟨n, hn⟩ : ∃ n, T.size = n := ⟨_, rfl⟩
  have Hn := Lib.hid hn
  have hni : (n : Int) ≤ 1000000000000 := by omega
  clear hR hT hq
  go_enter Tryd.func43, Tryd.ntmps43
  go_wp2_with (first
    | ((with_reducible refine at_dst (N := 7) rfl ?_); go_must (refine ev_slice (cs := #[.int .u8 34]) (t := 5) (n := 1) (c := 1) rfl (by first | (go_simp; done) | (go_simp; rfl)) ?_; intro g7 w7 hg7 hl7 hb7 hk7)
       have HO := Lib.hid (own_made (s := [34]) hb7 hg7 rfl (by decide))
       have HK := Lib.hid hk7
       clear hb7 hk7 hg7 hl7
       (try simp only [PU]))
  )
  go_loopg [5, 4] n (fun K iv ov wr => ∃ (i : Nat) (oA : Option Addr) (oc : Nat) (out r : Bs), iv = .int .i64 i ∧ ov = .slice oA out.length oc ∧ i + K = n ∧ i + r.length = n ∧ Hid ((bl T).drop i = r) ∧ Hid (OwnB wr W.heap.size (.slice oA out.length oc) out) ∧ Hid (Keeps Nob W wr) ∧ Hid (out ++ r.flatMap esc = R))
  case atStart => exact ⟨0, _, _, [34], bl T, rfl, rfl, by omega, by rw [bl_len]; omega, Lib.hid rfl, HO, HK, HR⟩
  case round =>
    obtain ⟨i, oA, oc, out, r, rfl, rfl, hK, hir, Hr, HO, HK, HE⟩ := hrel
    have Hol := Lib.hid (show out.length ≤ 10000000000000 by have := congrArg List.length HE.out; rw [List.length_append] at this; have := HRl.out; omega)
    rcases r with _ | ⟨ch, q⟩
    · have e : i = n := by simpa using hir
      subst e
      have hii : (i : Int) = T.size := by omega
      have HRR := Lib.hid (show out = R by rw [← HE.out, List.flatMap_nil, List.append_nil])
      have Hcv := Lib.hid (rfl : (0 : Int) = 0)
      clear hir hK
      go_wp2_with (first
        | ((with_reducible refine at_dst (N := 57) rfl ?_); go_must (refine ev_slice (cs := #[.int .u8 34]) (t := 5) (n := 1) (c := 1) rfl (by first | (go_simp; done) | (go_simp; rfl)) ?_; intro gb wb hgb hlb hbb hkb)
           have Hbb := Lib.hid hbb
           have HKb := Lib.hid (HK.out.trans hkb (fun _ _ h => h))
           have HOb := Lib.hid (HO.out.keep hkb (fun _ _ => id))
           clear hbb hkb hgb hlb
           (try simp only [PU]))
        | ((with_reducible refine at_dst (N := 58) rfl ?_); go_must (refine ev_app_sl rfl rfl byteT38 (base := W.heap.size) rfl HOb.out rfl (news := [34]) rfl (fun _ => ⟨_, rfl, news_made Hbb.out rfl⟩) (by have := Hol.out; omega) HKb.out.size ?_; intro v' wc ho2 ha2; obtain ⟨nA, nc, hv'⟩ := ho2.slice; subst hv')
           have HO2 := Lib.hid ho2
           have HK2 := Lib.hid (HKb.out.trans ha2.keep (fun i hi e => by have := (HOb.out.lt i e.symm).1; omega))
           clear ho2 ha2
           (try simp only [PU]))
        | ((with_reducible refine at_dst (N := 59) rfl ?_); go_must (refine ev_conv_bs rfl rfl Tryd.underlying38 Tryd.underlying5 Tryd.underlying9 (bs := out ++ [34]) rfl HO2.out.bytes ?_); (try simp only [PU]))
      )
      go_ret
      rw [← HRR.out]
      exact ⟨rfl, HK2.out⟩
    · obtain ⟨hlt, hc⟩ := str_at Hr.out
      obtain ⟨hin, hget, hdrop⟩ := drop_cons Hr.out
      simp only [List.length_cons] at hir
      have Hq := Lib.hid hdrop
      have H34 := Lib.hid (byte_eq ch 34 (by decide))
      have H92 := Lib.hid (byte_eq ch 92 (by decide))
      have H10 := Lib.hid (byte_eq ch 10 (by decide))
      obtain ⟨cv, hcv⟩ : ∃ x : Int, (ch.toNat : Int) = x := ⟨_, rfl⟩
      have Hcv := Lib.hid hcv
      have hcr : 0 ≤ cv ∧ cv ≤ 255 := by have := ch.toNat_lt; omega
      rw [hcv] at hc H34 H92 H10
      have hini : (i : Int) < (T.size : Int) := by omega
      clear hin hget hdrop hcv
      by_cases h34 : cv = 34
      · have hch : ch = 34 := H34.out.2 h34
        have Hesc := Lib.hid (show esc ch = [92, 34] by rw [hch]; rfl)
        subst h34
        clear hch
        go_wp2_with (first
          | ((with_reducible refine at_dst (N := 37) rfl ?_); go_must (refine ev_slice (cs := #[.int .u8 92, .int .u8 34]) (t := 5) (n := 2) (c := 2) rfl (by first | (go_simp; done) | (go_simp; rfl)) ?_; intro gb wb hgb hlb hbb hkb)
             have Hbb := Lib.hid hbb
             have HKb := Lib.hid (HK.out.trans hkb (fun _ _ h => h))
             have HOb := Lib.hid (HO.out.keep hkb (fun _ _ => id))
             clear hbb hkb hgb hlb
             (try simp only [PU]))
          | ((with_reducible refine at_dst (N := 38) rfl ?_); go_must (refine ev_app_sl rfl rfl byteT38 (base := W.heap.size) rfl HOb.out rfl (news := [92, 34]) rfl (fun _ => ⟨_, rfl, news_made Hbb.out rfl⟩) (by have := Hol.out; omega) HKb.out.size ?_; intro v' wc ho2 ha2; obtain ⟨nA, nc, hv'⟩ := ho2.slice; subst hv')
             have HO2 := Lib.hid ho2
             have HK2 := Lib.hid (HKb.out.trans ha2.keep (fun i hi e => by have := (HOb.out.lt i e.symm).1; omega))
             clear ho2 ha2
             (try simp only [PU]))
        )
        go_roundg (n - i - 1)
        case measure => omega
        case rel => exact ⟨i + 1, nA, nc, _, q, by rfl, by rw [List.length_append] <;> rfl, by omega, by omega, Lib.hid Hq.out, HO2, HK2, Lib.hid (by rw [← HE.out, List.flatMap_cons, Hesc.out, List.append_assoc])⟩
      have b1 : (cv == 34) = false := beq_eq_false_iff_ne.2 h34
      by_cases h92 : cv = 92
      · have hch : ch = 92 := H92.out.2 h92
        have Hesc := Lib.hid (show esc ch = [92, 92] by rw [hch]; rfl)
        subst h92
        clear hch h34
        go_wp2_with (first
          | ((with_reducible refine at_dst (N := 37) rfl ?_); go_must (refine ev_slice (cs := #[.int .u8 92, .int .u8 92]) (t := 5) (n := 2) (c := 2) rfl (by first | (go_simp; done) | (go_simp; rfl)) ?_; intro gb wb hgb hlb hbb hkb)
             have Hbb := Lib.hid hbb
             have HKb := Lib.hid (HK.out.trans hkb (fun _ _ h => h))
             have HOb := Lib.hid (HO.out.keep hkb (fun _ _ => id))
             clear hbb hkb hgb hlb
             (try simp only [PU]))
          | ((with_reducible refine at_dst (N := 38) rfl ?_); go_must (refine ev_app_sl rfl rfl byteT38 (base := W.heap.size) rfl HOb.out rfl (news := [92, 92]) rfl (fun _ => ⟨_, rfl, news_made Hbb.out rfl⟩) (by have := Hol.out; omega) HKb.out.size ?_; intro v' wc ho2 ha2; obtain ⟨nA, nc, hv'⟩ := ho2.slice; subst hv')
             have HO2 := Lib.hid ho2
             have HK2 := Lib.hid (HKb.out.trans ha2.keep (fun i hi e => by have := (HOb.out.lt i e.symm).1; omega))
             clear ho2 ha2
             (try simp only [PU]))
        )
        go_roundg (n - i - 1)
        case measure => omega
        case rel => exact ⟨i + 1, nA, nc, _, q, by rfl, by rw [List.length_append] <;> rfl, by omega, by omega, Lib.hid Hq.out, HO2, HK2, Lib.hid (by rw [← HE.out, List.flatMap_cons, Hesc.out, List.append_assoc])⟩
      have b2 : (cv == 92) = false := beq_eq_false_iff_ne.2 h92
      by_cases h10 : cv = 10
      · have hch : ch = 10 := H10.out.2 h10
        have Hesc := Lib.hid (show esc ch = [92, 110] by rw [hch]; rfl)
        subst h10
        clear hch h34 h92
        go_wp2_with (first
          | ((with_reducible refine at_dst (N := 43) rfl ?_); go_must (refine ev_slice (cs := #[.int .u8 92, .int .u8 110]) (t := 5) (n := 2) (c := 2) rfl (by first | (go_simp; done) | (go_simp; rfl)) ?_; intro gb wb hgb hlb hbb hkb)
             have Hbb := Lib.hid hbb
             have HKb := Lib.hid (HK.out.trans hkb (fun _ _ h => h))
             have HOb := Lib.hid (HO.out.keep hkb (fun _ _ => id))
             clear hbb hkb hgb hlb
             (try simp only [PU]))
          | ((with_reducible refine at_dst (N := 44) rfl ?_); go_must (refine ev_app_sl rfl rfl byteT38 (base := W.heap.size) rfl HOb.out rfl (news := [92, 110]) rfl (fun _ => ⟨_, rfl, news_made Hbb.out rfl⟩) (by have := Hol.out; omega) HKb.out.size ?_; intro v' wc ho2 ha2; obtain ⟨nA, nc, hv'⟩ := ho2.slice; subst hv')
             have HO2 := Lib.hid ho2
             have HK2 := Lib.hid (HKb.out.trans ha2.keep (fun i hi e => by have := (HOb.out.lt i e.symm).1; omega))
             clear ho2 ha2
             (try simp only [PU]))
        )
        go_roundg (n - i - 1)
        case measure => omega
        case rel => exact ⟨i + 1, nA, nc, _, q, by rfl, by rw [List.length_append] <;> rfl, by omega, by omega, Lib.hid Hq.out, HO2, HK2, Lib.hid (by rw [← HE.out, List.flatMap_cons, Hesc.out, List.append_assoc])⟩
      have b3 : (cv == 10) = false := beq_eq_false_iff_ne.2 h10
      have hesc0 : esc ch = if ch < 32 ∨ 126 < ch then [92, 117, 48, 48, hexB (ch / 16), hexB (ch % 16)] else [ch] := by
        unfold esc
        have a1 : ch ≠ 34 := fun e => h34 (H34.out.1 e)
        have a2 : ch ≠ 92 := fun e => h92 (H92.out.1 e)
        have a3 : ch ≠ 10 := fun e => h10 (H10.out.1 e)
        rw [if_neg (by simp only [not_or]; exact ⟨a1, a2⟩), if_neg a3]
      have hlow : ch < 32 ↔ cv < 32 := by rw [UInt8.lt_iff_toNat_lt]; have := Hcv.out; show ch.toNat < 32 ↔ _; omega
      have hhigh : 126 < ch ↔ 126 < cv := by rw [UInt8.lt_iff_toNat_lt]; have := Hcv.out; show 126 < ch.toNat ↔ _; omega
      clear h34 h92 h10
      by_cases hpl : 32 ≤ cv ∧ cv ≤ 126
      · have Hesc := Lib.hid (show esc ch = [ch] by rw [hesc0, if_neg (by rw [hlow, hhigh]; omega)])
        obtain ⟨hpl1, hpl2⟩ := hpl
        have hpl3 : cv < 127 := by omega
        clear hesc0 hlow hhigh
        go_wp2_with (first
          | ((with_reducible refine at_dst (N := 54) rfl ?_); go_must (refine ev_slice (cs := #[.int .u8 cv]) (t := 5) (n := 1) (c := 1) rfl (by first | (go_simp; done) | (go_simp; rfl)) ?_; intro gb wb hgb hlb hbb hkb)
             have Hbb := Lib.hid hbb
             have HKb := Lib.hid (HK.out.trans hkb (fun _ _ h => h))
             have HOb := Lib.hid (HO.out.keep hkb (fun _ _ => id))
             clear hbb hkb hgb hlb
             (try simp only [PU]))
          | ((with_reducible refine at_dst (N := 55) rfl ?_); go_must (refine ev_app_sl rfl rfl byteT38 (base := W.heap.size) rfl HOb.out rfl (news := [ch]) rfl (fun _ => ⟨_, rfl, news_made Hbb.out (byteV1 Hcv.out)⟩) (by have := Hol.out; omega) HKb.out.size ?_; intro v' wc ho2 ha2; obtain ⟨nA, nc, hv'⟩ := ho2.slice; subst hv')
             have HO2 := Lib.hid ho2
             have HK2 := Lib.hid (HKb.out.trans ha2.keep (fun i hi e => by have := (HOb.out.lt i e.symm).1; omega))
             clear ho2 ha2
             (try simp only [PU]))
        )
        go_roundg (n - i - 1)
        case measure => omega
        case rel => exact ⟨i + 1, nA, nc, _, q, by rfl, by rw [List.length_append] <;> rfl, by omega, by omega, Lib.hid Hq.out, HO2, HK2, Lib.hid (by rw [← HE.out, List.flatMap_cons, Hesc.out, List.append_assoc])⟩
      · have Hesc := Lib.hid (show esc ch = [92, 117, 48, 48, hexB (ch / 16), hexB (ch % 16)] by rw [hesc0, if_pos (by rw [hlow, hhigh]; omega)])
        clear hesc0 hlow hhigh
        by_cases hlo : cv < 32
        · clear hpl
          have hq1 : 0 ≤ cv / 16 := by omega
          have hq2 : 0 ≤ cv % 16 := by omega
          obtain ⟨d1, hd1⟩ : ∃ x, hexB (ch / 16) = x := ⟨_, rfl⟩
          obtain ⟨d2, hd2⟩ : ∃ x, hexB (ch % 16) = x := ⟨_, rfl⟩
          rw [hd1, hd2] at Hesc
          have hz1 : (({ data := #[48, 49, 50, 51, 52, 53, 54, 55, 56, 57, 97, 98, 99, 100, 101, 102] } : ByteArray)[(cv / 16).toNat]?) = some d1 := by
            rw [hex_index _ (by omega), ← hd1]
            congr 2
            apply UInt8.toNat.inj
            rw [UInt8.toNat_div]
            have h2 := Hcv.out
            simp
            omega
          have hz2 : (({ data := #[48, 49, 50, 51, 52, 53, 54, 55, 56, 57, 97, 98, 99, 100, 101, 102] } : ByteArray)[(cv % 16).toNat]?) = some d2 := by
            rw [hex_index _ (by omega), ← hd2]
            congr 2
            apply UInt8.toNat.inj
            rw [UInt8.toNat_mod]
            have h2 := Hcv.out
            simp
            omega
          have hq3 : cv / 16 < 16 := by omega
          have hq4 : cv % 16 < 16 := by omega
          have hl1 : (cv / 16).toNat < ({ data := #[48, 49, 50, 51, 52, 53, 54, 55, 56, 57, 97, 98, 99, 100, 101, 102] } : ByteArray).size := by show (cv / 16).toNat < 16; omega
          have hl2 : (cv % 16).toNat < ({ data := #[48, 49, 50, 51, 52, 53, 54, 55, 56, 57, 97, 98, 99, 100, 101, 102] } : ByteArray).size := by show (cv % 16).toNat < 16; omega
          have hx1 : ({ data := #[48, 49, 50, 51, 52, 53, 54, 55, 56, 57, 97, 98, 99, 100, 101, 102] } : ByteArray)[(cv / 16).toNat]'hl1 = d1 := Option.some.inj ((getElem?_pos ({ data := #[48, 49, 50, 51, 52, 53, 54, 55, 56, 57, 97, 98, 99, 100, 101, 102] } : ByteArray) (cv / 16).toNat hl1).symm.trans hz1)
          have hx2 : ({ data := #[48, 49, 50, 51, 52, 53, 54, 55, 56, 57, 97, 98, 99, 100, 101, 102] } : ByteArray)[(cv % 16).toNat]'hl2 = d2 := Option.some.inj ((getElem?_pos ({ data := #[48, 49, 50, 51, 52, 53, 54, 55, 56, 57, 97, 98, 99, 100, 101, 102] } : ByteArray) (cv % 16).toNat hl2).symm.trans hz2)
          have htd : cv.tdiv 16 = cv / 16 := Int.tdiv_eq_ediv_of_nonneg hcr.1
          have htm : cv.tmod 16 = cv % 16 := Int.tmod_eq_emod_of_nonneg hcr.1
          have hwr1 : IntKind.u8.wrap (cv / 16) = cv / 16 := by simp [IntKind.wrap, IntKind.bits, IntKind.signed]; omega
          have hwr2 : IntKind.u8.wrap (cv % 16) = cv % 16 := by simp [IntKind.wrap, IntKind.bits, IntKind.signed]; omega
          clear hz1 hz2 hd1 hd2
          go_wp2_with fail
          refine wp_region_tree (.q 0 (.q 1 (.q 2 (.q 3 (.q 4 (.q 5 (.q 6 (.q 7 (.q 8 (.br [9] (fun k => .br [10] (fun k => .q 11 (.done))))))))))))) (fun w' => True) rfl (by kernel_rfl) (by kernel_rfl) (fun c a d v w h => by cases d <;> exact h) trivial ?_
          refine tree_q (v := ?v1_10) (some 17) rfl rfl rfl ?q1_10 ?h1_10; (case q1_10 => (intro w' hS; skip; first | (go_simp; done) | (go_simp; rfl))); (try simp only [PU])
          refine tree_q (v := ?v1_9) (some 18) rfl rfl rfl ?q1_9 ?h1_9; (case q1_9 => (intro w' hS; skip; first | (go_simp; done) | (go_simp; rfl))); (try simp only [PU])
          refine tree_q (v := ?v1_8) (some 19) rfl rfl rfl ?q1_8 ?h1_8; (case q1_8 => (intro w' hS; skip; first | (go_simp; done) | (go_simp; rfl))); (try simp only [PU])
          refine tree_q (v := ?v1_7) (some 20) rfl rfl rfl ?q1_7 ?h1_7; (case q1_7 => (intro w' hS; skip; first | (go_simp; done) | (go_simp; rfl))); (try simp only [PU])
          refine tree_q (v := ?v1_6) (some 21) rfl rfl rfl ?q1_6 ?h1_6; (case q1_6 => (intro w' hS; skip; first | (go_simp; done) | (go_simp; rfl))); (try simp only [PU])
          refine tree_q (v := ?v1_5) (some 22) rfl rfl rfl ?q1_5 ?h1_5; (case q1_5 => (intro w' hS; skip; first | (go_simp; done) | (go_simp; rfl))); (try simp only [PU])
          refine tree_q (v := ?v1_4) (some 23) rfl rfl rfl ?q1_4 ?h1_4; (case q1_4 => (intro w' hS; skip; first | (go_simp; done) | (go_simp; rfl))); (try simp only [PU])
          refine tree_q (v := ?v1_3) (some 24) rfl rfl rfl ?q1_3 ?h1_3; (case q1_3 => (intro w' hS; skip; first | (go_simp; done) | (go_simp; rfl))); (try simp only [PU])
          refine tree_q (v := ?v1_2) (some 25) rfl rfl rfl ?q1_2 ?h1_2; (case q1_2 => (intro w' hS; skip; first | (go_simp; done) | (go_simp; rfl))); (try simp only [PU])
          refine tree_e rfl rfl ?_
          go_must (refine ev_slice (cs := #[.int .u8 92, .int .u8 117, .int .u8 48, .int .u8 48, .int .u8 d1.toNat, .int .u8 d2.toNat]) (t := 5) (n := 6) (c := 6) rfl (by first | (go_simp; done) | (go_simp; rfl)) ?_; intro gb wb hgb hlb hbb hkb)
          (try simp only [PU])
          have Hbb := Lib.hid hbb
          have HKb := Lib.hid ((HK.out.then (Keeps.refl Nob wr).drew).trans hkb (fun _ _ h => h))
          have HOb := Lib.hid ((HO.out.keep (Keeps.refl Nob wr).drew (fun _ _ => id)).keep hkb (fun _ _ => id))
          clear hbb hkb hgb hlb
          refine wpList_nil ⟨trivial, ?_⟩
          refine tree_e rfl rfl ?_
          go_must (refine ev_app_sl rfl rfl byteT38 (base := W.heap.size) rfl HOb.out rfl (news := [92, 117, 48, 48, d1, d2]) rfl (fun _ => ⟨_, rfl, news_made Hbb.out rfl⟩) (by have := Hol.out; omega) HKb.out.size ?_; intro v' wc ho2 ha2; obtain ⟨nA, nc, hv'⟩ := ho2.slice; subst hv')
          (try simp only [PU])
          have HO2 := Lib.hid ho2
          have HK2 := Lib.hid (HKb.out.trans ha2.keep (fun i hi e => by have := (HOb.out.lt i e.symm).1; omega))
          clear ho2 ha2
          refine wpList_nil ⟨trivial, ?_⟩
          refine tree_q (v := ?v1_1) (some 4) rfl rfl rfl ?q1_1 ?h1_1; (case q1_1 => (intro w' hS; skip; first | (go_simp; done) | (go_simp; rfl))); (try simp only [PU])
          refine tree_nil ?_
          go_wp2
          go_roundg (n - i - 1)
          case measure => omega
          case rel => exact ⟨i + 1, nA, nc, _, q, by rfl, by rw [List.length_append] <;> rfl, by omega, by omega, Lib.hid Hq.out, HO2, HK2, Lib.hid (by rw [← HE.out, List.flatMap_cons, Hesc.out, List.append_assoc])⟩
        · have hhi : 127 ≤ cv := by omega
          have hge : 32 ≤ cv := by omega
          clear hpl hlo
          have hq1 : 0 ≤ cv / 16 := by omega
          have hq2 : 0 ≤ cv % 16 := by omega
          obtain ⟨d1, hd1⟩ : ∃ x, hexB (ch / 16) = x := ⟨_, rfl⟩
          obtain ⟨d2, hd2⟩ : ∃ x, hexB (ch % 16) = x := ⟨_, rfl⟩
          rw [hd1, hd2] at Hesc
          have hz1 : (({ data := #[48, 49, 50, 51, 52, 53, 54, 55, 56, 57, 97, 98, 99, 100, 101, 102] } : ByteArray)[(cv / 16).toNat]?) = some d1 := by
            rw [hex_index _ (by omega), ← hd1]
            congr 2
            apply UInt8.toNat.inj
            rw [UInt8.toNat_div]
            have h2 := Hcv.out
            simp
            omega
          have hz2 : (({ data := #[48, 49, 50, 51, 52, 53, 54, 55, 56, 57, 97, 98, 99, 100, 101, 102] } : ByteArray)[(cv % 16).toNat]?) = some d2 := by
            rw [hex_index _ (by omega), ← hd2]
            congr 2
            apply UInt8.toNat.inj
            rw [UInt8.toNat_mod]
            have h2 := Hcv.out
            simp
            omega
          have hq3 : cv / 16 < 16 := by omega
          have hq4 : cv % 16 < 16 := by omega
          have hl1 : (cv / 16).toNat < ({ data := #[48, 49, 50, 51, 52, 53, 54, 55, 56, 57, 97, 98, 99, 100, 101, 102] } : ByteArray).size := by show (cv / 16).toNat < 16; omega
          have hl2 : (cv % 16).toNat < ({ data := #[48, 49, 50, 51, 52, 53, 54, 55, 56, 57, 97, 98, 99, 100, 101, 102] } : ByteArray).size := by show (cv % 16).toNat < 16; omega
          have hx1 : ({ data := #[48, 49, 50, 51, 52, 53, 54, 55, 56, 57, 97, 98, 99, 100, 101, 102] } : ByteArray)[(cv / 16).toNat]'hl1 = d1 := Option.some.inj ((getElem?_pos ({ data := #[48, 49, 50, 51, 52, 53, 54, 55, 56, 57, 97, 98, 99, 100, 101, 102] } : ByteArray) (cv / 16).toNat hl1).symm.trans hz1)
          have hx2 : ({ data := #[48, 49, 50, 51, 52, 53, 54, 55, 56, 57, 97, 98, 99, 100, 101, 102] } : ByteArray)[(cv % 16).toNat]'hl2 = d2 := Option.some.inj ((getElem?_pos ({ data := #[48, 49, 50, 51, 52, 53, 54, 55, 56, 57, 97, 98, 99, 100, 101, 102] } : ByteArray) (cv % 16).toNat hl2).symm.trans hz2)
          have htd : cv.tdiv 16 = cv / 16 := Int.tdiv_eq_ediv_of_nonneg hcr.1
          have htm : cv.tmod 16 = cv % 16 := Int.tmod_eq_emod_of_nonneg hcr.1
          have hwr1 : IntKind.u8.wrap (cv / 16) = cv / 16 := by simp [IntKind.wrap, IntKind.bits, IntKind.signed]; omega
          have hwr2 : IntKind.u8.wrap (cv % 16) = cv % 16 := by simp [IntKind.wrap, IntKind.bits, IntKind.signed]; omega
          clear hz1 hz2 hd1 hd2
          go_wp2_with fail
          refine wp_region_tree (.q 0 (.q 1 (.q 2 (.q 3 (.q 4 (.q 5 (.q 6 (.q 7 (.q 8 (.br [9] (fun k => .br [10] (fun k => .q 11 (.done))))))))))))) (fun w' => True) rfl (by kernel_rfl) (by kernel_rfl) (fun c a d v w h => by cases d <;> exact h) trivial ?_
          refine tree_q (v := ?v2_10) (some 17) rfl rfl rfl ?q2_10 ?h2_10; (case q2_10 => (intro w' hS; skip; first | (go_simp; done) | (go_simp; rfl))); (try simp only [PU])
          refine tree_q (v := ?v2_9) (some 18) rfl rfl rfl ?q2_9 ?h2_9; (case q2_9 => (intro w' hS; skip; first | (go_simp; done) | (go_simp; rfl))); (try simp only [PU])
          refine tree_q (v := ?v2_8) (some 19) rfl rfl rfl ?q2_8 ?h2_8; (case q2_8 => (intro w' hS; skip; first | (go_simp; done) | (go_simp; rfl))); (try simp only [PU])
          refine tree_q (v := ?v2_7) (some 20) rfl rfl rfl ?q2_7 ?h2_7; (case q2_7 => (intro w' hS; skip; first | (go_simp; done) | (go_simp; rfl))); (try simp only [PU])
          refine tree_q (v := ?v2_6) (some 21) rfl rfl rfl ?q2_6 ?h2_6; (case q2_6 => (intro w' hS; skip; first | (go_simp; done) | (go_simp; rfl))); (try simp only [PU])
          refine tree_q (v := ?v2_5) (some 22) rfl rfl rfl ?q2_5 ?h2_5; (case q2_5 => (intro w' hS; skip; first | (go_simp; done) | (go_simp; rfl))); (try simp only [PU])
          refine tree_q (v := ?v2_4) (some 23) rfl rfl rfl ?q2_4 ?h2_4; (case q2_4 => (intro w' hS; skip; first | (go_simp; done) | (go_simp; rfl))); (try simp only [PU])
          refine tree_q (v := ?v2_3) (some 24) rfl rfl rfl ?q2_3 ?h2_3; (case q2_3 => (intro w' hS; skip; first | (go_simp; done) | (go_simp; rfl))); (try simp only [PU])
          refine tree_q (v := ?v2_2) (some 25) rfl rfl rfl ?q2_2 ?h2_2; (case q2_2 => (intro w' hS; skip; first | (go_simp; done) | (go_simp; rfl))); (try simp only [PU])
          refine tree_e rfl rfl ?_
          go_must (refine ev_slice (cs := #[.int .u8 92, .int .u8 117, .int .u8 48, .int .u8 48, .int .u8 d1.toNat, .int .u8 d2.toNat]) (t := 5) (n := 6) (c := 6) rfl (by first | (go_simp; done) | (go_simp; rfl)) ?_; intro gb wb hgb hlb hbb hkb)
          (try simp only [PU])
          have Hbb := Lib.hid hbb
          have HKb := Lib.hid ((HK.out.then (Keeps.refl Nob wr).drew).trans hkb (fun _ _ h => h))
          have HOb := Lib.hid ((HO.out.keep (Keeps.refl Nob wr).drew (fun _ _ => id)).keep hkb (fun _ _ => id))
          clear hbb hkb hgb hlb
          refine wpList_nil ⟨trivial, ?_⟩
          refine tree_e rfl rfl ?_
          go_must (refine ev_app_sl rfl rfl byteT38 (base := W.heap.size) rfl HOb.out rfl (news := [92, 117, 48, 48, d1, d2]) rfl (fun _ => ⟨_, rfl, news_made Hbb.out rfl⟩) (by have := Hol.out; omega) HKb.out.size ?_; intro v' wc ho2 ha2; obtain ⟨nA, nc, hv'⟩ := ho2.slice; subst hv')
          (try simp only [PU])
          have HO2 := Lib.hid ho2
          have HK2 := Lib.hid (HKb.out.trans ha2.keep (fun i hi e => by have := (HOb.out.lt i e.symm).1; omega))
          clear ho2 ha2
          refine wpList_nil ⟨trivial, ?_⟩
          refine tree_q (v := ?v2_1) (some 4) rfl rfl rfl ?q2_1 ?h2_1; (case q2_1 => (intro w' hS; skip; first | (go_simp; done) | (go_simp; rfl))); (try simp only [PU])
          refine tree_nil ?_
          go_wp2
          go_roundg (n - i - 1)
          case measure => omega
          case rel => exact ⟨i + 1, nA, nc, _, q, by rfl, by rw [List.length_append] <;> rfl, by omega, by omega, Lib.hid Hq.out, HO2, HK2, Lib.hid (by rw [← HE.out, List.flatMap_cons, Hesc.out, List.append_assoc])⟩
end Go.Proofs.WV

/-
  A value's text, by the specification (Text), in memory. Condition: the value lies, is formed, and is not larger than an int counts.
-/
namespace Go.Proofs.WV
open Go.RowKit Go.Proofs.KL Go.Proofs.WM
set_option maxRecDepth 100000
set_option linter.unusedSimpArgs false
set_option linter.unusedVariables false

theorem own_ne {W : World} {base g : Nat} {v : Value} {bs : Bs} {cs : Array Value} {t : TypeId} (h : OwnB W base v bs) (hg : W.heap[g]? = some (.cells cs t (0, 0))) (ht : t ≠ 5) : ¬ some g = v.ownBlock := fun e => by
  rcases h with ⟨rfl, _⟩ | ⟨g', cap, cur, fz, rfl, hb, hg', _⟩
  · cases e
  · simp only [Value.ownBlock, Option.some.injEq] at e
    subst e
    rw [hg] at hg'
    injection hg' with hg'
    injection hg' with _ h2 _
    exact ht h2
theorem tab_after {W w : World} (h : Tab W W.heap.size) (hk : Keeps Nob W w) : Tab w w.heap.size := by
  obtain ⟨g, h1, h2, h3⟩ := h.keep hk.any
  exact ⟨g, h1, Nat.lt_of_lt_of_le h2 hk.size, h3⟩
theorem formed_open {k : Int} {b : Bool} {n : Int} {t : ByteArray} {ks : List ByteArray} {vs : List J} (h : formedJ (.mk k b n t ks vs) = true) : (1 ≤ k ∧ k ≤ 6) ∧ (k = 6 → ks.length = vs.length) ∧ (-9007199254740991 ≤ n ∧ n ≤ 9007199254740991) ∧ formedL vs = true := by
  unfold formedJ at h
  simp only [fineJ, Bool.and_eq_true, Bool.or_eq_true, decide_eq_true_eq, Bool.not_eq_true', decide_eq_false_iff_not] at h
  obtain ⟨⟨⟨⟨⟨⟨⟨⟨⟨⟨h1, h2⟩, hb⟩, hn⟩, ht⟩, hks⟩, hvs⟩, hr⟩, hlen⟩, hnd⟩, hfl⟩ := h
  exact ⟨⟨h1, h2⟩, fun h6 => hlen.resolve_left (fun h => h h6), hr, hfl⟩
theorem parts_bound {ps : List Bs} {B : Nat} (h : lens ps + ps.length ≤ B) (i : Nat) : (joinC (ps.take i)).length ≤ B ∧ (ps.getD i []).length ≤ B := by
  refine ⟨Nat.le_trans (joinC_take_len ps i) h, ?_⟩
  have : ∀ (l : List Bs) (i : Nat), (l.getD i []).length ≤ lens l := by
    intro l
    induction l with
    | nil => intro i; simp
    | cons x l ih =>
      intro i
      cases i with
      | zero => simp [lens]
      | succ i => have := ih i; simp only [List.getD_cons_succ, lens, List.map_cons, List.sum_cons] at this ⊢; omega
  have := this ps i
  omega
set_option maxHeartbeats 16000000 in
theorem text17 {w : World} {X : Nat → Prop} {v : Value} {j : J} (h : JX w X v j) : ∀ W, Keeps Nob w W → Tab W W.heap.size → formedJ j = true → sizeJ j ≤ 10000000000 → Calls Tryd.prog 17 #[v] W fun e w' => e = .returned (.string (mkB (textJ j))) ∧ Keeps Nob W w' := by
  induction h with
  | mk k b n t ks vs kv A c u h1 hc hA hv ih =>
    intro W hW htab hf hb
    obtain ⟨hk, hlen, hrange, hfl⟩ := formed_open hf
    obtain ⟨kA, kc, rfl, hkc, hkx⟩ := h1
    obtain ⟨i25, hi25, hs25⟩ := info25
    have HI := Lib.hid (And.intro hi25 hs25)
    have hbs := hb
    unfold sizeJ at hbs
    have hts := text_size _ hf
    have hlv := text_sizeL vs hfl
    have hqk := quotes_len ks
    have hzl := zip_len ks (textL vs)
    have hsl := size_len vs
    have HT := Lib.hid htab
    have HA := Lib.hid hA
    have HV := Lib.hid hv
    have IH := Lib.hid ih
    have HW := Lib.hid hW
    have Hkx := Lib.hid hkx
    have Hfl := Lib.hid hfl
    have Hr := Lib.hid hrange
    have Htz := Lib.hid (show t.size ≤ 1000000000000 by omega)
    have Hbs := Lib.hid hbs
    obtain ⟨nk, hnk⟩ : ∃ x, ks.length = x := ⟨_, rfl⟩
    obtain ⟨nv, hnv⟩ : ∃ x, vs.length = x := ⟨_, rfl⟩
    have Hnk := Lib.hid hnk
    have Hnv := Lib.hid hnv
    have HP5 := Lib.hid (show lens (textL vs) + (textL vs).length ≤ 400000000000 by rw [textL_length]; omega)
    have HP6 := Lib.hid (show ks.length = vs.length → lens (pairT ks vs) + (pairT ks vs).length ≤ 400000000000 from fun hl => by
      rw [pairT_length hl]
      unfold pairT
      omega)
    have Hlen := Lib.hid hlen
    rw [hnk] at hkc ⊢
    rw [hnv] at hc ⊢
    have hnkI : (nk : Int) ≤ 10000000000 := by omega
    have hnvI : (nv : Int) ≤ 10000000000 := by omega
    clear hA hv ih hW hkx hfl hrange hts hlv hqk hzl hsl hf hb hbs htab hi25 hs25 hnk hnv hlen
    obtain ⟨S, hS⟩ : ∃ S, textJ (.mk k b n t ks vs) = S := ⟨_, rfl⟩
    rw [hS]
    unfold textJ at hS
    rcases (show k = 1 ∨ k = 2 ∨ k = 3 ∨ k = 4 ∨ k = 5 ∨ k = 6 by omega) with e | e | e | e | e | e
    · subst e
      have HS := Lib.hid (show S = [110, 117, 108, 108] by rw [← hS]; rfl)
      clear hS
      go_enter Tryd.func17, Tryd.ntmps17
      go_wp2_with (first
        | ((with_reducible refine at_dst (N := 1) rfl ?_); go_must (refine ev_box (cs := #[.int .i64 1, .bool b, .int .i64 n, .string t, .slice kA nk kc, .slice A nv c]) rfl rfl rfl ?_; intro g1 w1 hg1 hl1 hb1 hk1)
           have Hb1 := Lib.hid hb1
           have HK := Lib.hid hk1
           have Hg1 := Lib.hid hg1
           have v0 := (blk_cell Hb1.out 0).trans rfl
           have v1 := (blk_cell Hb1.out 1).trans rfl
           have v2 := (blk_cell Hb1.out 2).trans rfl
           have v3 := (blk_cell Hb1.out 3).trans rfl
           have v4 := (blk_cell Hb1.out 4).trans rfl
           have v5 := (blk_cell Hb1.out 5).trans rfl
           clear hb1 hk1 hg1 hl1
           (try simp only [PU]))
      )
      go_ret
      rw [HS.out]
      exact ⟨rfl, HK.out⟩
    · subst e
      cases b
      · have HS := Lib.hid (show S = [102, 97, 108, 115, 101] by rw [← hS]; rfl)
        clear hS
        go_enter Tryd.func17, Tryd.ntmps17
        go_wp2_with (first
          | ((with_reducible refine at_dst (N := 1) rfl ?_); go_must (refine ev_box (cs := #[.int .i64 2, .bool false, .int .i64 n, .string t, .slice kA nk kc, .slice A nv c]) rfl rfl rfl ?_; intro g1 w1 hg1 hl1 hb1 hk1)
             have Hb1 := Lib.hid hb1
             have HK := Lib.hid hk1
             have Hg1 := Lib.hid hg1
             have v0 := (blk_cell Hb1.out 0).trans rfl
             have v1 := (blk_cell Hb1.out 1).trans rfl
             have v2 := (blk_cell Hb1.out 2).trans rfl
             have v3 := (blk_cell Hb1.out 3).trans rfl
             have v4 := (blk_cell Hb1.out 4).trans rfl
             have v5 := (blk_cell Hb1.out 5).trans rfl
             clear hb1 hk1 hg1 hl1
             (try simp only [PU]))
        )
        go_ret
        rw [HS.out]
        exact ⟨rfl, HK.out⟩
      · have HS := Lib.hid (show S = [116, 114, 117, 101] by rw [← hS]; rfl)
        clear hS
        go_enter Tryd.func17, Tryd.ntmps17
        go_wp2_with (first
          | ((with_reducible refine at_dst (N := 1) rfl ?_); go_must (refine ev_box (cs := #[.int .i64 2, .bool true, .int .i64 n, .string t, .slice kA nk kc, .slice A nv c]) rfl rfl rfl ?_; intro g1 w1 hg1 hl1 hb1 hk1)
             have Hb1 := Lib.hid hb1
             have HK := Lib.hid hk1
             have Hg1 := Lib.hid hg1
             have v0 := (blk_cell Hb1.out 0).trans rfl
             have v1 := (blk_cell Hb1.out 1).trans rfl
             have v2 := (blk_cell Hb1.out 2).trans rfl
             have v3 := (blk_cell Hb1.out 3).trans rfl
             have v4 := (blk_cell Hb1.out 4).trans rfl
             have v5 := (blk_cell Hb1.out 5).trans rfl
             clear hb1 hk1 hg1 hl1
             (try simp only [PU]))
        )
        go_ret
        rw [HS.out]
        exact ⟨rfl, HK.out⟩
    · subst e
      have HS := Lib.hid (show S = Lib.itoa n by rw [← hS]; rfl)
      clear hS
      go_enter Tryd.func17, Tryd.ntmps17
      go_wp2_with (first
        | ((with_reducible refine at_dst (N := 1) rfl ?_); go_must (refine ev_box (cs := #[.int .i64 3, .bool b, .int .i64 n, .string t, .slice kA nk kc, .slice A nv c]) rfl rfl rfl ?_; intro g1 w1 hg1 hl1 hb1 hk1)
           have Hb1 := Lib.hid hb1
           have HK := Lib.hid hk1
           have Hg1 := Lib.hid hg1
           have v0 := (blk_cell Hb1.out 0).trans rfl
           have v1 := (blk_cell Hb1.out 1).trans rfl
           have v2 := (blk_cell Hb1.out 2).trans rfl
           have v3 := (blk_cell Hb1.out 3).trans rfl
           have v4 := (blk_cell Hb1.out 4).trans rfl
           have v5 := (blk_cell Hb1.out 5).trans rfl
           clear hb1 hk1 hg1 hl1
           (try simp only [PU]))
        | (go_at_call 42; go_must (refine (itoa42 (tab_after HT.out HK.out) n (by have := Hr.out; omega) (by have := Hr.out; omega)).mono ?_; rintro e w3 ⟨rfl, hk3⟩); have HKz := Lib.hid (HK.out.trans hk3 (fun _ _ h => h)); clear hk3; (try simp only [PU]))
      )
      go_ret
      rw [HS.out]
      exact ⟨rfl, HKz.out⟩
    · subst e
      have HS := Lib.hid (show S = quoteB (bl t) by rw [← hS]; rfl)
      clear hS
      go_enter Tryd.func17, Tryd.ntmps17
      go_wp2_with (first
        | ((with_reducible refine at_dst (N := 1) rfl ?_); go_must (refine ev_box (cs := #[.int .i64 4, .bool b, .int .i64 n, .string t, .slice kA nk kc, .slice A nv c]) rfl rfl rfl ?_; intro g1 w1 hg1 hl1 hb1 hk1)
           have Hb1 := Lib.hid hb1
           have HK := Lib.hid hk1
           have Hg1 := Lib.hid hg1
           have v0 := (blk_cell Hb1.out 0).trans rfl
           have v1 := (blk_cell Hb1.out 1).trans rfl
           have v2 := (blk_cell Hb1.out 2).trans rfl
           have v3 := (blk_cell Hb1.out 3).trans rfl
           have v4 := (blk_cell Hb1.out 4).trans rfl
           have v5 := (blk_cell Hb1.out 5).trans rfl
           clear hb1 hk1 hg1 hl1
           (try simp only [PU]))
        | (go_at_call 43; go_must (refine (quoted43 (T := t) Htz.out).mono ?_; rintro e w3 ⟨rfl, hk3⟩); have HKz := Lib.hid (HK.out.trans hk3 (fun _ _ h => h)); clear hk3; (try simp only [PU]))
      )
      go_ret
      rw [HS.out]
      exact ⟨rfl, HKz.out⟩
    · subst e
      have HS := Lib.hid (show S = [91] ++ joinC (textL vs) ++ [93] by rw [← hS]; rfl)
      have HP := Lib.hid (show lens (textL vs) + (textL vs).length ≤ 400000000000 from HP5.out)
      have Hpl := Lib.hid (show (textL vs).length = nv by rw [textL_length]; exact Hnv.out)
      have Hget := Lib.hid (show ∀ i, i < nv → (textL vs).getD i [] = textJ (vs.getD i default) from fun i hi => textL_get (by rw [Hnv.out]; exact hi))
      clear hS
      go_enter Tryd.func17, Tryd.ntmps17
      go_wp2_with (first
        | ((with_reducible refine at_dst (N := 1) rfl ?_); go_must (refine ev_box (cs := #[.int .i64 5, .bool b, .int .i64 n, .string t, .slice kA nk kc, .slice A nv c]) rfl rfl rfl ?_; intro g1 w1 hg1 hl1 hb1 hk1)
           have Hb1 := Lib.hid hb1
           have HK := Lib.hid hk1
           have Hg1 := Lib.hid hg1
           have v0 := (blk_cell Hb1.out 0).trans rfl
           have v1 := (blk_cell Hb1.out 1).trans rfl
           have v2 := (blk_cell Hb1.out 2).trans rfl
           have v3 := (blk_cell Hb1.out 3).trans rfl
           have v4 := (blk_cell Hb1.out 4).trans rfl
           have v5 := (blk_cell Hb1.out 5).trans rfl
           clear hb1 hk1 hg1 hl1
           (try simp only [PU]))
        | ((with_reducible refine at_dst (N := 30) rfl ?_); go_must (refine ev_conv_sb rfl rfl Tryd.underlying9 byteT38 Tryd.underlying5 rfl (base := W.heap.size) HK.out.size (by decide) ?_; intro v' wc ho hk2 hnew; obtain ⟨oA, oc, hv'⟩ := ho.slice; subst hv')
           have HO := Lib.hid (show OwnB wc W.heap.size (.slice oA ([91] : Bs).length oc) [91] from ho)
           have Hb1 := Lib.hid (hk2.blk Hb1.out id)
           have HK := Lib.hid (HK.out.trans hk2 (fun _ _ h => h))
           clear ho hk2 hnew v0 v1 v2 v3 v4 v5
           have v0 := (blk_cell Hb1.out 0).trans rfl
           have v1 := (blk_cell Hb1.out 1).trans rfl
           have v2 := (blk_cell Hb1.out 2).trans rfl
           have v3 := (blk_cell Hb1.out 3).trans rfl
           have v4 := (blk_cell Hb1.out 4).trans rfl
           have v5 := (blk_cell Hb1.out 5).trans rfl
           (try simp only [PU]))
      )
      go_loopg [34, 5] nv (fun K' iv ov wr => ∃ (i : Nat) (oA : Option Addr) (oc : Nat) (out : Bs), iv = .int .i64 i ∧ ov = .slice oA out.length oc ∧ i + K' = nv ∧ Hid (wr.heap[g1]? = some (.cells #[.int .i64 5, .bool b, .int .i64 n, .string t, .slice kA nk kc, .slice A nv c] 25 (0, 0))) ∧ Hid (OwnB wr W.heap.size (.slice oA out.length oc) out) ∧ Hid (Keeps Nob W wr) ∧ Hid (out = [91] ++ joinC ((textL vs).take i)))
      case atStart => exact ⟨0, oA, oc, [91], rfl, rfl, by omega, Hb1, HO, HK, Lib.hid (by simp [joinC])⟩
      case round =>
        obtain ⟨i, oA, oc, out, rfl, rfl, hiK, Hb1, HO, HK, HE⟩ := hrel
        have v0 := (blk_cell Hb1.out 0).trans rfl
        have v1 := (blk_cell Hb1.out 1).trans rfl
        have v2 := (blk_cell Hb1.out 2).trans rfl
        have v3 := (blk_cell Hb1.out 3).trans rfl
        have v4 := (blk_cell Hb1.out 4).trans rfl
        have v5 := (blk_cell Hb1.out 5).trans rfl
        have Hol := Lib.hid (show out.length ≤ 500000000000 by rw [HE.out, List.length_append]; have := (parts_bound HP.out i).1; simp only [List.length_cons, List.length_nil]; omega)
        by_cases hlt : i < nv
        · obtain ⟨PSi, hPSi⟩ : ∃ x, (textL vs).getD i [] = x := ⟨_, rfl⟩
          obtain ⟨tx, htx⟩ : ∃ x, textJ (vs.getD i default) = x := ⟨_, rfl⟩
          have hjt := joinC_take (ps := (textL vs)) (k := i) (by rw [Hpl.out]; exact hlt)
          rw [hPSi] at hjt
          obtain ⟨key, hkey⟩ : ∃ x : ByteArray, ByteArray.empty = x := ⟨_, rfl⟩
          have Hkcell := Lib.hid True.intro
          have Hparts := Lib.hid (show PSi = tx by rw [← hPSi, Hget.out i hlt, htx])
          have Hpb := Lib.hid (show tx.length ≤ 400000000000 by have h1 := (parts_bound HP.out i).2; have h2 := Hparts.out; rw [hPSi, h2] at h1; exact h1)
          clear hkey
          have Hjt := Lib.hid hjt
          have Htb := Lib.hid (show tx.length ≤ 400000000000 from Hpb.out)
          obtain ⟨b', o, rfl, -, h6⟩ := HA.out i (by rw [Hnv.out]; exact hlt)
          obtain ⟨⟨e0, e1, e2⟩, e3, e4, e5⟩ := h6.keep (HW.out.trans HK.out (fun _ _ h => h)) id
          have hsix := (HV.out i (by rw [Hnv.out]; exact hlt)).six
          have hrun := IH.out i (by rw [Hnv.out]; exact hlt)
          rw [htx] at hrun
          have hsv : sizeJ (vs.getD i default) ≤ 10000000000 := by have h1 := size_get (vs := vs) (i := i) (by rw [Hnv.out]; exact hlt); have := Hbs.out; omega
          have hfv := formed_get (vs := vs) (i := i) Hfl.out (by rw [Hnv.out]; exact hlt)
          have Hrun := Lib.hid (fun W' (hk : Keeps Nob W W') => hrun W' (HW.out.trans hk (fun _ _ h => h)) (tab_after HT.out hk) hfv hsv)
          generalize u i 0 = x0 at *
          generalize u i 1 = x1 at *
          generalize u i 2 = x2 at *
          generalize u i 3 = x3 at *
          generalize u i 4 = x4 at *
          generalize u i 5 = x5 at *
          obtain ⟨y0, y1, y2, y3, yA, yn, yc, yB, ym, yd, ⟨rfl, rfl, rfl⟩, rfl, rfl, rfl⟩ := hsix
          clear h6 hjt hPSi htx hrun hsv hfv
          by_cases hi0 : i = 0
          · have HN := Lib.hid (show [91] ++ joinC ((textL vs).take (i + 1)) = out ++ PSi by rw [Hjt.out, if_pos hi0, HE.out, hi0]; simp [joinC])
            have hi0i : ¬ (0 : Int) < (i : Int) := by omega
            clear hi0
            go_wp2_with (first
              | ((with_reducible refine at_dst (N := 7) rfl ?_); go_must (refine ev_alloc rfl rfl zero25 rfl ?_; intro g5 w2 hg5 hl5 hb5 hk2)
                 have Hb5 := Lib.hid hb5
                 have Hg5 := Lib.hid (show W.heap.size ≤ g5 ∧ g1 < g5 from ⟨Nat.le_trans HK.out.size hg5, Nat.lt_of_lt_of_le (blk_lt Hb1.out) hg5⟩)
                 have HO := Lib.hid (HO.out.keep hk2 (fun _ _ => id))
                 have Hb1 := Lib.hid (hk2.blk Hb1.out id)
                 have HK := Lib.hid (HK.out.trans hk2 (fun _ _ h => h))
                 clear hb5 hk2 hg5 hl5
                 (try simp only [PU]))
              | ((with_reducible refine at_store (t := 25) (p := 7) rfl ?_); go_must (refine ev_store (cs' := #[.int .i64 y0, .bool y1, .int .i64 y2, .string y3, .slice yA yn yc, .slice yB ym yd]) rfl rfl rfl rfl rfl rfl HI.out.1 HI.out.2 rfl Hb5.out (Nat.le_of_ble_eq_true rfl) rfl ?_; intro w3 hb3 hk3)
                 have hbb1 := hk3.blk Hb1.out (fun e : g1 = g5 => by have := Hg5.out; omega)
                 have HO := Lib.hid (HO.out.keep hk3 (fun k hk e => own_ne HO.out Hb5.out (by decide) (by rw [hk, e])))
                 have hkk := HK.out.trans hk3 (fun i hi e => by have := Hg5.out; omega)
                 have Hb5 := Lib.hid hb3
                 (try clear v0 v1 v2 v3 v4 v5)
                 have HK := Lib.hid (show Keeps Nob W _ from hkk)
                 have Hb1 := Lib.hid hbb1
                 (try have kc0 := (HW.out.trans HK.out (fun _ _ h => h)).cell Hkcell.out id)
                 have v0 := (blk_cell Hb1.out 0).trans rfl
                 have v1 := (blk_cell Hb1.out 1).trans rfl
                 have v2 := (blk_cell Hb1.out 2).trans rfl
                 have v3 := (blk_cell Hb1.out 3).trans rfl
                 have v4 := (blk_cell Hb1.out 4).trans rfl
                 have v5 := (blk_cell Hb1.out 5).trans rfl
                 have s0 := (blk_cell Hb5.out 0).trans rfl
                 have s1 := (blk_cell Hb5.out 1).trans rfl
                 have s2 := (blk_cell Hb5.out 2).trans rfl
                 have s3 := (blk_cell Hb5.out 3).trans rfl
                 have s4 := (blk_cell Hb5.out 4).trans rfl
                 have s5 := (blk_cell Hb5.out 5).trans rfl
                 clear hb3 hk3 hbb1 hkk
                 (try simp only [PU]))
              | ((with_reducible refine at_dst (N := 42) rfl ?_); go_must (refine ev_slice (cs := #[.int .u8 44]) (t := 5) (n := 1) (c := 1) rfl (by first | (go_simp; done) | (go_simp; rfl)) ?_; intro gb wb hgb hlb hbb hk2)
                 have Hbb := Lib.hid hbb
                 clear hbb hgb hlb
                 have hbb1 := hk2.blk Hb1.out id
                 have hbb5 := hk2.blk Hb5.out id
                 have hkk := HK.out.trans hk2 (fun _ _ h => h)
                 have HO := Lib.hid (HO.out.keep hk2 (fun _ _ => id))
                 have Hb5 := Lib.hid hbb5
                 clear v0 v1 v2 v3 v4 v5 s0 s1 s2 s3 s4 s5
                 have HK := Lib.hid (show Keeps Nob W _ from hkk)
                 have Hb1 := Lib.hid hbb1
                 (try have kc0 := (HW.out.trans HK.out (fun _ _ h => h)).cell Hkcell.out id)
                 have v0 := (blk_cell Hb1.out 0).trans rfl
                 have v1 := (blk_cell Hb1.out 1).trans rfl
                 have v2 := (blk_cell Hb1.out 2).trans rfl
                 have v3 := (blk_cell Hb1.out 3).trans rfl
                 have v4 := (blk_cell Hb1.out 4).trans rfl
                 have v5 := (blk_cell Hb1.out 5).trans rfl
                 have s0 := (blk_cell Hb5.out 0).trans rfl
                 have s1 := (blk_cell Hb5.out 1).trans rfl
                 have s2 := (blk_cell Hb5.out 2).trans rfl
                 have s3 := (blk_cell Hb5.out 3).trans rfl
                 have s4 := (blk_cell Hb5.out 4).trans rfl
                 have s5 := (blk_cell Hb5.out 5).trans rfl
                 clear hk2 hbb1 hbb5 hkk
                 (try simp only [PU])
                 )
              | ((with_reducible refine at_dst (N := 43) rfl ?_); go_must (refine ev_app_sl rfl rfl byteT38 (base := W.heap.size) rfl HO.out rfl (news := [44]) rfl (fun _ => ⟨_, rfl, news_made Hbb.out rfl⟩) (by have := Hol.out; omega) HK.out.size ?_; intro v' wc ho2 ha2; obtain ⟨out1, hq1⟩ : ∃ x, out ++ [44] = x := ⟨_, rfl⟩; rw [hq1] at ho2; obtain ⟨nA, nc, hv'⟩ := ho2.slice; subst hv')
                 have Hq1 := Lib.hid hq1
                 have Hol1 := Lib.hid (show out1.length ≤ 600000000000 by rw [← hq1, List.length_append]; have := Hol.out; simp only [List.length_cons, List.length_nil]; omega)
                 clear hq1
                 have hbb1 := ha2.keep.blk Hb1.out (own_ne HO.out (by first | exact Hb1.out) (by decide))
                 have hbb5 := ha2.keep.blk Hb5.out (own_ne HO.out Hb5.out (by decide))
                 have hkk := HK.out.trans ha2.keep (fun i hi e => by have := (OwnB.lt HO.out i e.symm).1; omega)
                 have HO := Lib.hid ho2
                 have Hb5 := Lib.hid hbb5
                 clear v0 v1 v2 v3 v4 v5 s0 s1 s2 s3 s4 s5
                 have HK := Lib.hid (show Keeps Nob W _ from hkk)
                 have Hb1 := Lib.hid hbb1
                 (try have kc0 := (HW.out.trans HK.out (fun _ _ h => h)).cell Hkcell.out id)
                 have v0 := (blk_cell Hb1.out 0).trans rfl
                 have v1 := (blk_cell Hb1.out 1).trans rfl
                 have v2 := (blk_cell Hb1.out 2).trans rfl
                 have v3 := (blk_cell Hb1.out 3).trans rfl
                 have v4 := (blk_cell Hb1.out 4).trans rfl
                 have v5 := (blk_cell Hb1.out 5).trans rfl
                 have s0 := (blk_cell Hb5.out 0).trans rfl
                 have s1 := (blk_cell Hb5.out 1).trans rfl
                 have s2 := (blk_cell Hb5.out 2).trans rfl
                 have s3 := (blk_cell Hb5.out 3).trans rfl
                 have s4 := (blk_cell Hb5.out 4).trans rfl
                 have s5 := (blk_cell Hb5.out 5).trans rfl
                 clear ho2 ha2 hbb1 hbb5 hkk
                 (try simp only [PU])
                 )
              | (go_at_call 43; go_must (refine (H43.out _).mono ?_; rintro e wd ⟨rfl, hk2⟩)
                 have hbb1 := hk2.blk Hb1.out id
                 have hbb5 := hk2.blk Hb5.out id
                 have hkk := HK.out.trans hk2 (fun _ _ h => h)
                 have HO := Lib.hid (HO.out.keep hk2 (fun _ _ => id))
                 have Hb5 := Lib.hid hbb5
                 clear v0 v1 v2 v3 v4 v5 s0 s1 s2 s3 s4 s5
                 have HK := Lib.hid (show Keeps Nob W _ from hkk)
                 have Hb1 := Lib.hid hbb1
                 (try have kc0 := (HW.out.trans HK.out (fun _ _ h => h)).cell Hkcell.out id)
                 have v0 := (blk_cell Hb1.out 0).trans rfl
                 have v1 := (blk_cell Hb1.out 1).trans rfl
                 have v2 := (blk_cell Hb1.out 2).trans rfl
                 have v3 := (blk_cell Hb1.out 3).trans rfl
                 have v4 := (blk_cell Hb1.out 4).trans rfl
                 have v5 := (blk_cell Hb1.out 5).trans rfl
                 have s0 := (blk_cell Hb5.out 0).trans rfl
                 have s1 := (blk_cell Hb5.out 1).trans rfl
                 have s2 := (blk_cell Hb5.out 2).trans rfl
                 have s3 := (blk_cell Hb5.out 3).trans rfl
                 have s4 := (blk_cell Hb5.out 4).trans rfl
                 have s5 := (blk_cell Hb5.out 5).trans rfl
                 clear hk2 hbb1 hbb5 hkk
                 (try simp only [PU])
                 )
              | ((with_reducible refine at_dst (N := 62) rfl ?_); go_must (refine ev_app_str rfl rfl byteT38 Tryd.underlying9 (base := W.heap.size) rfl HO.out (st := qk ++ ⟨#[58]⟩) rfl (by rw [Hqc.out]; have := Hol.out; have := Hqb.out; simp only [List.length_append, List.length_cons, List.length_nil]; omega) HK.out.size ?_; rw [Hqc.out]; intro v' wc ho2 ha2; obtain ⟨out2, hq2⟩ : ∃ x, out ++ (quoteB (bl key) ++ [58]) = x := ⟨_, rfl⟩; rw [hq2] at ho2; obtain ⟨nA, nc, hv'⟩ := ho2.slice; subst hv')
                 have Hq2 := Lib.hid hq2
                 have Hol2 := Lib.hid (show out2.length ≤ 2000000000000 by rw [← hq2, List.length_append]; have := Hol.out; have := Hqb.out; simp only [List.length_append, List.length_cons, List.length_nil]; omega)
                 clear hq2
                 have hbb1 := ha2.keep.blk Hb1.out (own_ne HO.out (by first | exact Hb1.out) (by decide))
                 have hbb5 := ha2.keep.blk Hb5.out (own_ne HO.out Hb5.out (by decide))
                 have hkk := HK.out.trans ha2.keep (fun i hi e => by have := (OwnB.lt HO.out i e.symm).1; omega)
                 have HO := Lib.hid ho2
                 have Hb5 := Lib.hid hbb5
                 clear v0 v1 v2 v3 v4 v5 s0 s1 s2 s3 s4 s5
                 have HK := Lib.hid (show Keeps Nob W _ from hkk)
                 have Hb1 := Lib.hid hbb1
                 (try have kc0 := (HW.out.trans HK.out (fun _ _ h => h)).cell Hkcell.out id)
                 have v0 := (blk_cell Hb1.out 0).trans rfl
                 have v1 := (blk_cell Hb1.out 1).trans rfl
                 have v2 := (blk_cell Hb1.out 2).trans rfl
                 have v3 := (blk_cell Hb1.out 3).trans rfl
                 have v4 := (blk_cell Hb1.out 4).trans rfl
                 have v5 := (blk_cell Hb1.out 5).trans rfl
                 have s0 := (blk_cell Hb5.out 0).trans rfl
                 have s1 := (blk_cell Hb5.out 1).trans rfl
                 have s2 := (blk_cell Hb5.out 2).trans rfl
                 have s3 := (blk_cell Hb5.out 3).trans rfl
                 have s4 := (blk_cell Hb5.out 4).trans rfl
                 have s5 := (blk_cell Hb5.out 5).trans rfl
                 clear ho2 ha2 hbb1 hbb5 hkk
                 (try simp only [PU])
                 )
              | (go_at_call 17; go_must (refine (Hrun.out _ HK.out).mono ?_; rintro e wd ⟨rfl, hk2⟩)
                 have hbb1 := hk2.blk Hb1.out id
                 have hbb5 := hk2.blk Hb5.out id
                 have hkk := HK.out.trans hk2 (fun _ _ h => h)
                 have HO := Lib.hid (HO.out.keep hk2 (fun _ _ => id))
                 have Hb5 := Lib.hid hbb5
                 clear v0 v1 v2 v3 v4 v5 s0 s1 s2 s3 s4 s5
                 have HK := Lib.hid (show Keeps Nob W _ from hkk)
                 have Hb1 := Lib.hid hbb1
                 (try have kc0 := (HW.out.trans HK.out (fun _ _ h => h)).cell Hkcell.out id)
                 have v0 := (blk_cell Hb1.out 0).trans rfl
                 have v1 := (blk_cell Hb1.out 1).trans rfl
                 have v2 := (blk_cell Hb1.out 2).trans rfl
                 have v3 := (blk_cell Hb1.out 3).trans rfl
                 have v4 := (blk_cell Hb1.out 4).trans rfl
                 have v5 := (blk_cell Hb1.out 5).trans rfl
                 have s0 := (blk_cell Hb5.out 0).trans rfl
                 have s1 := (blk_cell Hb5.out 1).trans rfl
                 have s2 := (blk_cell Hb5.out 2).trans rfl
                 have s3 := (blk_cell Hb5.out 3).trans rfl
                 have s4 := (blk_cell Hb5.out 4).trans rfl
                 have s5 := (blk_cell Hb5.out 5).trans rfl
                 clear hk2 hbb1 hbb5 hkk
                 (try simp only [PU])
                 )
              | ((with_reducible refine at_dst (N := 66) rfl ?_); go_must (refine ev_app_str rfl rfl byteT38 Tryd.underlying9 (base := W.heap.size) rfl HO.out (st := mkB tx) rfl (by rw [show bl (mkB tx) = tx from rfl]; have := Hol.out; have := Htb.out; omega) HK.out.size ?_; rw [show bl (mkB tx) = tx from rfl]; intro v' wc ho2 ha2; obtain ⟨out3, hq3⟩ : ∃ x, out ++ tx = x := ⟨_, rfl⟩; rw [hq3] at ho2; obtain ⟨nA, nc, hv'⟩ := ho2.slice; subst hv')
                 have Hq3 := Lib.hid hq3
                 clear hq3
                 have hbb1 := ha2.keep.blk Hb1.out (own_ne HO.out (by first | exact Hb1.out) (by decide))
                 have hbb5 := ha2.keep.blk Hb5.out (own_ne HO.out Hb5.out (by decide))
                 have hkk := HK.out.trans ha2.keep (fun i hi e => by have := (OwnB.lt HO.out i e.symm).1; omega)
                 have HO := Lib.hid ho2
                 have Hb5 := Lib.hid hbb5
                 clear v0 v1 v2 v3 v4 v5 s0 s1 s2 s3 s4 s5
                 have HK := Lib.hid (show Keeps Nob W _ from hkk)
                 have Hb1 := Lib.hid hbb1
                 (try have kc0 := (HW.out.trans HK.out (fun _ _ h => h)).cell Hkcell.out id)
                 have v0 := (blk_cell Hb1.out 0).trans rfl
                 have v1 := (blk_cell Hb1.out 1).trans rfl
                 have v2 := (blk_cell Hb1.out 2).trans rfl
                 have v3 := (blk_cell Hb1.out 3).trans rfl
                 have v4 := (blk_cell Hb1.out 4).trans rfl
                 have v5 := (blk_cell Hb1.out 5).trans rfl
                 have s0 := (blk_cell Hb5.out 0).trans rfl
                 have s1 := (blk_cell Hb5.out 1).trans rfl
                 have s2 := (blk_cell Hb5.out 2).trans rfl
                 have s3 := (blk_cell Hb5.out 3).trans rfl
                 have s4 := (blk_cell Hb5.out 4).trans rfl
                 have s5 := (blk_cell Hb5.out 5).trans rfl
                 clear ho2 ha2 hbb1 hbb5 hkk
                 (try simp only [PU])
                 )
            )
            go_roundg (nv - i - 1)
            case measure => omega
            case rel => exact ⟨i + 1, nA, nc, out3, by first | rfl | (congr 1), rfl, by omega, Hb1, HO, HK, Lib.hid (by rw [HN.out, Hparts.out, ← Hq3.out] <;> simp only [List.append_assoc])⟩
          · have HN := Lib.hid (show [91] ++ joinC ((textL vs).take (i + 1)) = out ++ [44] ++ PSi by rw [Hjt.out, if_neg hi0, HE.out]; simp)
            have hi0i : (0 : Int) < (i : Int) := by omega
            go_wp2_with (first
              | ((with_reducible refine at_dst (N := 7) rfl ?_); go_must (refine ev_alloc rfl rfl zero25 rfl ?_; intro g5 w2 hg5 hl5 hb5 hk2)
                 have Hb5 := Lib.hid hb5
                 have Hg5 := Lib.hid (show W.heap.size ≤ g5 ∧ g1 < g5 from ⟨Nat.le_trans HK.out.size hg5, Nat.lt_of_lt_of_le (blk_lt Hb1.out) hg5⟩)
                 have HO := Lib.hid (HO.out.keep hk2 (fun _ _ => id))
                 have Hb1 := Lib.hid (hk2.blk Hb1.out id)
                 have HK := Lib.hid (HK.out.trans hk2 (fun _ _ h => h))
                 clear hb5 hk2 hg5 hl5
                 (try simp only [PU]))
              | ((with_reducible refine at_store (t := 25) (p := 7) rfl ?_); go_must (refine ev_store (cs' := #[.int .i64 y0, .bool y1, .int .i64 y2, .string y3, .slice yA yn yc, .slice yB ym yd]) rfl rfl rfl rfl rfl rfl HI.out.1 HI.out.2 rfl Hb5.out (Nat.le_of_ble_eq_true rfl) rfl ?_; intro w3 hb3 hk3)
                 have hbb1 := hk3.blk Hb1.out (fun e : g1 = g5 => by have := Hg5.out; omega)
                 have HO := Lib.hid (HO.out.keep hk3 (fun k hk e => own_ne HO.out Hb5.out (by decide) (by rw [hk, e])))
                 have hkk := HK.out.trans hk3 (fun i hi e => by have := Hg5.out; omega)
                 have Hb5 := Lib.hid hb3
                 (try clear v0 v1 v2 v3 v4 v5)
                 have HK := Lib.hid (show Keeps Nob W _ from hkk)
                 have Hb1 := Lib.hid hbb1
                 (try have kc0 := (HW.out.trans HK.out (fun _ _ h => h)).cell Hkcell.out id)
                 have v0 := (blk_cell Hb1.out 0).trans rfl
                 have v1 := (blk_cell Hb1.out 1).trans rfl
                 have v2 := (blk_cell Hb1.out 2).trans rfl
                 have v3 := (blk_cell Hb1.out 3).trans rfl
                 have v4 := (blk_cell Hb1.out 4).trans rfl
                 have v5 := (blk_cell Hb1.out 5).trans rfl
                 have s0 := (blk_cell Hb5.out 0).trans rfl
                 have s1 := (blk_cell Hb5.out 1).trans rfl
                 have s2 := (blk_cell Hb5.out 2).trans rfl
                 have s3 := (blk_cell Hb5.out 3).trans rfl
                 have s4 := (blk_cell Hb5.out 4).trans rfl
                 have s5 := (blk_cell Hb5.out 5).trans rfl
                 clear hb3 hk3 hbb1 hkk
                 (try simp only [PU]))
              | ((with_reducible refine at_dst (N := 42) rfl ?_); go_must (refine ev_slice (cs := #[.int .u8 44]) (t := 5) (n := 1) (c := 1) rfl (by first | (go_simp; done) | (go_simp; rfl)) ?_; intro gb wb hgb hlb hbb hk2)
                 have Hbb := Lib.hid hbb
                 clear hbb hgb hlb
                 have hbb1 := hk2.blk Hb1.out id
                 have hbb5 := hk2.blk Hb5.out id
                 have hkk := HK.out.trans hk2 (fun _ _ h => h)
                 have HO := Lib.hid (HO.out.keep hk2 (fun _ _ => id))
                 have Hb5 := Lib.hid hbb5
                 clear v0 v1 v2 v3 v4 v5 s0 s1 s2 s3 s4 s5
                 have HK := Lib.hid (show Keeps Nob W _ from hkk)
                 have Hb1 := Lib.hid hbb1
                 (try have kc0 := (HW.out.trans HK.out (fun _ _ h => h)).cell Hkcell.out id)
                 have v0 := (blk_cell Hb1.out 0).trans rfl
                 have v1 := (blk_cell Hb1.out 1).trans rfl
                 have v2 := (blk_cell Hb1.out 2).trans rfl
                 have v3 := (blk_cell Hb1.out 3).trans rfl
                 have v4 := (blk_cell Hb1.out 4).trans rfl
                 have v5 := (blk_cell Hb1.out 5).trans rfl
                 have s0 := (blk_cell Hb5.out 0).trans rfl
                 have s1 := (blk_cell Hb5.out 1).trans rfl
                 have s2 := (blk_cell Hb5.out 2).trans rfl
                 have s3 := (blk_cell Hb5.out 3).trans rfl
                 have s4 := (blk_cell Hb5.out 4).trans rfl
                 have s5 := (blk_cell Hb5.out 5).trans rfl
                 clear hk2 hbb1 hbb5 hkk
                 (try simp only [PU])
                 )
              | ((with_reducible refine at_dst (N := 43) rfl ?_); go_must (refine ev_app_sl rfl rfl byteT38 (base := W.heap.size) rfl HO.out rfl (news := [44]) rfl (fun _ => ⟨_, rfl, news_made Hbb.out rfl⟩) (by have := Hol.out; omega) HK.out.size ?_; intro v' wc ho2 ha2; obtain ⟨out1, hq1⟩ : ∃ x, out ++ [44] = x := ⟨_, rfl⟩; rw [hq1] at ho2; obtain ⟨nA, nc, hv'⟩ := ho2.slice; subst hv')
                 have Hq1 := Lib.hid hq1
                 have Hol1 := Lib.hid (show out1.length ≤ 600000000000 by rw [← hq1, List.length_append]; have := Hol.out; simp only [List.length_cons, List.length_nil]; omega)
                 clear hq1
                 have hbb1 := ha2.keep.blk Hb1.out (own_ne HO.out (by first | exact Hb1.out) (by decide))
                 have hbb5 := ha2.keep.blk Hb5.out (own_ne HO.out Hb5.out (by decide))
                 have hkk := HK.out.trans ha2.keep (fun i hi e => by have := (OwnB.lt HO.out i e.symm).1; omega)
                 have HO := Lib.hid ho2
                 have Hb5 := Lib.hid hbb5
                 clear v0 v1 v2 v3 v4 v5 s0 s1 s2 s3 s4 s5
                 have HK := Lib.hid (show Keeps Nob W _ from hkk)
                 have Hb1 := Lib.hid hbb1
                 (try have kc0 := (HW.out.trans HK.out (fun _ _ h => h)).cell Hkcell.out id)
                 have v0 := (blk_cell Hb1.out 0).trans rfl
                 have v1 := (blk_cell Hb1.out 1).trans rfl
                 have v2 := (blk_cell Hb1.out 2).trans rfl
                 have v3 := (blk_cell Hb1.out 3).trans rfl
                 have v4 := (blk_cell Hb1.out 4).trans rfl
                 have v5 := (blk_cell Hb1.out 5).trans rfl
                 have s0 := (blk_cell Hb5.out 0).trans rfl
                 have s1 := (blk_cell Hb5.out 1).trans rfl
                 have s2 := (blk_cell Hb5.out 2).trans rfl
                 have s3 := (blk_cell Hb5.out 3).trans rfl
                 have s4 := (blk_cell Hb5.out 4).trans rfl
                 have s5 := (blk_cell Hb5.out 5).trans rfl
                 clear ho2 ha2 hbb1 hbb5 hkk
                 (try simp only [PU])
                 )
              | (go_at_call 43; go_must (refine (H43.out _).mono ?_; rintro e wd ⟨rfl, hk2⟩)
                 have hbb1 := hk2.blk Hb1.out id
                 have hbb5 := hk2.blk Hb5.out id
                 have hkk := HK.out.trans hk2 (fun _ _ h => h)
                 have HO := Lib.hid (HO.out.keep hk2 (fun _ _ => id))
                 have Hb5 := Lib.hid hbb5
                 clear v0 v1 v2 v3 v4 v5 s0 s1 s2 s3 s4 s5
                 have HK := Lib.hid (show Keeps Nob W _ from hkk)
                 have Hb1 := Lib.hid hbb1
                 (try have kc0 := (HW.out.trans HK.out (fun _ _ h => h)).cell Hkcell.out id)
                 have v0 := (blk_cell Hb1.out 0).trans rfl
                 have v1 := (blk_cell Hb1.out 1).trans rfl
                 have v2 := (blk_cell Hb1.out 2).trans rfl
                 have v3 := (blk_cell Hb1.out 3).trans rfl
                 have v4 := (blk_cell Hb1.out 4).trans rfl
                 have v5 := (blk_cell Hb1.out 5).trans rfl
                 have s0 := (blk_cell Hb5.out 0).trans rfl
                 have s1 := (blk_cell Hb5.out 1).trans rfl
                 have s2 := (blk_cell Hb5.out 2).trans rfl
                 have s3 := (blk_cell Hb5.out 3).trans rfl
                 have s4 := (blk_cell Hb5.out 4).trans rfl
                 have s5 := (blk_cell Hb5.out 5).trans rfl
                 clear hk2 hbb1 hbb5 hkk
                 (try simp only [PU])
                 )
              | ((with_reducible refine at_dst (N := 62) rfl ?_); go_must (refine ev_app_str rfl rfl byteT38 Tryd.underlying9 (base := W.heap.size) rfl HO.out (st := qk ++ ⟨#[58]⟩) rfl (by rw [Hqc.out]; have := Hol1.out; have := Hqb.out; simp only [List.length_append, List.length_cons, List.length_nil]; omega) HK.out.size ?_; rw [Hqc.out]; intro v' wc ho2 ha2; obtain ⟨out2, hq2⟩ : ∃ x, out1 ++ (quoteB (bl key) ++ [58]) = x := ⟨_, rfl⟩; rw [hq2] at ho2; obtain ⟨nA, nc, hv'⟩ := ho2.slice; subst hv')
                 have Hq2 := Lib.hid hq2
                 have Hol2 := Lib.hid (show out2.length ≤ 2000000000000 by rw [← hq2, List.length_append]; have := Hol1.out; have := Hqb.out; simp only [List.length_append, List.length_cons, List.length_nil]; omega)
                 clear hq2
                 have hbb1 := ha2.keep.blk Hb1.out (own_ne HO.out (by first | exact Hb1.out) (by decide))
                 have hbb5 := ha2.keep.blk Hb5.out (own_ne HO.out Hb5.out (by decide))
                 have hkk := HK.out.trans ha2.keep (fun i hi e => by have := (OwnB.lt HO.out i e.symm).1; omega)
                 have HO := Lib.hid ho2
                 have Hb5 := Lib.hid hbb5
                 clear v0 v1 v2 v3 v4 v5 s0 s1 s2 s3 s4 s5
                 have HK := Lib.hid (show Keeps Nob W _ from hkk)
                 have Hb1 := Lib.hid hbb1
                 (try have kc0 := (HW.out.trans HK.out (fun _ _ h => h)).cell Hkcell.out id)
                 have v0 := (blk_cell Hb1.out 0).trans rfl
                 have v1 := (blk_cell Hb1.out 1).trans rfl
                 have v2 := (blk_cell Hb1.out 2).trans rfl
                 have v3 := (blk_cell Hb1.out 3).trans rfl
                 have v4 := (blk_cell Hb1.out 4).trans rfl
                 have v5 := (blk_cell Hb1.out 5).trans rfl
                 have s0 := (blk_cell Hb5.out 0).trans rfl
                 have s1 := (blk_cell Hb5.out 1).trans rfl
                 have s2 := (blk_cell Hb5.out 2).trans rfl
                 have s3 := (blk_cell Hb5.out 3).trans rfl
                 have s4 := (blk_cell Hb5.out 4).trans rfl
                 have s5 := (blk_cell Hb5.out 5).trans rfl
                 clear ho2 ha2 hbb1 hbb5 hkk
                 (try simp only [PU])
                 )
              | (go_at_call 17; go_must (refine (Hrun.out _ HK.out).mono ?_; rintro e wd ⟨rfl, hk2⟩)
                 have hbb1 := hk2.blk Hb1.out id
                 have hbb5 := hk2.blk Hb5.out id
                 have hkk := HK.out.trans hk2 (fun _ _ h => h)
                 have HO := Lib.hid (HO.out.keep hk2 (fun _ _ => id))
                 have Hb5 := Lib.hid hbb5
                 clear v0 v1 v2 v3 v4 v5 s0 s1 s2 s3 s4 s5
                 have HK := Lib.hid (show Keeps Nob W _ from hkk)
                 have Hb1 := Lib.hid hbb1
                 (try have kc0 := (HW.out.trans HK.out (fun _ _ h => h)).cell Hkcell.out id)
                 have v0 := (blk_cell Hb1.out 0).trans rfl
                 have v1 := (blk_cell Hb1.out 1).trans rfl
                 have v2 := (blk_cell Hb1.out 2).trans rfl
                 have v3 := (blk_cell Hb1.out 3).trans rfl
                 have v4 := (blk_cell Hb1.out 4).trans rfl
                 have v5 := (blk_cell Hb1.out 5).trans rfl
                 have s0 := (blk_cell Hb5.out 0).trans rfl
                 have s1 := (blk_cell Hb5.out 1).trans rfl
                 have s2 := (blk_cell Hb5.out 2).trans rfl
                 have s3 := (blk_cell Hb5.out 3).trans rfl
                 have s4 := (blk_cell Hb5.out 4).trans rfl
                 have s5 := (blk_cell Hb5.out 5).trans rfl
                 clear hk2 hbb1 hbb5 hkk
                 (try simp only [PU])
                 )
              | ((with_reducible refine at_dst (N := 66) rfl ?_); go_must (refine ev_app_str rfl rfl byteT38 Tryd.underlying9 (base := W.heap.size) rfl HO.out (st := mkB tx) rfl (by rw [show bl (mkB tx) = tx from rfl]; have := Hol1.out; have := Htb.out; omega) HK.out.size ?_; rw [show bl (mkB tx) = tx from rfl]; intro v' wc ho2 ha2; obtain ⟨out3, hq3⟩ : ∃ x, out1 ++ tx = x := ⟨_, rfl⟩; rw [hq3] at ho2; obtain ⟨nA, nc, hv'⟩ := ho2.slice; subst hv')
                 have Hq3 := Lib.hid hq3
                 clear hq3
                 have hbb1 := ha2.keep.blk Hb1.out (own_ne HO.out (by first | exact Hb1.out) (by decide))
                 have hbb5 := ha2.keep.blk Hb5.out (own_ne HO.out Hb5.out (by decide))
                 have hkk := HK.out.trans ha2.keep (fun i hi e => by have := (OwnB.lt HO.out i e.symm).1; omega)
                 have HO := Lib.hid ho2
                 have Hb5 := Lib.hid hbb5
                 clear v0 v1 v2 v3 v4 v5 s0 s1 s2 s3 s4 s5
                 have HK := Lib.hid (show Keeps Nob W _ from hkk)
                 have Hb1 := Lib.hid hbb1
                 (try have kc0 := (HW.out.trans HK.out (fun _ _ h => h)).cell Hkcell.out id)
                 have v0 := (blk_cell Hb1.out 0).trans rfl
                 have v1 := (blk_cell Hb1.out 1).trans rfl
                 have v2 := (blk_cell Hb1.out 2).trans rfl
                 have v3 := (blk_cell Hb1.out 3).trans rfl
                 have v4 := (blk_cell Hb1.out 4).trans rfl
                 have v5 := (blk_cell Hb1.out 5).trans rfl
                 have s0 := (blk_cell Hb5.out 0).trans rfl
                 have s1 := (blk_cell Hb5.out 1).trans rfl
                 have s2 := (blk_cell Hb5.out 2).trans rfl
                 have s3 := (blk_cell Hb5.out 3).trans rfl
                 have s4 := (blk_cell Hb5.out 4).trans rfl
                 have s5 := (blk_cell Hb5.out 5).trans rfl
                 clear ho2 ha2 hbb1 hbb5 hkk
                 (try simp only [PU])
                 )
            )
            go_roundg (nv - i - 1)
            case measure => omega
            case rel => exact ⟨i + 1, nA, nc, out3, by first | rfl | (congr 1), rfl, by omega, Hb1, HO, HK, Lib.hid (by rw [HN.out, Hparts.out, ← Hq3.out, ← Hq1.out] <;> simp only [List.append_assoc])⟩
        · have hi' : i = nv := by omega
          subst hi'
          have HR := Lib.hid (show S = out ++ [93] by
            rw [HS.out, HE.out, List.take_of_length_le (by rw [Hpl.out]; exact Nat.le_refl _)])
          go_wp2_with (first
            | ((with_reducible refine at_dst (N := 70) rfl ?_); go_must (refine ev_app_str rfl rfl byteT38 Tryd.underlying9 (base := W.heap.size) rfl HO.out (st := ⟨#[93]⟩) rfl (by have := Hol.out; show out.length + 1 ≤ _; omega) HK.out.size ?_; intro v' wc ho2 ha2; obtain ⟨nA, nc, hv'⟩ := ho2.slice; subst hv')
               have HO2 := Lib.hid (show OwnB wc W.heap.size (.slice nA (out ++ [93]).length nc) (out ++ [93]) from ho2)
               have HKz := Lib.hid (HK.out.trans ha2.keep (fun i hi e => by have := (HO.out.lt i e.symm).1; omega))
               clear ho2 ha2
               (try simp only [PU]))
            | ((with_reducible refine at_dst (N := 71) rfl ?_); go_must (refine ev_conv_bs rfl rfl Tryd.underlying38 Tryd.underlying5 Tryd.underlying9 (bs := out ++ [93]) rfl HO2.out.bytes ?_); (try simp only [PU]))
          )
          go_ret
          rw [HR.out]
          exact ⟨rfl, HKz.out⟩
    · subst e
      have hll : ks.length = vs.length := Hlen.out rfl
      have HS := Lib.hid (show S = [123] ++ joinC (pairT ks vs) ++ [125] by rw [← hS]; rfl)
      have HP := Lib.hid (show lens (pairT ks vs) + (pairT ks vs).length ≤ 400000000000 from HP6.out hll)
      have Hpl := Lib.hid (show (pairT ks vs).length = nv by rw [pairT_length hll]; exact Hnv.out)
      have Hget := Lib.hid (show ∀ i, i < nv → (pairT ks vs).getD i [] = quoteB (bl (ks.getD i ByteArray.empty)) ++ [58] ++ textJ (vs.getD i default) from fun i hi => pairT_get (by rw [Hnv.out]; exact hi) hll)
      have hnn : nk = nv := by rw [← Hnk.out, ← Hnv.out]; exact hll
      have Hnn := Lib.hid hnn
      clear hS hll hnn
      go_enter Tryd.func17, Tryd.ntmps17
      go_wp2_with (first
        | ((with_reducible refine at_dst (N := 1) rfl ?_); go_must (refine ev_box (cs := #[.int .i64 6, .bool b, .int .i64 n, .string t, .slice kA nk kc, .slice A nv c]) rfl rfl rfl ?_; intro g1 w1 hg1 hl1 hb1 hk1)
           have Hb1 := Lib.hid hb1
           have HK := Lib.hid hk1
           have Hg1 := Lib.hid hg1
           have v0 := (blk_cell Hb1.out 0).trans rfl
           have v1 := (blk_cell Hb1.out 1).trans rfl
           have v2 := (blk_cell Hb1.out 2).trans rfl
           have v3 := (blk_cell Hb1.out 3).trans rfl
           have v4 := (blk_cell Hb1.out 4).trans rfl
           have v5 := (blk_cell Hb1.out 5).trans rfl
           clear hb1 hk1 hg1 hl1
           (try simp only [PU]))
        | ((with_reducible refine at_dst (N := 30) rfl ?_); go_must (refine ev_conv_sb rfl rfl Tryd.underlying9 byteT38 Tryd.underlying5 rfl (base := W.heap.size) HK.out.size (by decide) ?_; intro v' wc ho hk2 hnew; obtain ⟨oA, oc, hv'⟩ := ho.slice; subst hv')
           have HO := Lib.hid (show OwnB wc W.heap.size (.slice oA ([123] : Bs).length oc) [123] from ho)
           have Hb1 := Lib.hid (hk2.blk Hb1.out id)
           have HK := Lib.hid (HK.out.trans hk2 (fun _ _ h => h))
           clear ho hk2 hnew v0 v1 v2 v3 v4 v5
           have v0 := (blk_cell Hb1.out 0).trans rfl
           have v1 := (blk_cell Hb1.out 1).trans rfl
           have v2 := (blk_cell Hb1.out 2).trans rfl
           have v3 := (blk_cell Hb1.out 3).trans rfl
           have v4 := (blk_cell Hb1.out 4).trans rfl
           have v5 := (blk_cell Hb1.out 5).trans rfl
           (try simp only [PU]))
      )
      go_loopg [34, 5] nv (fun K' iv ov wr => ∃ (i : Nat) (oA : Option Addr) (oc : Nat) (out : Bs), iv = .int .i64 i ∧ ov = .slice oA out.length oc ∧ i + K' = nv ∧ Hid (wr.heap[g1]? = some (.cells #[.int .i64 6, .bool b, .int .i64 n, .string t, .slice kA nk kc, .slice A nv c] 25 (0, 0))) ∧ Hid (OwnB wr W.heap.size (.slice oA out.length oc) out) ∧ Hid (Keeps Nob W wr) ∧ Hid (out = [123] ++ joinC ((pairT ks vs).take i)))
      case atStart => exact ⟨0, oA, oc, [123], rfl, rfl, by omega, Hb1, HO, HK, Lib.hid (by simp [joinC])⟩
      case round =>
        obtain ⟨i, oA, oc, out, rfl, rfl, hiK, Hb1, HO, HK, HE⟩ := hrel
        have v0 := (blk_cell Hb1.out 0).trans rfl
        have v1 := (blk_cell Hb1.out 1).trans rfl
        have v2 := (blk_cell Hb1.out 2).trans rfl
        have v3 := (blk_cell Hb1.out 3).trans rfl
        have v4 := (blk_cell Hb1.out 4).trans rfl
        have v5 := (blk_cell Hb1.out 5).trans rfl
        have Hol := Lib.hid (show out.length ≤ 500000000000 by rw [HE.out, List.length_append]; have := (parts_bound HP.out i).1; simp only [List.length_cons, List.length_nil]; omega)
        by_cases hlt : i < nv
        · obtain ⟨PSi, hPSi⟩ : ∃ x, (pairT ks vs).getD i [] = x := ⟨_, rfl⟩
          obtain ⟨tx, htx⟩ : ∃ x, textJ (vs.getD i default) = x := ⟨_, rfl⟩
          have hjt := joinC_take (ps := (pairT ks vs)) (k := i) (by rw [Hpl.out]; exact hlt)
          rw [hPSi] at hjt
          obtain ⟨b2, o2, hkA, -, hkcell⟩ := Hkx.out i (by rw [Hnk.out, Hnn.out]; exact hlt)
          subst hkA
          obtain ⟨key, hkey⟩ : ∃ x : ByteArray, ks.getD i ByteArray.empty = x := ⟨_, rfl⟩
          rw [hkey] at hkcell
          have Hkcell := Lib.hid hkcell
          have hikn : (i : Int) < (nk : Int) := by have := Hnn.out; omega
          have Hkb := Lib.hid (show key.size ≤ 1000000000000 by
            have h1 := Hbs.out
            have h2 : (ks.getD i ByteArray.empty).size ≤ (ks.map ByteArray.size).sum := by
              have hi' : i < ks.length := by rw [Hnk.out, Hnn.out]; exact hlt
              have h3 := sum_take ks i hi'
              have h4 := sum_take_le ks (i + 1)
              omega
            rw [hkey] at h2
            omega)
          obtain ⟨qk, hqk⟩ : ∃ x, mkB (quoteB (bl key)) = x := ⟨_, rfl⟩
          have Hqc := Lib.hid (show bl (qk ++ ⟨#[58]⟩) = quoteB (bl key) ++ [58] by rw [← hqk]; simp [bl, mkB])
          have h43 := fun W => quoted43 (W := W) (T := key) Hkb.out
          rw [hqk] at h43
          have H43 := Lib.hid h43
          have Hparts := Lib.hid (show PSi = quoteB (bl key) ++ [58] ++ tx by rw [← hPSi, Hget.out i hlt, htx, hkey])
          have hpb0 : (quoteB (bl key) ++ [58] ++ tx).length ≤ 400000000000 := by have h1 := (parts_bound HP.out i).2; have h2 := Hparts.out; rw [hPSi, h2] at h1; exact h1
          have Hqb := Lib.hid (show (quoteB (bl key)).length + 1 ≤ 400000000000 by simp only [List.length_append, List.length_cons, List.length_nil] at hpb0; omega)
          have Hpb := Lib.hid (show tx.length ≤ 400000000000 by simp only [List.length_append, List.length_cons, List.length_nil] at hpb0; omega)
          have hqks : qk.size ≤ 400000000000 := by have h1 := Hqb.out; rw [← hqk]; show (quoteB (bl key)).length ≤ _; omega
          have hqki : (qk.size : Int) ≤ 400000000000 := by omega
          clear hkcell hkey hpb0 hqk h43
          have Hjt := Lib.hid hjt
          have Htb := Lib.hid (show tx.length ≤ 400000000000 from Hpb.out)
          obtain ⟨b', o, rfl, -, h6⟩ := HA.out i (by rw [Hnv.out]; exact hlt)
          obtain ⟨⟨e0, e1, e2⟩, e3, e4, e5⟩ := h6.keep (HW.out.trans HK.out (fun _ _ h => h)) id
          have hsix := (HV.out i (by rw [Hnv.out]; exact hlt)).six
          have hrun := IH.out i (by rw [Hnv.out]; exact hlt)
          rw [htx] at hrun
          have hsv : sizeJ (vs.getD i default) ≤ 10000000000 := by have h1 := size_get (vs := vs) (i := i) (by rw [Hnv.out]; exact hlt); have := Hbs.out; omega
          have hfv := formed_get (vs := vs) (i := i) Hfl.out (by rw [Hnv.out]; exact hlt)
          have Hrun := Lib.hid (fun W' (hk : Keeps Nob W W') => hrun W' (HW.out.trans hk (fun _ _ h => h)) (tab_after HT.out hk) hfv hsv)
          generalize u i 0 = x0 at *
          generalize u i 1 = x1 at *
          generalize u i 2 = x2 at *
          generalize u i 3 = x3 at *
          generalize u i 4 = x4 at *
          generalize u i 5 = x5 at *
          obtain ⟨y0, y1, y2, y3, yA, yn, yc, yB, ym, yd, ⟨rfl, rfl, rfl⟩, rfl, rfl, rfl⟩ := hsix
          clear h6 hjt hPSi htx hrun hsv hfv
          by_cases hi0 : i = 0
          · have HN := Lib.hid (show [123] ++ joinC ((pairT ks vs).take (i + 1)) = out ++ PSi by rw [Hjt.out, if_pos hi0, HE.out, hi0]; simp [joinC])
            have hi0i : ¬ (0 : Int) < (i : Int) := by omega
            clear hi0
            go_wp2_with (first
              | ((with_reducible refine at_dst (N := 7) rfl ?_); go_must (refine ev_alloc rfl rfl zero25 rfl ?_; intro g5 w2 hg5 hl5 hb5 hk2)
                 have Hb5 := Lib.hid hb5
                 have Hg5 := Lib.hid (show W.heap.size ≤ g5 ∧ g1 < g5 from ⟨Nat.le_trans HK.out.size hg5, Nat.lt_of_lt_of_le (blk_lt Hb1.out) hg5⟩)
                 have HO := Lib.hid (HO.out.keep hk2 (fun _ _ => id))
                 have Hb1 := Lib.hid (hk2.blk Hb1.out id)
                 have HK := Lib.hid (HK.out.trans hk2 (fun _ _ h => h))
                 clear hb5 hk2 hg5 hl5
                 (try simp only [PU]))
              | ((with_reducible refine at_store (t := 25) (p := 7) rfl ?_); go_must (refine ev_store (cs' := #[.int .i64 y0, .bool y1, .int .i64 y2, .string y3, .slice yA yn yc, .slice yB ym yd]) rfl rfl rfl rfl rfl rfl HI.out.1 HI.out.2 rfl Hb5.out (Nat.le_of_ble_eq_true rfl) rfl ?_; intro w3 hb3 hk3)
                 have hbb1 := hk3.blk Hb1.out (fun e : g1 = g5 => by have := Hg5.out; omega)
                 have HO := Lib.hid (HO.out.keep hk3 (fun k hk e => own_ne HO.out Hb5.out (by decide) (by rw [hk, e])))
                 have hkk := HK.out.trans hk3 (fun i hi e => by have := Hg5.out; omega)
                 have Hb5 := Lib.hid hb3
                 (try clear v0 v1 v2 v3 v4 v5)
                 have HK := Lib.hid (show Keeps Nob W _ from hkk)
                 have Hb1 := Lib.hid hbb1
                 (try have kc0 := (HW.out.trans HK.out (fun _ _ h => h)).cell Hkcell.out id)
                 have v0 := (blk_cell Hb1.out 0).trans rfl
                 have v1 := (blk_cell Hb1.out 1).trans rfl
                 have v2 := (blk_cell Hb1.out 2).trans rfl
                 have v3 := (blk_cell Hb1.out 3).trans rfl
                 have v4 := (blk_cell Hb1.out 4).trans rfl
                 have v5 := (blk_cell Hb1.out 5).trans rfl
                 have s0 := (blk_cell Hb5.out 0).trans rfl
                 have s1 := (blk_cell Hb5.out 1).trans rfl
                 have s2 := (blk_cell Hb5.out 2).trans rfl
                 have s3 := (blk_cell Hb5.out 3).trans rfl
                 have s4 := (blk_cell Hb5.out 4).trans rfl
                 have s5 := (blk_cell Hb5.out 5).trans rfl
                 clear hb3 hk3 hbb1 hkk
                 (try simp only [PU]))
              | ((with_reducible refine at_dst (N := 42) rfl ?_); go_must (refine ev_slice (cs := #[.int .u8 44]) (t := 5) (n := 1) (c := 1) rfl (by first | (go_simp; done) | (go_simp; rfl)) ?_; intro gb wb hgb hlb hbb hk2)
                 have Hbb := Lib.hid hbb
                 clear hbb hgb hlb
                 have hbb1 := hk2.blk Hb1.out id
                 have hbb5 := hk2.blk Hb5.out id
                 have hkk := HK.out.trans hk2 (fun _ _ h => h)
                 have HO := Lib.hid (HO.out.keep hk2 (fun _ _ => id))
                 have Hb5 := Lib.hid hbb5
                 clear v0 v1 v2 v3 v4 v5 s0 s1 s2 s3 s4 s5
                 have HK := Lib.hid (show Keeps Nob W _ from hkk)
                 have Hb1 := Lib.hid hbb1
                 (try have kc0 := (HW.out.trans HK.out (fun _ _ h => h)).cell Hkcell.out id)
                 have v0 := (blk_cell Hb1.out 0).trans rfl
                 have v1 := (blk_cell Hb1.out 1).trans rfl
                 have v2 := (blk_cell Hb1.out 2).trans rfl
                 have v3 := (blk_cell Hb1.out 3).trans rfl
                 have v4 := (blk_cell Hb1.out 4).trans rfl
                 have v5 := (blk_cell Hb1.out 5).trans rfl
                 have s0 := (blk_cell Hb5.out 0).trans rfl
                 have s1 := (blk_cell Hb5.out 1).trans rfl
                 have s2 := (blk_cell Hb5.out 2).trans rfl
                 have s3 := (blk_cell Hb5.out 3).trans rfl
                 have s4 := (blk_cell Hb5.out 4).trans rfl
                 have s5 := (blk_cell Hb5.out 5).trans rfl
                 clear hk2 hbb1 hbb5 hkk
                 (try simp only [PU])
                 )
              | ((with_reducible refine at_dst (N := 43) rfl ?_); go_must (refine ev_app_sl rfl rfl byteT38 (base := W.heap.size) rfl HO.out rfl (news := [44]) rfl (fun _ => ⟨_, rfl, news_made Hbb.out rfl⟩) (by have := Hol.out; omega) HK.out.size ?_; intro v' wc ho2 ha2; obtain ⟨out1, hq1⟩ : ∃ x, out ++ [44] = x := ⟨_, rfl⟩; rw [hq1] at ho2; obtain ⟨nA, nc, hv'⟩ := ho2.slice; subst hv')
                 have Hq1 := Lib.hid hq1
                 have Hol1 := Lib.hid (show out1.length ≤ 600000000000 by rw [← hq1, List.length_append]; have := Hol.out; simp only [List.length_cons, List.length_nil]; omega)
                 clear hq1
                 have hbb1 := ha2.keep.blk Hb1.out (own_ne HO.out (by first | exact Hb1.out) (by decide))
                 have hbb5 := ha2.keep.blk Hb5.out (own_ne HO.out Hb5.out (by decide))
                 have hkk := HK.out.trans ha2.keep (fun i hi e => by have := (OwnB.lt HO.out i e.symm).1; omega)
                 have HO := Lib.hid ho2
                 have Hb5 := Lib.hid hbb5
                 clear v0 v1 v2 v3 v4 v5 s0 s1 s2 s3 s4 s5
                 have HK := Lib.hid (show Keeps Nob W _ from hkk)
                 have Hb1 := Lib.hid hbb1
                 (try have kc0 := (HW.out.trans HK.out (fun _ _ h => h)).cell Hkcell.out id)
                 have v0 := (blk_cell Hb1.out 0).trans rfl
                 have v1 := (blk_cell Hb1.out 1).trans rfl
                 have v2 := (blk_cell Hb1.out 2).trans rfl
                 have v3 := (blk_cell Hb1.out 3).trans rfl
                 have v4 := (blk_cell Hb1.out 4).trans rfl
                 have v5 := (blk_cell Hb1.out 5).trans rfl
                 have s0 := (blk_cell Hb5.out 0).trans rfl
                 have s1 := (blk_cell Hb5.out 1).trans rfl
                 have s2 := (blk_cell Hb5.out 2).trans rfl
                 have s3 := (blk_cell Hb5.out 3).trans rfl
                 have s4 := (blk_cell Hb5.out 4).trans rfl
                 have s5 := (blk_cell Hb5.out 5).trans rfl
                 clear ho2 ha2 hbb1 hbb5 hkk
                 (try simp only [PU])
                 )
              | (go_at_call 43; go_must (refine (H43.out _).mono ?_; rintro e wd ⟨rfl, hk2⟩)
                 have hbb1 := hk2.blk Hb1.out id
                 have hbb5 := hk2.blk Hb5.out id
                 have hkk := HK.out.trans hk2 (fun _ _ h => h)
                 have HO := Lib.hid (HO.out.keep hk2 (fun _ _ => id))
                 have Hb5 := Lib.hid hbb5
                 clear v0 v1 v2 v3 v4 v5 s0 s1 s2 s3 s4 s5
                 have HK := Lib.hid (show Keeps Nob W _ from hkk)
                 have Hb1 := Lib.hid hbb1
                 (try have kc0 := (HW.out.trans HK.out (fun _ _ h => h)).cell Hkcell.out id)
                 have v0 := (blk_cell Hb1.out 0).trans rfl
                 have v1 := (blk_cell Hb1.out 1).trans rfl
                 have v2 := (blk_cell Hb1.out 2).trans rfl
                 have v3 := (blk_cell Hb1.out 3).trans rfl
                 have v4 := (blk_cell Hb1.out 4).trans rfl
                 have v5 := (blk_cell Hb1.out 5).trans rfl
                 have s0 := (blk_cell Hb5.out 0).trans rfl
                 have s1 := (blk_cell Hb5.out 1).trans rfl
                 have s2 := (blk_cell Hb5.out 2).trans rfl
                 have s3 := (blk_cell Hb5.out 3).trans rfl
                 have s4 := (blk_cell Hb5.out 4).trans rfl
                 have s5 := (blk_cell Hb5.out 5).trans rfl
                 clear hk2 hbb1 hbb5 hkk
                 (try simp only [PU])
                 )
              | ((with_reducible refine at_dst (N := 62) rfl ?_); go_must (refine ev_app_str rfl rfl byteT38 Tryd.underlying9 (base := W.heap.size) rfl HO.out (st := qk ++ ⟨#[58]⟩) rfl (by rw [Hqc.out]; have := Hol.out; have := Hqb.out; simp only [List.length_append, List.length_cons, List.length_nil]; omega) HK.out.size ?_; rw [Hqc.out]; intro v' wc ho2 ha2; obtain ⟨out2, hq2⟩ : ∃ x, out ++ (quoteB (bl key) ++ [58]) = x := ⟨_, rfl⟩; rw [hq2] at ho2; obtain ⟨nA, nc, hv'⟩ := ho2.slice; subst hv')
                 have Hq2 := Lib.hid hq2
                 have Hol2 := Lib.hid (show out2.length ≤ 2000000000000 by rw [← hq2, List.length_append]; have := Hol.out; have := Hqb.out; simp only [List.length_append, List.length_cons, List.length_nil]; omega)
                 clear hq2
                 have hbb1 := ha2.keep.blk Hb1.out (own_ne HO.out (by first | exact Hb1.out) (by decide))
                 have hbb5 := ha2.keep.blk Hb5.out (own_ne HO.out Hb5.out (by decide))
                 have hkk := HK.out.trans ha2.keep (fun i hi e => by have := (OwnB.lt HO.out i e.symm).1; omega)
                 have HO := Lib.hid ho2
                 have Hb5 := Lib.hid hbb5
                 clear v0 v1 v2 v3 v4 v5 s0 s1 s2 s3 s4 s5
                 have HK := Lib.hid (show Keeps Nob W _ from hkk)
                 have Hb1 := Lib.hid hbb1
                 (try have kc0 := (HW.out.trans HK.out (fun _ _ h => h)).cell Hkcell.out id)
                 have v0 := (blk_cell Hb1.out 0).trans rfl
                 have v1 := (blk_cell Hb1.out 1).trans rfl
                 have v2 := (blk_cell Hb1.out 2).trans rfl
                 have v3 := (blk_cell Hb1.out 3).trans rfl
                 have v4 := (blk_cell Hb1.out 4).trans rfl
                 have v5 := (blk_cell Hb1.out 5).trans rfl
                 have s0 := (blk_cell Hb5.out 0).trans rfl
                 have s1 := (blk_cell Hb5.out 1).trans rfl
                 have s2 := (blk_cell Hb5.out 2).trans rfl
                 have s3 := (blk_cell Hb5.out 3).trans rfl
                 have s4 := (blk_cell Hb5.out 4).trans rfl
                 have s5 := (blk_cell Hb5.out 5).trans rfl
                 clear ho2 ha2 hbb1 hbb5 hkk
                 (try simp only [PU])
                 )
              | (go_at_call 17; go_must (refine (Hrun.out _ HK.out).mono ?_; rintro e wd ⟨rfl, hk2⟩)
                 have hbb1 := hk2.blk Hb1.out id
                 have hbb5 := hk2.blk Hb5.out id
                 have hkk := HK.out.trans hk2 (fun _ _ h => h)
                 have HO := Lib.hid (HO.out.keep hk2 (fun _ _ => id))
                 have Hb5 := Lib.hid hbb5
                 clear v0 v1 v2 v3 v4 v5 s0 s1 s2 s3 s4 s5
                 have HK := Lib.hid (show Keeps Nob W _ from hkk)
                 have Hb1 := Lib.hid hbb1
                 (try have kc0 := (HW.out.trans HK.out (fun _ _ h => h)).cell Hkcell.out id)
                 have v0 := (blk_cell Hb1.out 0).trans rfl
                 have v1 := (blk_cell Hb1.out 1).trans rfl
                 have v2 := (blk_cell Hb1.out 2).trans rfl
                 have v3 := (blk_cell Hb1.out 3).trans rfl
                 have v4 := (blk_cell Hb1.out 4).trans rfl
                 have v5 := (blk_cell Hb1.out 5).trans rfl
                 have s0 := (blk_cell Hb5.out 0).trans rfl
                 have s1 := (blk_cell Hb5.out 1).trans rfl
                 have s2 := (blk_cell Hb5.out 2).trans rfl
                 have s3 := (blk_cell Hb5.out 3).trans rfl
                 have s4 := (blk_cell Hb5.out 4).trans rfl
                 have s5 := (blk_cell Hb5.out 5).trans rfl
                 clear hk2 hbb1 hbb5 hkk
                 (try simp only [PU])
                 )
              | ((with_reducible refine at_dst (N := 66) rfl ?_); go_must (refine ev_app_str rfl rfl byteT38 Tryd.underlying9 (base := W.heap.size) rfl HO.out (st := mkB tx) rfl (by rw [show bl (mkB tx) = tx from rfl]; have := Hol2.out; have := Htb.out; omega) HK.out.size ?_; rw [show bl (mkB tx) = tx from rfl]; intro v' wc ho2 ha2; obtain ⟨out3, hq3⟩ : ∃ x, out2 ++ tx = x := ⟨_, rfl⟩; rw [hq3] at ho2; obtain ⟨nA, nc, hv'⟩ := ho2.slice; subst hv')
                 have Hq3 := Lib.hid hq3
                 clear hq3
                 have hbb1 := ha2.keep.blk Hb1.out (own_ne HO.out (by first | exact Hb1.out) (by decide))
                 have hbb5 := ha2.keep.blk Hb5.out (own_ne HO.out Hb5.out (by decide))
                 have hkk := HK.out.trans ha2.keep (fun i hi e => by have := (OwnB.lt HO.out i e.symm).1; omega)
                 have HO := Lib.hid ho2
                 have Hb5 := Lib.hid hbb5
                 clear v0 v1 v2 v3 v4 v5 s0 s1 s2 s3 s4 s5
                 have HK := Lib.hid (show Keeps Nob W _ from hkk)
                 have Hb1 := Lib.hid hbb1
                 (try have kc0 := (HW.out.trans HK.out (fun _ _ h => h)).cell Hkcell.out id)
                 have v0 := (blk_cell Hb1.out 0).trans rfl
                 have v1 := (blk_cell Hb1.out 1).trans rfl
                 have v2 := (blk_cell Hb1.out 2).trans rfl
                 have v3 := (blk_cell Hb1.out 3).trans rfl
                 have v4 := (blk_cell Hb1.out 4).trans rfl
                 have v5 := (blk_cell Hb1.out 5).trans rfl
                 have s0 := (blk_cell Hb5.out 0).trans rfl
                 have s1 := (blk_cell Hb5.out 1).trans rfl
                 have s2 := (blk_cell Hb5.out 2).trans rfl
                 have s3 := (blk_cell Hb5.out 3).trans rfl
                 have s4 := (blk_cell Hb5.out 4).trans rfl
                 have s5 := (blk_cell Hb5.out 5).trans rfl
                 clear ho2 ha2 hbb1 hbb5 hkk
                 (try simp only [PU])
                 )
            )
            go_roundg (nv - i - 1)
            case measure => omega
            case rel => exact ⟨i + 1, nA, nc, out3, by first | rfl | (congr 1), rfl, by omega, Hb1, HO, HK, Lib.hid (by rw [HN.out, Hparts.out, ← Hq3.out, ← Hq2.out] <;> simp only [List.append_assoc])⟩
          · have HN := Lib.hid (show [123] ++ joinC ((pairT ks vs).take (i + 1)) = out ++ [44] ++ PSi by rw [Hjt.out, if_neg hi0, HE.out]; simp)
            have hi0i : (0 : Int) < (i : Int) := by omega
            go_wp2_with (first
              | ((with_reducible refine at_dst (N := 7) rfl ?_); go_must (refine ev_alloc rfl rfl zero25 rfl ?_; intro g5 w2 hg5 hl5 hb5 hk2)
                 have Hb5 := Lib.hid hb5
                 have Hg5 := Lib.hid (show W.heap.size ≤ g5 ∧ g1 < g5 from ⟨Nat.le_trans HK.out.size hg5, Nat.lt_of_lt_of_le (blk_lt Hb1.out) hg5⟩)
                 have HO := Lib.hid (HO.out.keep hk2 (fun _ _ => id))
                 have Hb1 := Lib.hid (hk2.blk Hb1.out id)
                 have HK := Lib.hid (HK.out.trans hk2 (fun _ _ h => h))
                 clear hb5 hk2 hg5 hl5
                 (try simp only [PU]))
              | ((with_reducible refine at_store (t := 25) (p := 7) rfl ?_); go_must (refine ev_store (cs' := #[.int .i64 y0, .bool y1, .int .i64 y2, .string y3, .slice yA yn yc, .slice yB ym yd]) rfl rfl rfl rfl rfl rfl HI.out.1 HI.out.2 rfl Hb5.out (Nat.le_of_ble_eq_true rfl) rfl ?_; intro w3 hb3 hk3)
                 have hbb1 := hk3.blk Hb1.out (fun e : g1 = g5 => by have := Hg5.out; omega)
                 have HO := Lib.hid (HO.out.keep hk3 (fun k hk e => own_ne HO.out Hb5.out (by decide) (by rw [hk, e])))
                 have hkk := HK.out.trans hk3 (fun i hi e => by have := Hg5.out; omega)
                 have Hb5 := Lib.hid hb3
                 (try clear v0 v1 v2 v3 v4 v5)
                 have HK := Lib.hid (show Keeps Nob W _ from hkk)
                 have Hb1 := Lib.hid hbb1
                 (try have kc0 := (HW.out.trans HK.out (fun _ _ h => h)).cell Hkcell.out id)
                 have v0 := (blk_cell Hb1.out 0).trans rfl
                 have v1 := (blk_cell Hb1.out 1).trans rfl
                 have v2 := (blk_cell Hb1.out 2).trans rfl
                 have v3 := (blk_cell Hb1.out 3).trans rfl
                 have v4 := (blk_cell Hb1.out 4).trans rfl
                 have v5 := (blk_cell Hb1.out 5).trans rfl
                 have s0 := (blk_cell Hb5.out 0).trans rfl
                 have s1 := (blk_cell Hb5.out 1).trans rfl
                 have s2 := (blk_cell Hb5.out 2).trans rfl
                 have s3 := (blk_cell Hb5.out 3).trans rfl
                 have s4 := (blk_cell Hb5.out 4).trans rfl
                 have s5 := (blk_cell Hb5.out 5).trans rfl
                 clear hb3 hk3 hbb1 hkk
                 (try simp only [PU]))
              | ((with_reducible refine at_dst (N := 42) rfl ?_); go_must (refine ev_slice (cs := #[.int .u8 44]) (t := 5) (n := 1) (c := 1) rfl (by first | (go_simp; done) | (go_simp; rfl)) ?_; intro gb wb hgb hlb hbb hk2)
                 have Hbb := Lib.hid hbb
                 clear hbb hgb hlb
                 have hbb1 := hk2.blk Hb1.out id
                 have hbb5 := hk2.blk Hb5.out id
                 have hkk := HK.out.trans hk2 (fun _ _ h => h)
                 have HO := Lib.hid (HO.out.keep hk2 (fun _ _ => id))
                 have Hb5 := Lib.hid hbb5
                 clear v0 v1 v2 v3 v4 v5 s0 s1 s2 s3 s4 s5
                 have HK := Lib.hid (show Keeps Nob W _ from hkk)
                 have Hb1 := Lib.hid hbb1
                 (try have kc0 := (HW.out.trans HK.out (fun _ _ h => h)).cell Hkcell.out id)
                 have v0 := (blk_cell Hb1.out 0).trans rfl
                 have v1 := (blk_cell Hb1.out 1).trans rfl
                 have v2 := (blk_cell Hb1.out 2).trans rfl
                 have v3 := (blk_cell Hb1.out 3).trans rfl
                 have v4 := (blk_cell Hb1.out 4).trans rfl
                 have v5 := (blk_cell Hb1.out 5).trans rfl
                 have s0 := (blk_cell Hb5.out 0).trans rfl
                 have s1 := (blk_cell Hb5.out 1).trans rfl
                 have s2 := (blk_cell Hb5.out 2).trans rfl
                 have s3 := (blk_cell Hb5.out 3).trans rfl
                 have s4 := (blk_cell Hb5.out 4).trans rfl
                 have s5 := (blk_cell Hb5.out 5).trans rfl
                 clear hk2 hbb1 hbb5 hkk
                 (try simp only [PU])
                 )
              | ((with_reducible refine at_dst (N := 43) rfl ?_); go_must (refine ev_app_sl rfl rfl byteT38 (base := W.heap.size) rfl HO.out rfl (news := [44]) rfl (fun _ => ⟨_, rfl, news_made Hbb.out rfl⟩) (by have := Hol.out; omega) HK.out.size ?_; intro v' wc ho2 ha2; obtain ⟨out1, hq1⟩ : ∃ x, out ++ [44] = x := ⟨_, rfl⟩; rw [hq1] at ho2; obtain ⟨nA, nc, hv'⟩ := ho2.slice; subst hv')
                 have Hq1 := Lib.hid hq1
                 have Hol1 := Lib.hid (show out1.length ≤ 600000000000 by rw [← hq1, List.length_append]; have := Hol.out; simp only [List.length_cons, List.length_nil]; omega)
                 clear hq1
                 have hbb1 := ha2.keep.blk Hb1.out (own_ne HO.out (by first | exact Hb1.out) (by decide))
                 have hbb5 := ha2.keep.blk Hb5.out (own_ne HO.out Hb5.out (by decide))
                 have hkk := HK.out.trans ha2.keep (fun i hi e => by have := (OwnB.lt HO.out i e.symm).1; omega)
                 have HO := Lib.hid ho2
                 have Hb5 := Lib.hid hbb5
                 clear v0 v1 v2 v3 v4 v5 s0 s1 s2 s3 s4 s5
                 have HK := Lib.hid (show Keeps Nob W _ from hkk)
                 have Hb1 := Lib.hid hbb1
                 (try have kc0 := (HW.out.trans HK.out (fun _ _ h => h)).cell Hkcell.out id)
                 have v0 := (blk_cell Hb1.out 0).trans rfl
                 have v1 := (blk_cell Hb1.out 1).trans rfl
                 have v2 := (blk_cell Hb1.out 2).trans rfl
                 have v3 := (blk_cell Hb1.out 3).trans rfl
                 have v4 := (blk_cell Hb1.out 4).trans rfl
                 have v5 := (blk_cell Hb1.out 5).trans rfl
                 have s0 := (blk_cell Hb5.out 0).trans rfl
                 have s1 := (blk_cell Hb5.out 1).trans rfl
                 have s2 := (blk_cell Hb5.out 2).trans rfl
                 have s3 := (blk_cell Hb5.out 3).trans rfl
                 have s4 := (blk_cell Hb5.out 4).trans rfl
                 have s5 := (blk_cell Hb5.out 5).trans rfl
                 clear ho2 ha2 hbb1 hbb5 hkk
                 (try simp only [PU])
                 )
              | (go_at_call 43; go_must (refine (H43.out _).mono ?_; rintro e wd ⟨rfl, hk2⟩)
                 have hbb1 := hk2.blk Hb1.out id
                 have hbb5 := hk2.blk Hb5.out id
                 have hkk := HK.out.trans hk2 (fun _ _ h => h)
                 have HO := Lib.hid (HO.out.keep hk2 (fun _ _ => id))
                 have Hb5 := Lib.hid hbb5
                 clear v0 v1 v2 v3 v4 v5 s0 s1 s2 s3 s4 s5
                 have HK := Lib.hid (show Keeps Nob W _ from hkk)
                 have Hb1 := Lib.hid hbb1
                 (try have kc0 := (HW.out.trans HK.out (fun _ _ h => h)).cell Hkcell.out id)
                 have v0 := (blk_cell Hb1.out 0).trans rfl
                 have v1 := (blk_cell Hb1.out 1).trans rfl
                 have v2 := (blk_cell Hb1.out 2).trans rfl
                 have v3 := (blk_cell Hb1.out 3).trans rfl
                 have v4 := (blk_cell Hb1.out 4).trans rfl
                 have v5 := (blk_cell Hb1.out 5).trans rfl
                 have s0 := (blk_cell Hb5.out 0).trans rfl
                 have s1 := (blk_cell Hb5.out 1).trans rfl
                 have s2 := (blk_cell Hb5.out 2).trans rfl
                 have s3 := (blk_cell Hb5.out 3).trans rfl
                 have s4 := (blk_cell Hb5.out 4).trans rfl
                 have s5 := (blk_cell Hb5.out 5).trans rfl
                 clear hk2 hbb1 hbb5 hkk
                 (try simp only [PU])
                 )
              | ((with_reducible refine at_dst (N := 62) rfl ?_); go_must (refine ev_app_str rfl rfl byteT38 Tryd.underlying9 (base := W.heap.size) rfl HO.out (st := qk ++ ⟨#[58]⟩) rfl (by rw [Hqc.out]; have := Hol1.out; have := Hqb.out; simp only [List.length_append, List.length_cons, List.length_nil]; omega) HK.out.size ?_; rw [Hqc.out]; intro v' wc ho2 ha2; obtain ⟨out2, hq2⟩ : ∃ x, out1 ++ (quoteB (bl key) ++ [58]) = x := ⟨_, rfl⟩; rw [hq2] at ho2; obtain ⟨nA, nc, hv'⟩ := ho2.slice; subst hv')
                 have Hq2 := Lib.hid hq2
                 have Hol2 := Lib.hid (show out2.length ≤ 2000000000000 by rw [← hq2, List.length_append]; have := Hol1.out; have := Hqb.out; simp only [List.length_append, List.length_cons, List.length_nil]; omega)
                 clear hq2
                 have hbb1 := ha2.keep.blk Hb1.out (own_ne HO.out (by first | exact Hb1.out) (by decide))
                 have hbb5 := ha2.keep.blk Hb5.out (own_ne HO.out Hb5.out (by decide))
                 have hkk := HK.out.trans ha2.keep (fun i hi e => by have := (OwnB.lt HO.out i e.symm).1; omega)
                 have HO := Lib.hid ho2
                 have Hb5 := Lib.hid hbb5
                 clear v0 v1 v2 v3 v4 v5 s0 s1 s2 s3 s4 s5
                 have HK := Lib.hid (show Keeps Nob W _ from hkk)
                 have Hb1 := Lib.hid hbb1
                 (try have kc0 := (HW.out.trans HK.out (fun _ _ h => h)).cell Hkcell.out id)
                 have v0 := (blk_cell Hb1.out 0).trans rfl
                 have v1 := (blk_cell Hb1.out 1).trans rfl
                 have v2 := (blk_cell Hb1.out 2).trans rfl
                 have v3 := (blk_cell Hb1.out 3).trans rfl
                 have v4 := (blk_cell Hb1.out 4).trans rfl
                 have v5 := (blk_cell Hb1.out 5).trans rfl
                 have s0 := (blk_cell Hb5.out 0).trans rfl
                 have s1 := (blk_cell Hb5.out 1).trans rfl
                 have s2 := (blk_cell Hb5.out 2).trans rfl
                 have s3 := (blk_cell Hb5.out 3).trans rfl
                 have s4 := (blk_cell Hb5.out 4).trans rfl
                 have s5 := (blk_cell Hb5.out 5).trans rfl
                 clear ho2 ha2 hbb1 hbb5 hkk
                 (try simp only [PU])
                 )
              | (go_at_call 17; go_must (refine (Hrun.out _ HK.out).mono ?_; rintro e wd ⟨rfl, hk2⟩)
                 have hbb1 := hk2.blk Hb1.out id
                 have hbb5 := hk2.blk Hb5.out id
                 have hkk := HK.out.trans hk2 (fun _ _ h => h)
                 have HO := Lib.hid (HO.out.keep hk2 (fun _ _ => id))
                 have Hb5 := Lib.hid hbb5
                 clear v0 v1 v2 v3 v4 v5 s0 s1 s2 s3 s4 s5
                 have HK := Lib.hid (show Keeps Nob W _ from hkk)
                 have Hb1 := Lib.hid hbb1
                 (try have kc0 := (HW.out.trans HK.out (fun _ _ h => h)).cell Hkcell.out id)
                 have v0 := (blk_cell Hb1.out 0).trans rfl
                 have v1 := (blk_cell Hb1.out 1).trans rfl
                 have v2 := (blk_cell Hb1.out 2).trans rfl
                 have v3 := (blk_cell Hb1.out 3).trans rfl
                 have v4 := (blk_cell Hb1.out 4).trans rfl
                 have v5 := (blk_cell Hb1.out 5).trans rfl
                 have s0 := (blk_cell Hb5.out 0).trans rfl
                 have s1 := (blk_cell Hb5.out 1).trans rfl
                 have s2 := (blk_cell Hb5.out 2).trans rfl
                 have s3 := (blk_cell Hb5.out 3).trans rfl
                 have s4 := (blk_cell Hb5.out 4).trans rfl
                 have s5 := (blk_cell Hb5.out 5).trans rfl
                 clear hk2 hbb1 hbb5 hkk
                 (try simp only [PU])
                 )
              | ((with_reducible refine at_dst (N := 66) rfl ?_); go_must (refine ev_app_str rfl rfl byteT38 Tryd.underlying9 (base := W.heap.size) rfl HO.out (st := mkB tx) rfl (by rw [show bl (mkB tx) = tx from rfl]; have := Hol2.out; have := Htb.out; omega) HK.out.size ?_; rw [show bl (mkB tx) = tx from rfl]; intro v' wc ho2 ha2; obtain ⟨out3, hq3⟩ : ∃ x, out2 ++ tx = x := ⟨_, rfl⟩; rw [hq3] at ho2; obtain ⟨nA, nc, hv'⟩ := ho2.slice; subst hv')
                 have Hq3 := Lib.hid hq3
                 clear hq3
                 have hbb1 := ha2.keep.blk Hb1.out (own_ne HO.out (by first | exact Hb1.out) (by decide))
                 have hbb5 := ha2.keep.blk Hb5.out (own_ne HO.out Hb5.out (by decide))
                 have hkk := HK.out.trans ha2.keep (fun i hi e => by have := (OwnB.lt HO.out i e.symm).1; omega)
                 have HO := Lib.hid ho2
                 have Hb5 := Lib.hid hbb5
                 clear v0 v1 v2 v3 v4 v5 s0 s1 s2 s3 s4 s5
                 have HK := Lib.hid (show Keeps Nob W _ from hkk)
                 have Hb1 := Lib.hid hbb1
                 (try have kc0 := (HW.out.trans HK.out (fun _ _ h => h)).cell Hkcell.out id)
                 have v0 := (blk_cell Hb1.out 0).trans rfl
                 have v1 := (blk_cell Hb1.out 1).trans rfl
                 have v2 := (blk_cell Hb1.out 2).trans rfl
                 have v3 := (blk_cell Hb1.out 3).trans rfl
                 have v4 := (blk_cell Hb1.out 4).trans rfl
                 have v5 := (blk_cell Hb1.out 5).trans rfl
                 have s0 := (blk_cell Hb5.out 0).trans rfl
                 have s1 := (blk_cell Hb5.out 1).trans rfl
                 have s2 := (blk_cell Hb5.out 2).trans rfl
                 have s3 := (blk_cell Hb5.out 3).trans rfl
                 have s4 := (blk_cell Hb5.out 4).trans rfl
                 have s5 := (blk_cell Hb5.out 5).trans rfl
                 clear ho2 ha2 hbb1 hbb5 hkk
                 (try simp only [PU])
                 )
            )
            go_roundg (nv - i - 1)
            case measure => omega
            case rel => exact ⟨i + 1, nA, nc, out3, by first | rfl | (congr 1), rfl, by omega, Hb1, HO, HK, Lib.hid (by rw [HN.out, Hparts.out, ← Hq3.out, ← Hq2.out, ← Hq1.out] <;> simp only [List.append_assoc])⟩
        · have hi' : i = nv := by omega
          subst hi'
          have HR := Lib.hid (show S = out ++ [125] by
            rw [HS.out, HE.out, List.take_of_length_le (by rw [Hpl.out]; exact Nat.le_refl _)])
          go_wp2_with (first
            | ((with_reducible refine at_dst (N := 70) rfl ?_); go_must (refine ev_app_str rfl rfl byteT38 Tryd.underlying9 (base := W.heap.size) rfl HO.out (st := ⟨#[125]⟩) rfl (by have := Hol.out; show out.length + 1 ≤ _; omega) HK.out.size ?_; intro v' wc ho2 ha2; obtain ⟨nA, nc, hv'⟩ := ho2.slice; subst hv')
               have HO2 := Lib.hid (show OwnB wc W.heap.size (.slice nA (out ++ [125]).length nc) (out ++ [125]) from ho2)
               have HKz := Lib.hid (HK.out.trans ha2.keep (fun i hi e => by have := (HO.out.lt i e.symm).1; omega))
               clear ho2 ha2
               (try simp only [PU]))
            | ((with_reducible refine at_dst (N := 71) rfl ?_); go_must (refine ev_conv_bs rfl rfl Tryd.underlying38 Tryd.underlying5 Tryd.underlying9 (bs := out ++ [125]) rfl HO2.out.bytes ?_); (try simp only [PU]))
          )
          go_ret
          rw [HR.out]
          exact ⟨rfl, HKz.out⟩
end Go.Proofs.WV

/-
  Check, by the specification, in memory. Condition: the value lies, and is not larger than an int counts; the standard library's table of powers lies.
-/
namespace Go.Proofs.WV
open Go.RowKit Go.Proofs.KL Go.Proofs.WM
set_option maxRecDepth 100000
set_option linter.unusedSimpArgs false
set_option linter.unusedVariables false

set_option maxHeartbeats 4000000 in
theorem check14 {W : World} {X : Nat → Prop} {v : Value} {j : J} (h : JX W X v j) (ht : Tab W W.heap.size) (hb : sizeJ j ≤ 10000000000) : Calls Tryd.prog 14 #[v] W fun e w' => e = .returned (.int .i64 (checkJ j)) ∧ Keeps Nob W w' := by
  obtain ⟨jk, jb, jn, jt, ks, vs, kv, vv, hjj, rfl, hjk, hjv⟩ := h.open
  obtain ⟨kA, kc, rfl, -, -⟩ := id hjk
  obtain ⟨vA, vc, ru, rfl, -, -, -⟩ := id hjv
  generalize ks.length = kl at *
  generalize vs.length = vl at *
  have H35 := Lib.hid (fun W' (hk : Keeps Nob W W') => formed35 h W' hk (by omega))
  have H36 := Lib.hid (fun W' (hk : Keeps Nob W W') => levels36 h W' hk (by omega))
  obtain ⟨C, hC⟩ : ∃ c, checkJ j = c := ⟨_, rfl⟩
  rw [hC]
  unfold checkJ at hC
  rcases hfm : formedJ j with _ | _
  · have HC := Lib.hid (show C = 4 by rw [← hC, if_pos hfm])
    have Hfm := Lib.hid hfm
    have Hlv := Lib.hid True.intro
    have H17 := Lib.hid True.intro
    clear h ht hb hjk hjv hC hfm hjj
    go_enter Tryd.func14, Tryd.ntmps14
    go_wp2_with (first
      | ((with_reducible refine at_dst (N := 1) rfl ?_); go_must (refine ev_box (cs := #[.int .i64 jk, .bool jb, .int .i64 jn, .string jt, .slice kA kl kc, .slice vA vl vc]) rfl rfl rfl ?_; intro g1 w1 hg1 hl1 hb1 hk1)
         have Hb1 := Lib.hid hb1
         have HK := Lib.hid hk1
         have s0 := (blk_cell Hb1.out 0).trans rfl
         have s1 := (blk_cell Hb1.out 1).trans rfl
         have s2 := (blk_cell Hb1.out 2).trans rfl
         have s3 := (blk_cell Hb1.out 3).trans rfl
         have s4 := (blk_cell Hb1.out 4).trans rfl
         have s5 := (blk_cell Hb1.out 5).trans rfl
         clear hb1 hk1 hg1 hl1
         (try simp only [PU]))
      | (go_at_call 35; go_must (refine (H35.out _ HK.out).mono ?_; rintro e w2 ⟨rfl, hk2⟩; rw [Hfm.out])
         have Hb1 := Lib.hid (hk2.blk Hb1.out id)
         have HK := Lib.hid (HK.out.trans hk2 (fun _ _ h => h))
         clear hk2 s0 s1 s2 s3 s4 s5
         have s0 := (blk_cell Hb1.out 0).trans rfl
         have s1 := (blk_cell Hb1.out 1).trans rfl
         have s2 := (blk_cell Hb1.out 2).trans rfl
         have s3 := (blk_cell Hb1.out 3).trans rfl
         have s4 := (blk_cell Hb1.out 4).trans rfl
         have s5 := (blk_cell Hb1.out 5).trans rfl
         (try simp only [PU])
         )
      | (go_at_call 36; go_must (refine (H36.out _ HK.out).mono ?_; rintro e w2 ⟨rfl, hk2⟩; rw [Hlv.out])
         have Hb1 := Lib.hid (hk2.blk Hb1.out id)
         have HK := Lib.hid (HK.out.trans hk2 (fun _ _ h => h))
         clear hk2 s0 s1 s2 s3 s4 s5
         have s0 := (blk_cell Hb1.out 0).trans rfl
         have s1 := (blk_cell Hb1.out 1).trans rfl
         have s2 := (blk_cell Hb1.out 2).trans rfl
         have s3 := (blk_cell Hb1.out 3).trans rfl
         have s4 := (blk_cell Hb1.out 4).trans rfl
         have s5 := (blk_cell Hb1.out 5).trans rfl
         (try simp only [PU])
         )
      | (go_at_call 17; go_must (refine (H17.out _ HK.out).mono ?_; rintro e w2 ⟨rfl, hk2⟩)
         have Hb1 := Lib.hid (hk2.blk Hb1.out id)
         have HK := Lib.hid (HK.out.trans hk2 (fun _ _ h => h))
         clear hk2 s0 s1 s2 s3 s4 s5
         have s0 := (blk_cell Hb1.out 0).trans rfl
         have s1 := (blk_cell Hb1.out 1).trans rfl
         have s2 := (blk_cell Hb1.out 2).trans rfl
         have s3 := (blk_cell Hb1.out 3).trans rfl
         have s4 := (blk_cell Hb1.out 4).trans rfl
         have s5 := (blk_cell Hb1.out 5).trans rfl
         (try simp only [PU])
         )
    )
    go_ret
    rw [HC.out]
    exact ⟨rfl, HK.out⟩
  · have Hfm := Lib.hid hfm
    have H17 := Lib.hid (fun W' (hk : Keeps Nob W W') => text17 h W' hk (tab_after ht hk) hfm hb)
    have hlvb := levels_size j
    have htx := text_size j hfm
    obtain ⟨lv, hlv⟩ : ∃ x, levelsJ j = x := ⟨_, rfl⟩
    have Hlv := Lib.hid hlv
    obtain ⟨S, hS⟩ : ∃ x, mkB (textJ j) = x := ⟨_, rfl⟩
    have hSs : (textJ j).length = S.size := by rw [← hS]; rfl
    rw [hS] at H17
    rw [hlv] at hC
    rw [hSs] at hC htx
    have hSi : (S.size : Int) ≤ 1000000000000 := by omega
    rw [if_neg (by rw [hfm]; decide)] at hC
    clear h ht hjk hjv hfm hjj hS hSs htx hlv hlvb
    by_cases h1 : 40 < lv
    · have HC := Lib.hid (show C = 3 by rw [← hC, if_pos (.inl h1)])
      have hi : (40 : Int) < (lv : Int) := by omega
      clear hC hb
      go_enter Tryd.func14, Tryd.ntmps14
      go_wp2_with (first
        | ((with_reducible refine at_dst (N := 1) rfl ?_); go_must (refine ev_box (cs := #[.int .i64 jk, .bool jb, .int .i64 jn, .string jt, .slice kA kl kc, .slice vA vl vc]) rfl rfl rfl ?_; intro g1 w1 hg1 hl1 hb1 hk1)
           have Hb1 := Lib.hid hb1
           have HK := Lib.hid hk1
           have s0 := (blk_cell Hb1.out 0).trans rfl
           have s1 := (blk_cell Hb1.out 1).trans rfl
           have s2 := (blk_cell Hb1.out 2).trans rfl
           have s3 := (blk_cell Hb1.out 3).trans rfl
           have s4 := (blk_cell Hb1.out 4).trans rfl
           have s5 := (blk_cell Hb1.out 5).trans rfl
           clear hb1 hk1 hg1 hl1
           (try simp only [PU]))
        | (go_at_call 35; go_must (refine (H35.out _ HK.out).mono ?_; rintro e w2 ⟨rfl, hk2⟩; rw [Hfm.out])
           have Hb1 := Lib.hid (hk2.blk Hb1.out id)
           have HK := Lib.hid (HK.out.trans hk2 (fun _ _ h => h))
           clear hk2 s0 s1 s2 s3 s4 s5
           have s0 := (blk_cell Hb1.out 0).trans rfl
           have s1 := (blk_cell Hb1.out 1).trans rfl
           have s2 := (blk_cell Hb1.out 2).trans rfl
           have s3 := (blk_cell Hb1.out 3).trans rfl
           have s4 := (blk_cell Hb1.out 4).trans rfl
           have s5 := (blk_cell Hb1.out 5).trans rfl
           (try simp only [PU])
           )
        | (go_at_call 36; go_must (refine (H36.out _ HK.out).mono ?_; rintro e w2 ⟨rfl, hk2⟩; rw [Hlv.out])
           have Hb1 := Lib.hid (hk2.blk Hb1.out id)
           have HK := Lib.hid (HK.out.trans hk2 (fun _ _ h => h))
           clear hk2 s0 s1 s2 s3 s4 s5
           have s0 := (blk_cell Hb1.out 0).trans rfl
           have s1 := (blk_cell Hb1.out 1).trans rfl
           have s2 := (blk_cell Hb1.out 2).trans rfl
           have s3 := (blk_cell Hb1.out 3).trans rfl
           have s4 := (blk_cell Hb1.out 4).trans rfl
           have s5 := (blk_cell Hb1.out 5).trans rfl
           (try simp only [PU])
           )
        | (go_at_call 17; go_must (refine (H17.out _ HK.out).mono ?_; rintro e w2 ⟨rfl, hk2⟩)
           have Hb1 := Lib.hid (hk2.blk Hb1.out id)
           have HK := Lib.hid (HK.out.trans hk2 (fun _ _ h => h))
           clear hk2 s0 s1 s2 s3 s4 s5
           have s0 := (blk_cell Hb1.out 0).trans rfl
           have s1 := (blk_cell Hb1.out 1).trans rfl
           have s2 := (blk_cell Hb1.out 2).trans rfl
           have s3 := (blk_cell Hb1.out 3).trans rfl
           have s4 := (blk_cell Hb1.out 4).trans rfl
           have s5 := (blk_cell Hb1.out 5).trans rfl
           (try simp only [PU])
           )
      )
      go_ret
      rw [HC.out]
      exact ⟨rfl, HK.out⟩
    · have hi : ¬ (40 : Int) < (lv : Int) := by omega
      by_cases h2 : 1000000 < S.size
      · have HC := Lib.hid (show C = 3 by rw [← hC, if_pos (.inr h2)])
        have hi2 : (1000000 : Int) < (S.size : Int) := by omega
        clear hC hb h1
        go_enter Tryd.func14, Tryd.ntmps14
        go_wp2_with (first
          | ((with_reducible refine at_dst (N := 1) rfl ?_); go_must (refine ev_box (cs := #[.int .i64 jk, .bool jb, .int .i64 jn, .string jt, .slice kA kl kc, .slice vA vl vc]) rfl rfl rfl ?_; intro g1 w1 hg1 hl1 hb1 hk1)
             have Hb1 := Lib.hid hb1
             have HK := Lib.hid hk1
             have s0 := (blk_cell Hb1.out 0).trans rfl
             have s1 := (blk_cell Hb1.out 1).trans rfl
             have s2 := (blk_cell Hb1.out 2).trans rfl
             have s3 := (blk_cell Hb1.out 3).trans rfl
             have s4 := (blk_cell Hb1.out 4).trans rfl
             have s5 := (blk_cell Hb1.out 5).trans rfl
             clear hb1 hk1 hg1 hl1
             (try simp only [PU]))
          | (go_at_call 35; go_must (refine (H35.out _ HK.out).mono ?_; rintro e w2 ⟨rfl, hk2⟩; rw [Hfm.out])
             have Hb1 := Lib.hid (hk2.blk Hb1.out id)
             have HK := Lib.hid (HK.out.trans hk2 (fun _ _ h => h))
             clear hk2 s0 s1 s2 s3 s4 s5
             have s0 := (blk_cell Hb1.out 0).trans rfl
             have s1 := (blk_cell Hb1.out 1).trans rfl
             have s2 := (blk_cell Hb1.out 2).trans rfl
             have s3 := (blk_cell Hb1.out 3).trans rfl
             have s4 := (blk_cell Hb1.out 4).trans rfl
             have s5 := (blk_cell Hb1.out 5).trans rfl
             (try simp only [PU])
             )
          | (go_at_call 36; go_must (refine (H36.out _ HK.out).mono ?_; rintro e w2 ⟨rfl, hk2⟩; rw [Hlv.out])
             have Hb1 := Lib.hid (hk2.blk Hb1.out id)
             have HK := Lib.hid (HK.out.trans hk2 (fun _ _ h => h))
             clear hk2 s0 s1 s2 s3 s4 s5
             have s0 := (blk_cell Hb1.out 0).trans rfl
             have s1 := (blk_cell Hb1.out 1).trans rfl
             have s2 := (blk_cell Hb1.out 2).trans rfl
             have s3 := (blk_cell Hb1.out 3).trans rfl
             have s4 := (blk_cell Hb1.out 4).trans rfl
             have s5 := (blk_cell Hb1.out 5).trans rfl
             (try simp only [PU])
             )
          | (go_at_call 17; go_must (refine (H17.out _ HK.out).mono ?_; rintro e w2 ⟨rfl, hk2⟩)
             have Hb1 := Lib.hid (hk2.blk Hb1.out id)
             have HK := Lib.hid (HK.out.trans hk2 (fun _ _ h => h))
             clear hk2 s0 s1 s2 s3 s4 s5
             have s0 := (blk_cell Hb1.out 0).trans rfl
             have s1 := (blk_cell Hb1.out 1).trans rfl
             have s2 := (blk_cell Hb1.out 2).trans rfl
             have s3 := (blk_cell Hb1.out 3).trans rfl
             have s4 := (blk_cell Hb1.out 4).trans rfl
             have s5 := (blk_cell Hb1.out 5).trans rfl
             (try simp only [PU])
             )
        )
        go_ret
        rw [HC.out]
        exact ⟨rfl, HK.out⟩
      · have HC := Lib.hid (show C = 0 by rw [← hC, if_neg (by omega)])
        have hi2 : ¬ (1000000 : Int) < (S.size : Int) := by omega
        clear hC hb h1
        go_enter Tryd.func14, Tryd.ntmps14
        go_wp2_with (first
          | ((with_reducible refine at_dst (N := 1) rfl ?_); go_must (refine ev_box (cs := #[.int .i64 jk, .bool jb, .int .i64 jn, .string jt, .slice kA kl kc, .slice vA vl vc]) rfl rfl rfl ?_; intro g1 w1 hg1 hl1 hb1 hk1)
             have Hb1 := Lib.hid hb1
             have HK := Lib.hid hk1
             have s0 := (blk_cell Hb1.out 0).trans rfl
             have s1 := (blk_cell Hb1.out 1).trans rfl
             have s2 := (blk_cell Hb1.out 2).trans rfl
             have s3 := (blk_cell Hb1.out 3).trans rfl
             have s4 := (blk_cell Hb1.out 4).trans rfl
             have s5 := (blk_cell Hb1.out 5).trans rfl
             clear hb1 hk1 hg1 hl1
             (try simp only [PU]))
          | (go_at_call 35; go_must (refine (H35.out _ HK.out).mono ?_; rintro e w2 ⟨rfl, hk2⟩; rw [Hfm.out])
             have Hb1 := Lib.hid (hk2.blk Hb1.out id)
             have HK := Lib.hid (HK.out.trans hk2 (fun _ _ h => h))
             clear hk2 s0 s1 s2 s3 s4 s5
             have s0 := (blk_cell Hb1.out 0).trans rfl
             have s1 := (blk_cell Hb1.out 1).trans rfl
             have s2 := (blk_cell Hb1.out 2).trans rfl
             have s3 := (blk_cell Hb1.out 3).trans rfl
             have s4 := (blk_cell Hb1.out 4).trans rfl
             have s5 := (blk_cell Hb1.out 5).trans rfl
             (try simp only [PU])
             )
          | (go_at_call 36; go_must (refine (H36.out _ HK.out).mono ?_; rintro e w2 ⟨rfl, hk2⟩; rw [Hlv.out])
             have Hb1 := Lib.hid (hk2.blk Hb1.out id)
             have HK := Lib.hid (HK.out.trans hk2 (fun _ _ h => h))
             clear hk2 s0 s1 s2 s3 s4 s5
             have s0 := (blk_cell Hb1.out 0).trans rfl
             have s1 := (blk_cell Hb1.out 1).trans rfl
             have s2 := (blk_cell Hb1.out 2).trans rfl
             have s3 := (blk_cell Hb1.out 3).trans rfl
             have s4 := (blk_cell Hb1.out 4).trans rfl
             have s5 := (blk_cell Hb1.out 5).trans rfl
             (try simp only [PU])
             )
          | (go_at_call 17; go_must (refine (H17.out _ HK.out).mono ?_; rintro e w2 ⟨rfl, hk2⟩)
             have Hb1 := Lib.hid (hk2.blk Hb1.out id)
             have HK := Lib.hid (HK.out.trans hk2 (fun _ _ h => h))
             clear hk2 s0 s1 s2 s3 s4 s5
             have s0 := (blk_cell Hb1.out 0).trans rfl
             have s1 := (blk_cell Hb1.out 1).trans rfl
             have s2 := (blk_cell Hb1.out 2).trans rfl
             have s3 := (blk_cell Hb1.out 3).trans rfl
             have s4 := (blk_cell Hb1.out 4).trans rfl
             have s5 := (blk_cell Hb1.out 5).trans rfl
             (try simp only [PU])
             )
        )
        go_ret
        rw [HC.out]
        exact ⟨rfl, HK.out⟩
end Go.Proofs.WV
