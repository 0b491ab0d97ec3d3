/-
 The specification's reader: a table, in memory. Condition: what is read within does what its model does; the text is not longer than a million bytes.
-/
import Derived.Test.YtcmmnbipaemgiaaDoorRs4
import Derived.Deep.DeepCutAuto
import Derived.Defers
import Derived.Recover
import Derived.Shelf.Spec.SlicesGrow
namespace Go.Proofs.WV
open Go.RowKit Go.Proofs.KL Go.Proofs.WM
set_option maxRecDepth 100000
set_option linter.unusedSimpArgs false
set_option linter.unusedVariables false

def dupS (seen : List ByteArray) (key : ByteArray) : Except Nat Bs → Except Nat Bs
 | .ok r1 => if hasKey seen key then .error (r1.length + 1) else .ok r1
 | .error n => .error n
theorem key_state (seen : List ByteArray) (s : Bs) (key : ByteArray) (hk : ∀ y, strB s = .ok y → key = mkB y.1) : blanksX (takeX [58] (blanksX (dupS seen key (stX (strB s))))) = stX (keyB seen s) := by
 unfold keyB
 cases hs : strB s with
 | error n => rfl
 | ok y =>
   obtain ⟨t, r1⟩ := y
   obtain rfl : key = mkB t := hk _ hs
   simp only [stX, dupS]
   by_cases hh : hasKey seen (mkB t) = true
   · simp only [if_pos hh]; rfl
   · simp only [if_neg hh, blanksX, takeX]
     cases wordB [58] (blanksB r1) <;> rfl
theorem stepP_state {dp d f : Nat} (he : 41 - (d + 1) = dp) (acc : List ByteArray × List J) (s : Bs) : stX (stepP dp f acc s) = stX (inX f (d + 1) (stX (keyB acc.1 s))) := by
 unfold stepP
 cases hk : keyB acc.1 s with
 | error n => rfl
 | ok y =>
   show stX (match innerF f dp y.2 with | .error e => _ | .ok z => _) = stX (innerF f (41 - (d + 1)) y.2)
   rw [he]
   cases innerF f dp y.2 <;> rfl
theorem stepP_acc {dp d f : Nat} (he : 41 - (d + 1) = dp) {acc : List ByteArray × List J} {s : Bs} {key : ByteArray} {j : J} (hk : ∀ y, strB s = .ok y → key = mkB y.1) (hj : ∀ y, inX f (d + 1) (stX (keyB acc.1 s)) = .ok y → y.1 = j) : ∀ y, stepP dp f acc s = .ok y → y.1 = (acc.1 ++ [key], acc.2 ++ [j]) := fun y hy => by
 unfold stepP at hy
 cases hkk : keyB acc.1 s with
 | error n => rw [hkk] at hy; cases hy
 | ok k =>
   rw [hkk] at hy hj
   simp only at hy
   have hj' : ∀ y, innerF f dp k.2 = .ok y → y.1 = j := fun y h => hj y (by show innerF f (41 - (d + 1)) k.2 = _; rw [he]; exact h)
   cases hi : innerF f dp k.2 with
   | error n => rw [hi] at hy; cases hy
   | ok z =>
     rw [hi] at hy
     injection hy with hy
     have h1 : z.1 = j := hj' z hi
     have h2 : k.1 = key := by
      unfold keyB at hkk
      cases hs : strB s with
      | error n => rw [hs] at hkk; cases hkk
      | ok t =>
        rw [hs] at hkk
        simp only at hkk
        split at hkk
        · cases hkk
        · cases hw : wordB [58] (blanksB t.2) with
          | error n => rw [hw] at hkk; cases hkk
          | ok r2 =>
            rw [hw] at hkk
            injection hkk with hkk
            rw [← hkk]
            exact (hk t hs).symm
     rw [← hy, h1, h2]
theorem key_len (seen : List ByteArray) (s : Bs) : lenX (stX (keyB seen s)) ≤ s.length := by
 cases h : keyB seen s with
 | error n => exact Nat.zero_le _
 | ok y => have := (keyB_len (k := y.1) (r' := y.2) h).1; show y.2.length + 1 ≤ _; omega
theorem has_take (ks : List ByteArray) (key : ByteArray) (i : Nat) (hi : i < ks.length) : hasKey (ks.take (i + 1)) key = (hasKey (ks.take i) key || decide (ks.getD i ByteArray.empty = key)) := by
 unfold hasKey
 have e : ks.take (i + 1) = ks.take i ++ [ks[i]] := by rw [List.take_add_one, List.getElem?_eq_getElem hi]; rfl
 rw [e, List.any_append, List.any_cons, List.any_nil, Bool.or_false, List.getD_eq_getElem?_getD, List.getElem?_eq_getElem hi, Option.getD_some]
def failS : Except Nat Bs → Except Nat Bs
 | .ok r1 => .error (r1.length + 1)
 | .error n => .error n
theorem dup_hit {ks : List ByteArray} {key : ByteArray} {i : Nat} (hi : i < ks.length) (h : ks.getD i ByteArray.empty = key) (x : Except Nat Bs) : dupS (ks.take (i + 1)) key x = failS (dupS (ks.take i) key x) := by
 cases x with
 | error n => rfl
 | ok r1 =>
   unfold dupS
   simp only [has_take ks key i hi, h, decide_true, Bool.or_true, if_true]
   by_cases hh : hasKey (ks.take i) key = true
   · rw [if_pos hh]; rfl
   · rw [if_neg hh]; rfl
theorem dup_miss {ks : List ByteArray} {key : ByteArray} {i : Nat} (hi : i < ks.length) (h : ¬ ks.getD i ByteArray.empty = key) (x : Except Nat Bs) : dupS (ks.take (i + 1)) key x = dupS (ks.take i) key x := by
 cases x with
 | error n => rfl
 | ok r1 =>
   unfold dupS
   simp only [has_take ks key i hi, h, decide_false, Bool.or_false]
theorem own_row {W : World} {lo n : Nat} {v : Value} {ks : List ByteArray} (h : OwnS W lo v ks) (hn : ks.length = n) : W.ownsRow lo 9 1 v n (ks.map Value.string) := by subst hn; exact h
theorem dup_none (key : ByteArray) (x : Except Nat Bs) : dupS [] key x = x := by cases x <;> rfl
theorem dup_ok {ks : List ByteArray} {key : ByteArray} {x : Except Nat Bs} {r1 : Bs} (h : dupS ks key x = .ok r1) : x = .ok r1 := by
 cases x with
 | error n => cases h
 | ok r =>
   by_cases hh : hasKey ks key = true
   · have e : dupS ks key (.ok r) = .error (r.length + 1) := if_pos hh
     rw [e] at h; cases h
   · have e : dupS ks key (.ok r) = .ok r := if_neg hh
     rw [e] at h; exact h
set_option maxHeartbeats 8000000 in
theorem table87 {w : World} {r : Nat} {T : ByteArray} {q : Bs} (h : Rf w r T (.ok (123 :: q))) (d : Nat) (hd : d < 40) (f : Nat) (hf : 3 * q.length + 3 ≤ f) (hV : ValS (d + 1)) (z : Int) (hz : z = (d : Int)) :
  Calls Tryd.prog 87 #[.pointer (some ⟨r, 0, none⟩), .int .i64 z] w (ValX w r T (tabR (openL 125 (stepP (40 - d)) f ([], []) q))) := by
 obtain ⟨i3, hi3, hs3⟩ := infoS3
 obtain ⟨i25, hi25, hs25⟩ := info25
 obtain ⟨i23, hi23, hs23⟩ := info23
 obtain ⟨i22, hi22, hs22⟩ := info22
 have HI := Lib.hid (And.intro (And.intro hi3 hs3) (And.intro (And.intro hi25 hs25) (And.intro (And.intro hi23 hs23) (And.intro hi22 hs22))))
 have Hrw := Lib.hid h.lt
 have hT := h.len
 have H83 := Lib.hid (fun W (hk : Keeps Nob w W) => take83 (h.keep hk id) ⟨#[123]⟩ (by decide))
 rw [show takeX (bl ⟨#[123]⟩) (.ok (123 :: q)) = .ok q by simp [takeX, wordB, wordB_nil, show bl ⟨#[123]⟩ = [123] from rfl]] at H83
 have hqT : q.length + 1 ≤ T.size := h.le
 obtain ⟨R0, hR0⟩ : ∃ y, openL 125 (stepP (40 - d)) f ([], []) q = y := ⟨_, rfl⟩
 have hbeg := li_begin (close := 125) (step := stepP (40 - d)) (x0 := ([], [])) hf
 rw [hR0] at hbeg ⊢
 have Hbeg := Lib.hid hbeg
 have HV := Lib.hid hV
 have hzb : 0 ≤ z ∧ z ≤ 40 := by omega
 have Hz := Lib.hid hz
 obtain ⟨hz0, hz40⟩ := hzb
 have Hdd := Lib.hid hd
 have Hbl := Lib.hid (blanksB_le q)
 clear hi3 hs3 hi25 hs25 hi23 hs23 hi22 hs22 h hf hV hz hd hR0 hbeg
 go_enter Tryd.func87, Tryd.ntmps87
 go_upto_region 4 with (first
  | ((with_reducible refine at_dst (N := 4) rfl ?_); go_must (refine ev_alloc rfl rfl zero25 rfl ?_; intro g4 w1 hg4 hl4 hb4 hk4)
     have Hb4 := Lib.hid hb4
     have Hg4 := Lib.hid (And.intro hg4 hl4)
     have HK0 := Lib.hid hk4
     clear hb4 hk4 hg4 hl4
     (try simp only [PU]))
  | ((with_reducible refine at_dst (N := 5) rfl ?_); go_must (refine ev_alloc rfl rfl zero25 rfl ?_; intro g5 w2 hg5 hl5 hb5 hk5)
     have Hb4 := Lib.hid (hk5.blk Hb4.out id)
     have Hb5 := Lib.hid hb5
     have Hg5 := Lib.hid (show w.heap.size ≤ g4 ∧ g4 < g5 ∧ g5 < w2.heap.size from ⟨Hg4.out.1, Nat.lt_of_lt_of_le Hg4.out.2 hg5, hl5⟩)
     have HK0 := Lib.hid (HK0.out.trans hk5 (fun _ _ h => h))
     clear hb5 hk5 hg5 hl5 Hg4
     (try simp only [PU]))
  | ((with_reducible refine at_store (t := 25) (p := 5) rfl ?_); go_must (refine ev_store (cs' := #[.int .i64 6, .bool false, .int .i64 0, .string ByteArray.empty, .slice none 0 0, .slice none 0 0]) rfl rfl rfl rfl rfl rfl HI.out.2.1.1 HI.out.2.1.2 rfl Hb5.out (Nat.le_of_ble_eq_true rfl) rfl ?_; intro w3 hb3 hk3)
     have Hb4 := Lib.hid (hk3.blk Hb4.out (fun e : g4 = g5 => by have := Hg5.out; omega))
     have Hb5 := Lib.hid hb3
     have HK0 := Lib.hid (show Keeps Nob w w3 from HK0.out.trans hk3 (fun i hi e => by have := Hg5.out; omega))
     clear hb3 hk3
     (try simp only [PU]))
  | (go_at_call 83; go_must (refine (H83.out _ HK0.out).mono ?_; rintro e w4 ⟨⟨y, rfl⟩, hr4, hk4⟩)
     have Hb4 := Lib.hid (hk4.blk Hb4.out (fun e => by have := Hg5.out; have := Hrw.out; omega))
     have Hb5 := Lib.hid (hk4.blk Hb5.out (fun e => by have := Hg5.out; have := Hrw.out; omega))
     have Hr := Lib.hid hr4
     have HK := Lib.hid ((HK0.out.mono (M' := (· = r)) (fun _ _ e => e.elim)).trans hk4 (fun _ _ h => h))
     clear hr4 hk4
     (try simp only [PU]))
  | (go_at_call 48; go_must (refine (blanks48 Hr.out).mono ?_; rintro e w5 ⟨⟨y, rfl⟩, hr5, hk5⟩)
     have Hb4 := Lib.hid (hk5.blk Hb4.out (fun e => by have := Hg5.out; have := Hrw.out; omega))
     have Hb5 := Lib.hid (hk5.blk Hb5.out (fun e => by have := Hg5.out; have := Hrw.out; omega))
     have Hr := Lib.hid (show Rf w5 r T (.ok (blanksB q)) from hr5)
     have HK := Lib.hid (HK.out.trans hk5 (fun _ _ h => h))
     clear hr5 hk5
     (try simp only [PU]))
 )
 clear H83 HK0
 have Hne := Lib.hid (show ¬ g5 = r ∧ ¬ g4 = r ∧ r < w.heap.size ∧ w.heap.size ≤ g4 ∧ g4 < g5 from ⟨fun e => by have := Hg5.out; have := Hrw.out; omega, fun e => by have := Hg5.out; have := Hrw.out; omega, Hrw.out, Hg5.out.1, Hg5.out.2.1⟩)
 have Hne := Lib.hid (show ¬ g5 = r ∧ ¬ g4 = r ∧ r < w.heap.size ∧ w.heap.size ≤ g4 from ⟨Hne.out.1, Hne.out.2.1, Hne.out.2.2.1, Hne.out.2.2.2.1⟩)
 have Hnx0 := Lib.hid True.intro
 obtain ⟨q0, hq0⟩ : ∃ y, blanksB q = y := ⟨_, rfl⟩
 rw [hq0] at Hr Hbeg Hbl
 clear hq0
 have HJ := Lib.hid (show RowJ w5 w.heap.size (fun b => b = g5 ∨ b = g4 ∨ some b = (Value.slice none 0 0).ownBlock) (.slice none 0 0) [] (fun _ => False) [] from ⟨⟨rfl, .inl ⟨rfl, rfl⟩⟩, fun _ h => h.elim, (fun _ h => by cases h), fun i h => absurd h (Nat.not_lt_zero _)⟩)
 by_cases hcl : headN q0 = 125
 · obtain ⟨q2, hq2⟩ := headX_close (x := .ok q0) (close := 125) hcl (by decide)
   obtain rfl : q0 = 125 :: q2 := by injection hq2
   have HR2 := Lib.hid (show R0 = .ok (([], []), q2) from Hbeg.out.1 q2 rfl)
   obtain ⟨a, ha, ⟨hbk, -⟩, -, hsum, hnx⟩ := Hr.out.cons
   have r1 := (blk_cell hbk 1).trans rfl
   have Hb := Lib.hid hbk
   have Hnx := Lib.hid hnx
   have hai : (a : Int) ≤ 1000000 := by omega
   obtain ⟨A, hA⟩ : ∃ A : Option Addr, A = none := ⟨_, rfl⟩
   obtain ⟨n, hn⟩ : ∃ n : Nat, n = 0 := ⟨_, rfl⟩
   obtain ⟨c, hc⟩ : ∃ n : Nat, n = 0 := ⟨_, rfl⟩
   obtain ⟨kA, hkA⟩ : ∃ A : Option Addr, A = none := ⟨_, rfl⟩
   obtain ⟨kc, hkc⟩ : ∃ n : Nat, n = 0 := ⟨_, rfl⟩
   have HKS := Lib.hid (show OwnS w5 w.heap.size (.slice kA n kc) [] by rw [hkA, hn, hkc]; exact OwnS.nil _ _)
   have HJ := Lib.hid (show RowJ w5 w.heap.size (fun b => b = g5 ∨ b = g4 ∨ some b = (Value.slice kA n kc).ownBlock) (.slice A n c) [] (fun _ => False) [] by rw [hA, hkA, hn, hc, hkc]; exact HJ.out)
   have Hb5 := Lib.hid (show w5.heap[g5]? = some (.cells #[.int .i64 6, .bool false, .int .i64 0, .string ByteArray.empty, .slice kA n kc, .slice A n c] 25 (0, 0)) by rw [hA, hkA, hn, hc, hkc]; exact Hb5.out)
   clear hbk hnx hsum ha hcl hq2 hA hn hc hkA hkc
   go_wp2_with (first
    | (go_at_call 82; go_must (refine (peek82 Hr.out).mono ?_; rintro e w6 ⟨rfl, hk6⟩; rw [show headX (.ok (125 :: q2)) = 125 from rfl])
       have Hb := Lib.hid (hk6.blk Hb.out id)
       have Hb4 := Lib.hid (hk6.blk Hb4.out id)
       have Hb5 := Lib.hid (hk6.blk Hb5.out id)
       have HJ := Lib.hid (HJ.out.keep hk6 (fun _ _ e => e.elim))
       have HKS := Lib.hid (HKS.out.keep hk6 (fun _ _ => id))
       have HK := Lib.hid (HK.out.then hk6)
       clear r1 hk6
       have r1 := (blk_cell Hb.out 1).trans rfl
       (try simp only [PU]))
    | ((with_reducible refine at_store (t := 3) rfl ?_); go_must (refine ev_store (cs' := #[.string T, .int .i64 ((a : Int) + 1), .int .i64 (-1)]) rfl rfl rfl rfl rfl rfl HI.out.1.1 HI.out.1.2 rfl Hb.out (Nat.le_of_ble_eq_true rfl) rfl ?_; intro w1 hb1 hk1)
       have Hr1 := Lib.hid (Hnx.out _ hb1)
       have Hb5 := Lib.hid (hk1.blk Hb5.out Hne.out.1)
       have Hb4 := Lib.hid (hk1.blk Hb4.out Hne.out.2.1)
       have HJ := Lib.hid (HJ.out.keep hk1 (fun b _ e => .inl (by have := Hne.out.2.2.1; omega)))
       have HKS := Lib.hid (HKS.out.keep hk1 (fun q' e h => by have h1 := (HKS.out.lt q' e).1; have h2 := Hne.out.2.2.1; omega))
       have HK := Lib.hid (HK.out.trans hk1 (fun _ _ h => h))
       clear hb1 hk1 r1
       (try clear c0 c1 c2 c3 c4 c5)
       have c0 := (blk_cell Hb5.out 0).trans rfl
       have c1 := (blk_cell Hb5.out 1).trans rfl
       have c2 := (blk_cell Hb5.out 2).trans rfl
       have c3 := (blk_cell Hb5.out 3).trans rfl
       have c4 := (blk_cell Hb5.out 4).trans rfl
       have c5 := (blk_cell Hb5.out 5).trans rfl
       (try simp only [PU]))
    | ((with_reducible refine at_store (t := 25) (p := 4) rfl ?_); go_must (refine ev_store (cs' := #[.int .i64 6, .bool false, .int .i64 0, .string ByteArray.empty, .slice kA n kc, .slice A n c]) rfl rfl rfl rfl rfl rfl HI.out.2.1.1 HI.out.2.1.2 rfl Hb4.out (Nat.le_of_ble_eq_true rfl) rfl ?_; intro w2 hb2 hk2)
       have Hr1 := Lib.hid (Hr1.out.keep hk2 (fun e => Hne.out.2.1 e.symm))
       have Hb4o := Hb4
       have Hb4 := Lib.hid hb2
       have HJ := Lib.hid (HJ.out.keep hk2 (fun b _ e => .inr (.inr (.inl e))))
       have HKS := Lib.hid (HKS.out.keep hk2 (fun q' e h => HKS.out.ne Hb4o.out (by decide) (by rw [e, h])))
       have HK := Lib.hid (show Keeps (· = r) w w2 from HK.out.trans hk2 (fun i hi e => by have := Hne.out.2.2.2; omega))
       clear hb2 hk2 c0 c1 c2 c3 c4 c5
       have d0 := (blk_cell Hb4.out 0).trans rfl
       have d1 := (blk_cell Hb4.out 1).trans rfl
       have d2 := (blk_cell Hb4.out 2).trans rfl
       have d3 := (blk_cell Hb4.out 3).trans rfl
       have d4 := (blk_cell Hb4.out 4).trans rfl
       have d5 := (blk_cell Hb4.out 5).trans rfl
       (try simp only [PU]))
   )
   refine bodyPost_ret (v := .agg #[.int .i64 6, .bool false, .int .i64 0, .string ByteArray.empty, .slice kA n kc, .slice A n c]) (by rw [results_cell1 rfl]; go_simp) rfl ?_
   refine ⟨⟨_, .mk 6 false 0 ByteArray.empty [] [], rfl, ?_, fun y hy => ?_⟩, ?_, HK.out⟩
   · refine JX.keep (M := Nob) (X := fun b => w.heap.size ≤ b) ?_ (Keeps.refl Nob _) (fun _ _ _ => id) (fun b h1 h2 => ⟨h2, h1⟩)
     exact JX.close HKS.out.strs (OwnJ.js ⟨_, _, HJ.out⟩)
   · rw [HR2.out] at hy; injection hy with hy; rw [← hy]
   · rw [HR2.out]; exact Hr1.out
 · skip
   have hclb : (headN q0 == 125) = false := beq_eq_false_iff_ne.2 hcl
   have HL := Lib.hid (Hbeg.out.2 (fun q2 e => hcl (by rw [e]; rfl)))
   obtain ⟨hv, hhv⟩ : ∃ y, headN q0 = y := ⟨_, rfl⟩
   rw [hhv] at hclb
   have Hhv := Lib.hid hhv
   clear hcl hhv Hbeg
   go_upto_block 0 with (first
    | (go_at_call 82; go_must (refine (peek82 Hr.out).mono ?_; rintro e w6 ⟨rfl, hk6⟩; rw [show headX (.ok q0) = headN q0 from rfl, Hhv.out])
       have Hr := Lib.hid (Hr.out.keep hk6 id)
       have Hb4 := Lib.hid (hk6.blk Hb4.out id)
       have Hb5 := Lib.hid (hk6.blk Hb5.out id)
       have HJ := Lib.hid (HJ.out.keep hk6 (fun _ _ e => e.elim))
       have HK := Lib.hid (HK.out.then hk6)
       clear hk6
       (try simp only [PU]))
   )
   go_wp2_with fail
   go_loopg [] (lenX (.ok q0)) (fun K wr => ∃ (x' : Except Nat Bs) (kA A : Option Addr) (kc c n : Nat) (ks : List ByteArray) (acc : List J) (X : Nat → Prop) (xs : List Value), lenX x' ≤ K ∧ n + lenX x' ≤ 1000002 ∧ Hid (ks.length = n ∧ acc.length = n) ∧ Hid (Rf wr r T x') ∧ Hid (wr.heap[g5]? = some (.cells #[.int .i64 6, .bool false, .int .i64 0, .string ByteArray.empty, .slice kA n kc, .slice A n c] 25 (0, 0))) ∧ Hid (wr.heap[g4]? = some (.cells #[.int .i64 0, .bool false, .int .i64 0, .string ByteArray.empty, .slice none 0 0, .slice none 0 0] 25 (0, 0))) ∧ Hid (OwnS wr w.heap.size (.slice kA n kc) ks) ∧ Hid (RowJ wr w.heap.size (fun b => b = g5 ∨ b = g4 ∨ some b = (Value.slice kA n kc).ownBlock) (.slice A n c) acc X xs) ∧ Hid (LI 125 (stepP (40 - d)) R0 (ks, acc) x') ∧ Hid (Keeps (· = r) w wr))
   case atStart => exact ⟨.ok q0, none, none, 0, 0, 0, [], [], _, _, Nat.le_refl _, by have := Hbl.out; simp only [lenX]; omega, Lib.hid ⟨rfl, rfl⟩, Hr, Hb5, Hb4, Lib.hid (OwnS.nil _ _), HJ, HL, HK⟩
   case round =>
    obtain ⟨x', kA, A, kc, c, n, ks, acc, X, xs, hl, hb, Hn, Hr, Hb5, Hb4, HKS, HJ, HL, HK⟩ := hrel
    cases x' with
    | error m =>
      have HR2 := Lib.hid (show R0 = .error m from HL.out)
      obtain ⟨a, hbk, -, -, -⟩ := id Hr.out
      obtain ⟨y, hy⟩ : ∃ y, T.size - m = y := ⟨_, rfl⟩
      rw [hy] at hbk
      have r2 := (blk_cell hbk 2).trans rfl
      have hy0 : ¬ (y : Int) < 0 := by omega
      have Hr1 := Hr
      clear hbk hy hl hb
      (try clear c0 c1 c2 c3 c4 c5)
      have c0 := (blk_cell Hb5.out 0).trans rfl
      have c1 := (blk_cell Hb5.out 1).trans rfl
      have c2 := (blk_cell Hb5.out 2).trans rfl
      have c3 := (blk_cell Hb5.out 3).trans rfl
      have c4 := (blk_cell Hb5.out 4).trans rfl
      have c5 := (blk_cell Hb5.out 5).trans rfl
      go_wp2_with (first
       | ((with_reducible refine at_store (t := 3) rfl ?_); go_must (refine ev_store (cs' := #[.string T, .int .i64 ((a : Int) + 1), .int .i64 (-1)]) rfl rfl rfl rfl rfl rfl HI.out.1.1 HI.out.1.2 rfl Hb.out (Nat.le_of_ble_eq_true rfl) rfl ?_; intro w1 hb1 hk1)
          have Hr1 := Lib.hid (Hnx.out _ hb1)
          have Hb5 := Lib.hid (hk1.blk Hb5.out Hne.out.1)
          have Hb4 := Lib.hid (hk1.blk Hb4.out Hne.out.2.1)
          have HJ := Lib.hid (HJ.out.keep hk1 (fun b _ e => .inl (by have := Hne.out.2.2.1; omega)))
          have HKS := Lib.hid (HKS.out.keep hk1 (fun q' e h => by have h1 := (HKS.out.lt q' e).1; have h2 := Hne.out.2.2.1; omega))
          have HK := Lib.hid (HK.out.trans hk1 (fun _ _ h => h))
          clear hb1 hk1 r1
          (try clear c0 c1 c2 c3 c4 c5)
          have c0 := (blk_cell Hb5.out 0).trans rfl
          have c1 := (blk_cell Hb5.out 1).trans rfl
          have c2 := (blk_cell Hb5.out 2).trans rfl
          have c3 := (blk_cell Hb5.out 3).trans rfl
          have c4 := (blk_cell Hb5.out 4).trans rfl
          have c5 := (blk_cell Hb5.out 5).trans rfl
          (try simp only [PU]))
       | ((with_reducible refine at_store (t := 25) (p := 4) rfl ?_); go_must (refine ev_store (cs' := #[.int .i64 6, .bool false, .int .i64 0, .string ByteArray.empty, .slice kA n kc, .slice A n c]) rfl rfl rfl rfl rfl rfl HI.out.2.1.1 HI.out.2.1.2 rfl Hb4.out (Nat.le_of_ble_eq_true rfl) rfl ?_; intro w2 hb2 hk2)
          have Hr1 := Lib.hid (Hr1.out.keep hk2 (fun e => Hne.out.2.1 e.symm))
          have Hb4o := Hb4
          have Hb4 := Lib.hid hb2
          have HJ := Lib.hid (HJ.out.keep hk2 (fun b _ e => .inr (.inr (.inl e))))
          have HKS := Lib.hid (HKS.out.keep hk2 (fun q' e h => HKS.out.ne Hb4o.out (by decide) (by rw [e, h])))
          have HK := Lib.hid (show Keeps (· = r) w w2 from HK.out.trans hk2 (fun i hi e => by have := Hne.out.2.2.2; omega))
          clear hb2 hk2 c0 c1 c2 c3 c4 c5
          have d0 := (blk_cell Hb4.out 0).trans rfl
          have d1 := (blk_cell Hb4.out 1).trans rfl
          have d2 := (blk_cell Hb4.out 2).trans rfl
          have d3 := (blk_cell Hb4.out 3).trans rfl
          have d4 := (blk_cell Hb4.out 4).trans rfl
          have d5 := (blk_cell Hb4.out 5).trans rfl
          (try simp only [PU]))
      )
      refine bodyPost_ret (v := .agg #[.int .i64 6, .bool false, .int .i64 0, .string ByteArray.empty, .slice kA n kc, .slice A n c]) (by rw [results_cell1 rfl]; go_simp) rfl ?_
      refine ⟨⟨_, .mk 6 false 0 ByteArray.empty ks acc, rfl, ?_, fun y hy => ?_⟩, ?_, HK.out⟩
      · refine JX.keep (M := Nob) (X := fun b => w.heap.size ≤ b) ?_ (Keeps.refl Nob _) (fun _ _ _ => id) (fun b h1 h2 => ⟨h2, h1⟩)
        exact JX.close HKS.out.strs (OwnJ.js ⟨_, _, HJ.out⟩)
      · rw [HR2.out] at hy; cases hy
      · rw [HR2.out]; exact Hr1.out
    | ok s =>
      obtain ⟨f1, hf1, hst⟩ := li_step HL.out (fun _ _ _ _ _ h => (stepP_len h).1) (by decide)
      have Hf1 := Lib.hid hf1
      have Hst := Lib.hid hst
      have he41 := Lib.hid (show 41 - (d + 1) = 40 - d by omega)
      simp only [lenX] at hl hb
      have Hl := Lib.hid (And.intro hl hb)
      have hnb : n ≤ 1000002 := by omega
      obtain ⟨a, hbk, -, -, -⟩ := Hr.out.good
      have r2 := (blk_cell hbk 2).trans rfl
      have Hsl := Lib.hid Hr.out.le
      have Hstr := Lib.hid (show ∀ y, strB s = .ok y → y.2.length + 1 ≤ T.size from fun y hy => by have := (strB_len (s := y.1) (r' := y.2) hy).1; have := Hr.out.le; omega)
      clear hf1 hst hbk hl hb HL
      go_upto_region 9 with (first
       | (go_at_call 84; go_must (refine (text84 Hr.out).mono ?_; rintro e w6 ⟨⟨key, rfl, hkey⟩, hr6, hk6⟩)
          have Hkey := Lib.hid (show ∀ y, strB s = .ok y → key = mkB y.1 from hkey)
          have Hr := Lib.hid (show Rf w6 r T (stX (strB s)) from hr6)
          have Hb5 := Lib.hid (Keeps.blk hk6 Hb5.out Hne.out.1)
          have Hb4 := Lib.hid (Keeps.blk hk6 Hb4.out Hne.out.2.1)
          have HJ := Lib.hid (HJ.out.keep hk6 (fun b _ e => .inl (by have := Hne.out.2.2.1; omega)))
          have HKS := Lib.hid (HKS.out.keep hk6 (fun q' e h => by have h1 := (HKS.out.lt q' e).1; have h2 := Hne.out.2.2.1; omega))
          have HK := Lib.hid (HK.out.trans hk6 (fun _ _ h => h))
          clear hkey hr6 hk6 r2
          (try simp only [PU]))
      )
      obtain ⟨x1, hx1⟩ : ∃ y, stX (strB s) = y := ⟨_, rfl⟩
      have Hx1 := Lib.hid hx1
      rw [hx1] at Hr
      have Hxl := Lib.hid (show ∀ r1, x1 = .ok r1 → r1.length + 1 ≤ T.size from fun r1 e => by
       rw [← hx1] at e
       cases hs : strB s with
       | error m => rw [hs] at e; cases e
       | ok y => rw [hs] at e; injection e with e; rw [← e]; exact Hstr.out y hs)
      clear hx1 Hstr
      have c4 := (blk_cell Hb5.out 4).trans rfl
      go_upto_block 2 with fail
      clear c4
      have hst2 := HKS.out.strs
      obtain ⟨A', c', e', -, hxc⟩ := hst2
      injection e' with e1 e2 e3
      subst e1; subst e3
      have HKc := Lib.hid (show ∀ i, i < n → ∃ b o, kA = some ⟨b, o, none⟩ ∧ w.heap.size ≤ b ∧ w6.cell? ⟨b, o + i, none⟩ = some (.string (ks.getD i ByteArray.empty)) from fun i hi => by
       obtain ⟨b, o, e, hb, hc⟩ := hxc i (by rw [← e2]; exact hi)
       exact ⟨b, o, e, hb, hc⟩)
      clear hxc e2
      go_cut [6] (fun kv wx => kv = .string key ∧ Hid (Rf wx r T (dupS ks key x1)) ∧ Hid (Keeps (· = r) w6 wx))
      case first =>
       go_wp2_with fail
       go_loopg [35] n (fun K iv wi => ∃ i : Nat, iv = .int .i64 i ∧ i + K = n ∧ Hid (Rf wi r T (dupS (ks.take i) key x1)) ∧ Hid (Keeps (· = r) w6 wi))
       case atStart => exact ⟨0, rfl, by omega, Lib.hid (by rw [List.take_zero, dup_none]; exact Hr.out), Lib.hid (Keeps.refl _ _)⟩
       case round =>
        obtain ⟨i, rfl, hiK, Hri, HKi⟩ := hrel
        have HiK := Lib.hid hiK
        clear hiK
        by_cases hlt : i < n
        · obtain ⟨bk, ko, hkA, hbk, hck⟩ := HKc.out i hlt
          subst hkA
          have hck := HKi.out.cell hck (fun e : bk = r => by have := Hne.out.2.2.1; omega)
          have hik : i < ks.length := by rw [Hn.out.1]; exact hlt
          have hii : (i : Int) < (n : Int) := by omega
          obtain ⟨kk, hkk⟩ : ∃ y, ks.getD i ByteArray.empty = y := ⟨_, rfl⟩
          rw [hkk] at hck
          by_cases hkey2 : kk = key
          · have hkb : (kk.toList == key.toList) = true := by rw [hkey2]; exact beq_self_eq_true _
            have Hnext := Lib.hid (dup_hit hik (hkk.trans hkey2) x1)
            obtain ⟨xi, hxi⟩ : ∃ y, dupS (ks.take i) key x1 = y := ⟨_, rfl⟩
            rw [hxi] at Hri Hnext
            clear hkk hkey2 hik hbk
            cases xi with
            | error m =>
              obtain ⟨a, hbk, -, -, -⟩ := id Hri.out
              have r1 := (blk_cell hbk 1).trans rfl
              have Hfb := Lib.hid (fun z => failB Hri.out z)
              clear hbk hxi
              go_wp2_with (first
               | (go_at_call 50; go_must (refine (Hfb.out _).mono ?_; rintro e w7 ⟨⟨y, rfl⟩, hr7, hk7⟩); have Hr7 := Lib.hid hr7; have HK7 := Lib.hid hk7; clear hr7 hk7; (try simp only [PU]))
              )
              go_roundg (n - i - 1)
              case measure => have := HiK.out; omega
              case rel => exact ⟨i + 1, by rfl, by omega, Lib.hid (by rw [Hnext.out]; exact Hr7.out), Lib.hid (HKi.out.trans HK7.out (fun _ _ h => h))⟩
            | ok r1' =>
              have hle := Hxl.out r1' (dup_ok hxi)
              obtain ⟨a, hbk, hsum, ha, -⟩ := Hri.out.good
              have r1 := (blk_cell hbk 1).trans rfl
              have hai : (a : Int) ≤ 1000000 := by have := Hri.out.len; omega
              have Hfg := Lib.hid (failG Hri.out (r1'.length + 1) hle ((a : Int) - 1) (by omega))
              clear hbk hsum ha hle hxi
              go_wp2_with (first
               | (go_at_call 50; go_must (refine Hfg.out.mono ?_; rintro e w7 ⟨⟨y, rfl⟩, hr7, hk7⟩); have Hr7 := Lib.hid hr7; have HK7 := Lib.hid hk7; clear hr7 hk7; (try simp only [PU]))
              )
              go_roundg (n - i - 1)
              case measure => have := HiK.out; omega
              case rel => exact ⟨i + 1, by rfl, by omega, Lib.hid (by rw [Hnext.out]; exact Hr7.out), Lib.hid (HKi.out.trans HK7.out (fun _ _ h => h))⟩
          · have hkb : (kk.toList == key.toList) = false := by simpa using str_ne hkey2
            have Hnext := Lib.hid (dup_miss hik (fun e => hkey2 (hkk.symm.trans e)) x1)
            clear hkk hkey2 hik hbk
            go_wp2
            go_roundg (n - i - 1)
            case measure => have := HiK.out; omega
            case rel => exact ⟨i + 1, by rfl, by omega, Lib.hid (by rw [Hnext.out]; exact Hri.out), HKi⟩
        · have hi' : i = n := by have := HiK.out; omega
          have htk : ks.take i = ks := List.take_of_length_le (by rw [Hn.out.1]; omega)
          rw [htk] at Hri
          subst hi'
          clear htk
          go_wp2_with fail
          go_meet
          exact ⟨rfl, Hri, HKi⟩
      case rest =>
       obtain ⟨rfl, Hr, HKi⟩ := hcut
       have hk6 := HKi.out
       have Hb5 := Lib.hid (Keeps.blk hk6 Hb5.out Hne.out.1)
       have Hb4 := Lib.hid (Keeps.blk hk6 Hb4.out Hne.out.2.1)
       have HJ := Lib.hid (HJ.out.keep hk6 (fun b _ e => .inl (by have := Hne.out.2.2.1; omega)))
       have HKS := Lib.hid (HKS.out.keep hk6 (fun q' e h => by have h1 := (HKS.out.lt q' e).1; have h2 := Hne.out.2.2.1; omega))
       have HK := Lib.hid (HK.out.trans hk6 (fun _ _ h => h))
       clear hk6 HKi HKc
       go_upto_region 18 with (first
        | (go_at_call 48; go_must (refine (blanks48 Hr.out).mono ?_; rintro e w10 ⟨⟨y, rfl⟩, hr6, hk6⟩)
           have Hr := Lib.hid hr6
           have Hb5 := Lib.hid (Keeps.blk hk6 Hb5.out Hne.out.1)
           have Hb4 := Lib.hid (Keeps.blk hk6 Hb4.out Hne.out.2.1)
           have HJ := Lib.hid (HJ.out.keep hk6 (fun b _ e => .inl (by have := Hne.out.2.2.1; omega)))
           have HKS := Lib.hid (HKS.out.keep hk6 (fun q' e h => by have h1 := (HKS.out.lt q' e).1; have h2 := Hne.out.2.2.1; omega))
           have HK := Lib.hid (HK.out.trans hk6 (fun _ _ h => h))
           clear hr6 hk6
           (try simp only [PU]))
        | (go_at_call 83; go_must (refine (take83 Hr.out ⟨#[58]⟩ (by decide)).mono ?_; rintro e w12 ⟨⟨y, rfl⟩, hr6, hk6⟩)
           have Hr := Lib.hid (show Rf w12 r T (takeX [58] (blanksX (dupS ks key x1))) from hr6)
           have Hb5 := Lib.hid (Keeps.blk hk6 Hb5.out Hne.out.1)
           have Hb4 := Lib.hid (Keeps.blk hk6 Hb4.out Hne.out.2.1)
           have HJ := Lib.hid (HJ.out.keep hk6 (fun b _ e => .inl (by have := Hne.out.2.2.1; omega)))
           have HKS := Lib.hid (HKS.out.keep hk6 (fun q' e h => by have h1 := (HKS.out.lt q' e).1; have h2 := Hne.out.2.2.1; omega))
           have HK := Lib.hid (HK.out.trans hk6 (fun _ _ h => h))
           clear hr6 hk6
           (try simp only [PU]))
       )
       have Hr := Lib.hid (show Rf _ r T (stX (keyB ks s)) by rw [← key_state ks s key Hkey.out, Hx1.out]; exact Hr.out)
       have Hklen := Lib.hid (key_len ks s)
       have Hkfu := Lib.hid (show ∀ s', stX (keyB ks s) = .ok s' → 3 * s'.length + 2 ≤ f1 from fun s' e => by
        have h1 := key_len ks s
        rw [e] at h1
        have h2 := Hf1.out
        simp only [lenX] at h1
        omega)
       obtain ⟨x3, hx3⟩ : ∃ y, stX (keyB ks s) = y := ⟨_, rfl⟩
       have Hx3 := Lib.hid hx3
       rw [hx3] at Hr Hklen Hkfu
       clear hx3
       have c4 := (blk_cell Hb5.out 4).trans rfl
       go_upto_region 19 with (first
        | ((with_reducible refine at_dst (N := 59) rfl ?_); go_must (refine ev_slice (cs := #[.string key]) (t := 9) (n := 1) (c := 1) rfl (by first | (go_simp; done) | (go_simp; rfl)) ?_; intro gk w14 hgk hlk hbk hkk)
           have Hbk := Lib.hid hbk
           have Hr := Lib.hid (Hr.out.keep hkk id)
           have Hb5 := Lib.hid (Keeps.blk hkk Hb5.out id)
           have Hb4 := Lib.hid (Keeps.blk hkk Hb4.out id)
           have HJ := Lib.hid (HJ.out.keep hkk (fun _ _ e => e.elim))
           have HKS := Lib.hid (HKS.out.keep hkk (fun _ _ => id))
           have HK := Lib.hid (HK.out.then hkk)
           clear hgk hlk hbk hkk c4
           have c4 := (blk_cell Hb5.out 4).trans rfl
           (try simp only [PU]))
        | ((with_reducible refine at_dst (N := 60) rfl ?_); have Hrow := Lib.hid (own_row HKS.out Hn.out.1); go_must (refine ev_append rfl rfl Tryd.underlying22 info9b rfl (by decide) (base := w.heap.size) rfl Hrow.out rfl (news := [Value.string key]) rfl (fun _ => ⟨_, rfl, World.news_of_block Hbk.out⟩) (by simp [Value.oneCell']) (by omega) (by decide) HK.out.size ?_; intro v9 w15 hown9 hk11 hr11 hf11; obtain ⟨gq, cq, rfl⟩ := hf11 (by decide))
           have Hr := Lib.hid (Hr.out.keep hk11 (fun e => by have h1 := (HKS.out.lt r e.symm).1; have h2 := Hne.out.2.2.1; omega))
           have HJ := Lib.hid (HJ.out.swap (E' := (fun b => b = g5 ∨ b = g4 ∨ some b = (Value.slice (some ⟨gq, 0, none⟩) (n + 1) cq).ownBlock)) hk11 (fun b _ e => .inr (.inr (.inr e))) (fun b e => by
            rcases e with e | e | e
            · exact .inl (.inl e)
            · exact .inl (.inr (.inl e))
            · rcases hr11 with h | ⟨k, h, hk⟩
              · exact .inl (.inr (.inr (e.trans h)))
              · rw [h] at e; injection e with e; exact .inr (by omega)))
           have Hb5 := Lib.hid (hk11.blk Hb5.out (HKS.out.ne Hb5.out (by decide)))
           have Hb4 := Lib.hid (hk11.blk Hb4.out (HKS.out.ne Hb4.out (by decide)))
           have HK := Lib.hid (show Keeps (· = r) w w15 from HK.out.trans hk11 (fun i hi e => by have := (HKS.out.lt i e.symm).1; omega))
           have HKS := Lib.hid (show OwnS w15 w.heap.size (.slice (some ⟨gq, 0, none⟩) (n + 1) cq) (ks ++ [key]) from by unfold OwnS; rw [List.length_append, List.map_append, Hn.out.1]; exact hown9)
           clear hown9 hk11 hr11 hf11 Hbk Hrow c4
           (try simp only [PU]))
        | ((with_reducible refine at_store (t := 22) rfl ?_); go_must (refine ev_store (off := 4) (cs' := #[.int .i64 6, .bool false, .int .i64 0, .string ByteArray.empty, .slice (some ⟨gq, 0, none⟩) (n + 1) cq, .slice A n c]) rfl rfl rfl rfl rfl rfl HI.out.2.2.2.1 HI.out.2.2.2.2 rfl Hb5.out (Nat.le_of_ble_eq_true rfl) rfl ?_; intro w17 hb9 hk9)
           have Hr := Lib.hid (Hr.out.keep hk9 (fun e => Hne.out.1 e.symm))
           have HJ := Lib.hid (HJ.out.keep hk9 (fun b _ e => .inr (.inl e)))
           have HKS := Lib.hid (HKS.out.keep hk9 (fun q' e h => HKS.out.ne Hb5.out (by decide) (by rw [e, h])))
           have Hb4 := Lib.hid (hk9.blk Hb4.out (fun e : g4 = g5 => by have := Hg5.out; omega))
           have HK := Lib.hid (show Keeps (· = r) w w17 from HK.out.trans hk9 (fun i hi e => by have := Hg5.out; omega))
           have Hb5 := Lib.hid hb9
           clear hb9 hk9
           (try simp only [PU]))
       )
       have Hin := Lib.hid (show lenX (stX (inX f1 (d + 1) x3)) ≤ s.length from by
        have h1 := Hklen.out
        cases x3 with
        | error m => exact Nat.zero_le _
        | ok s3 => have h2 := inX_len (f := f1) (d := d + 1) s3; simp only [lenX] at h1; omega)
       obtain ⟨R1, hR1⟩ : ∃ y, inX f1 (d + 1) x3 = y := ⟨_, rfl⟩
       have HR1 := Lib.hid hR1
       rw [hR1] at Hin
       clear hR1
       have Hrow0 := HJ
       have HKd := Lib.hid (Keeps.refl Nob w17).drew
       have Hkl := Lib.hid (show ∀ b, some b = (Value.slice (some ⟨gq, 0, none⟩) (n + 1) cq).ownBlock → b < w17.heap.size from fun b e => (HKS.out.lt b e.symm).2)
       have Hglt := Lib.hid (show g5 < w17.heap.size ∧ g4 < w17.heap.size ∧ w.heap.size ≤ w17.heap.size from ⟨blk_lt Hb5.out, blk_lt Hb4.out, HK.out.size⟩)
       have hkd := HKd.out
       have Hr := Lib.hid (Hr.out.keep hkd id)
       have Hb5 := Lib.hid (Keeps.blk hkd Hb5.out id)
       have Hb4 := Lib.hid (Keeps.blk hkd Hb4.out id)
       have HJ := Lib.hid (HJ.out.keep hkd (fun _ _ e => e.elim))
       have HKS := Lib.hid (HKS.out.keep hkd (fun _ _ => id))
       clear hkd
       have s5 := (blk_cell Hb5.out 5).trans rfl
       have HKr := Lib.hid (show Keeps (· = r) w17 w17.drew from HKd.out.mono (fun _ _ e => e.elim))
       refine wp_region_treec 9 (.q 0 (.q 1 (.q 2 (.q 3 (.q 4 (.br [5] (fun k => .br [6] (fun k => .br [7] (fun k => .q 8 (.brc [9] (fun k => .done))))))))))) (fun w' => w'.cell? ⟨g5, 5, none⟩ = some (.slice A n c)) rfl (by kernel_rfl) (by kernel_rfl) (fun c a d v w h => by cases d <;> exact h) s5 ?_
       refine treec_q (v := ?v1_6) (some 62) rfl rfl rfl ?q1_6 ?h1_6; (case q1_6 => (intro w' hS; skip; first | (go_simp; done) | (go_simp; rfl))); (try simp only [PU])
       refine treec_q (v := ?v1_5) (some 63) rfl rfl rfl ?q1_5 ?h1_5; (case q1_5 => (intro w' hS; skip; first | (go_simp; done) | (go_simp; rfl))); (try simp only [PU])
       refine treec_q (v := ?v1_4) (some 64) rfl rfl rfl ?q1_4 ?h1_4; (case q1_4 => (intro w' hS; skip; first | (go_simp; done) | (go_simp; rfl))); (try simp only [PU])
       refine treec_q (v := ?v1_3) (some 65) rfl rfl rfl ?q1_3 ?h1_3; (case q1_3 => (intro w' hS; skip; first | (go_simp; done) | (go_simp; rfl))); (try simp only [PU])
       refine treec_q (v := ?v1_2) (some 66) rfl rfl rfl ?q1_2 ?h1_2; (case q1_2 => (intro w' hS; skip; first | (go_simp; done) | (go_simp; rfl))); (try simp only [PU])
       refine treec_e rfl rfl ?_
       go_wp2_with (go_at_call 49; go_must (refine (HV.out (z + 1) f1 x3 _ r T (by rw [Hz.out]; rfl) Hkfu.out Hr.out).mono ?_; rw [HR1.out]; rintro e w20 ⟨⟨v6, j6, rfl, hv6, hj6⟩, hr6, hk6⟩; obtain ⟨jk, jb, jn, jt, jks, jvs, jkv, jvv, hjj, rfl, hjk, hjv⟩ := hv6.open; obtain ⟨jA, jc, rfl, -, -⟩ := hjk; obtain ⟨jB, jd, ju, rfl, -, -, -⟩ := hjv))
       have HX6 := Lib.hid (show JX w20 (fun b => w17.heap.size ≤ b ∧ b < w20.heap.size) _ j6 from hv6)
       have Hj6 := Lib.hid hj6
       have Hr := Lib.hid hr6
       have Hb5 := Lib.hid (hk6.blk Hb5.out Hne.out.1)
       have Hb4 := Lib.hid (hk6.blk Hb4.out Hne.out.2.1)
       have HJ := Lib.hid (HJ.out.keep hk6 (fun b _ e => .inl (by have := Hne.out.2.2.1; omega)))
       have HKS := Lib.hid (HKS.out.keep hk6 (fun q' e h => by have h1 := (HKS.out.lt q' e).1; have h2 := Hne.out.2.2.1; omega))
       have HKr := Lib.hid (HKr.out.trans hk6 (fun _ _ h => h))
       clear hv6 hj6 hr6 hk6 hjj s5
       have s5 := (blk_cell Hb5.out 5).trans rfl
       generalize jks.length = jkl at *
       generalize jvs.length = jvl at *
       (try simp only [PU])
       refine ⟨s5, ?_⟩
       refine treec_e rfl rfl ?_
       go_must (refine ev_slice (cs := #[.int .i64 jk, .bool jb, .int .i64 jn, .string jt, .slice jA jkl jc, .slice jB jvl jd]) (t := 25) (n := 1) (c := 1) rfl (by first | (go_simp; done) | (go_simp; rfl)) ?_; intro gz w21 hgz hlz hbz hkz)
       (try simp only [PU])
       have Hbz := Lib.hid hbz
       have HX6 := Lib.hid (HX6.out.keep (X' := fun b => w17.heap.size ≤ b ∧ b < w21.heap.size) hkz (fun _ _ _ => id) (fun b hb h => ⟨h.1, Nat.lt_of_lt_of_le hb hkz.size⟩))
       have Hr := Lib.hid (Hr.out.keep hkz id)
       have Hb5 := Lib.hid (Keeps.blk hkz Hb5.out id)
       have Hb4 := Lib.hid (Keeps.blk hkz Hb4.out id)
       have HJ := Lib.hid (HJ.out.keep hkz (fun _ _ e => e.elim))
       have HKS := Lib.hid (HKS.out.keep hkz (fun _ _ => id))
       have HKr := Lib.hid (HKr.out.then hkz)
       clear hgz hlz hbz hkz s5
       have s5 := (blk_cell Hb5.out 5).trans rfl
       refine wpList_nil ⟨s5, ?_⟩
       refine treec_e rfl rfl ?_
       have hrow := HJ.out.row
       rw [Hn.out.2] at hrow
       have Hrow := Lib.hid hrow
       clear hrow
       go_must (refine ev_append rfl rfl Tryd.underlying23 info25b rfl (by decide) (base := w.heap.size) rfl Hrow.out rfl (news := [.int .i64 jk, .bool jb, .int .i64 jn, .string jt, .slice jA jkl jc, .slice jB jvl jd]) rfl (fun _ => ⟨_, rfl, World.news_of_block Hbz.out⟩) (by simp [Value.oneCell']) (by omega) (by decide) (by have h1 := HKr.out.size; have h2 := Hglt.out.2.2; omega) ?_; intro v8 w22 hown8 hk8 hr8 hf8; obtain ⟨gv, cv, rfl⟩ := hf8 (by decide))
       (try simp only [PU])
       have HJ2 := Lib.hid (HJ.out.app HX6.out (fun b hb => ⟨by have := Hglt.out.2.2; omega, fun e => by have h1 := Hglt.out; rcases e with e | e | e; omega; omega; (have := Hkl.out b e; omega), fun e => by have h1 := (row_lt Hrow0.out.row b e.symm).2; omega, hb.2⟩) (fun b e => by have h1 := Hglt.out; have h2 := HKr.out.size; rcases e with e | e | e; omega; omega; (have := Hkl.out b e; omega)) (by rw [Hn.out.2]; exact hown8) hk8 hr8)
       have Hr := Lib.hid (Hr.out.keep hk8 (fun e => by have h1 := (row_lt Hrow.out r e.symm).1; have h2 := Hne.out.2.2.1; omega))
       have HKS := Lib.hid (HKS.out.keep hk8 (fun q' e h => HJ.out.ne q' h.symm (.inr (.inr e.symm))))
       have Hb5 := Lib.hid (hk8.blk Hb5.out (fun e => HJ.out.ne g5 e.symm (.inl rfl)))
       have Hb4 := Lib.hid (hk8.blk Hb4.out (fun e => HJ.out.ne g4 e.symm (.inr (.inl rfl))))
       have HKw := Lib.hid (show Keeps (· = r) w w22 from (HK.out.trans HKr.out (fun _ _ h => h)).trans hk8 (fun i hi e => by have := (row_lt Hrow.out i e.symm).1; omega))
       have HJ := HJ2
       clear hown8 hk8 hr8 hf8 Hbz HJ2 s5
       have s5 := (blk_cell Hb5.out 5).trans rfl
       refine wpList_nil ⟨s5, ?_⟩
       refine treec_q (v := ?v1_1) (some 70) rfl rfl rfl ?q1_1 ?h1_1; (case q1_1 => (intro w' hS; skip; first | (go_simp; done) | (go_simp; rfl))); (try simp only [PU])
       refine treec_f rfl rfl ?_
       go_must (refine ev_store (off := 5) (cs' := #[.int .i64 6, .bool false, .int .i64 0, .string ByteArray.empty, .slice (some ⟨gq, 0, none⟩) (n + 1) cq, .slice (some ⟨gv, 0, none⟩) (n + 1) cv]) rfl rfl rfl rfl rfl rfl HI.out.2.2.1.1 HI.out.2.2.1.2 rfl Hb5.out (Nat.le_of_ble_eq_true rfl) rfl ?_; intro w23 hb9 hk9)
       (try simp only [PU])
       have HJ := Lib.hid (HJ.out.keep hk9 (fun b _ e => .inr (.inl e)))
       have HKS := Lib.hid (HKS.out.keep hk9 (fun q' e h => HKS.out.ne Hb5.out (by decide) (by rw [e, h])))
       have Hr := Lib.hid (Hr.out.keep hk9 (fun e => Hne.out.1 e.symm))
       have Hb4 := Lib.hid (hk9.blk Hb4.out (fun e : g4 = g5 => by have := Hg5.out; omega))
       have HKw := Lib.hid (show Keeps (· = r) w w23 from HKw.out.trans hk9 (fun i hi e => by have := Hg5.out; omega))
       have Hb5 := Lib.hid hb9
       clear hb9 hk9 s5
       refine wpList_nil (then_normal ?_)
       refine treec_nil ?_
       have Hst2 := Lib.hid (Hst.out (ks ++ [key], acc ++ [j6]) (stepP_acc he41.out Hkey.out (fun y hy => by rw [Hx3.out, HR1.out] at hy; exact Hj6.out y hy)))
       have hsx : stX (stepP (40 - d) f1 (ks, acc) s) = stX R1 := by rw [stepP_state he41.out]; show stX (inX f1 (d + 1) (stX (keyB ks s))) = _; rw [Hx3.out, HR1.out]
       rw [hsx] at Hst2
       obtain ⟨x4, hx4⟩ : ∃ y, stX R1 = y := ⟨_, rfl⟩
       rw [hx4] at Hst2 Hr Hin
       have HK := HKw
       clear hsx hx4 Hst HR1 Hj6 HX6 HKr HKw Hx1 Hx3 Hkey Hklen Hkfu Hrow0
       go_upto_region 21 with (first
        | (go_at_call 48; go_must (refine (blanks48 Hr.out).mono ?_; rintro e w10 ⟨⟨y, rfl⟩, hr6, hk6⟩)
           have Hr := Lib.hid hr6
           have Hb5 := Lib.hid (Keeps.blk hk6 Hb5.out Hne.out.1)
           have Hb4 := Lib.hid (Keeps.blk hk6 Hb4.out Hne.out.2.1)
           have HJ := Lib.hid (HJ.out.keep hk6 (fun b _ e => .inl (by have := Hne.out.2.2.1; omega)))
           have HKS := Lib.hid (HKS.out.keep hk6 (fun q' e h => by have h1 := (HKS.out.lt q' e).1; have h2 := Hne.out.2.2.1; omega))
           have HK := Lib.hid (HK.out.trans hk6 (fun _ _ h => h))
           clear hr6 hk6
           (try simp only [PU]))
       )
       obtain ⟨hx, hhx⟩ : ∃ y, headX (blanksX x4) = y := ⟨_, rfl⟩
       have Hhx := Lib.hid hhx
       by_cases hc : hx = 125
       · obtain ⟨q2, hq2⟩ := headX_close (x := blanksX x4) (close := 125) (by rw [hhx, hc]; rfl) (by decide)
         have HR2 := Lib.hid (show R0 = .ok ((ks ++ [key], acc ++ [j6]), q2) from Hst2.out.1 q2 hq2)
         rw [hq2] at Hr
         obtain ⟨a, ha, ⟨hbk, -⟩, -, hsum, hnx⟩ := Hr.out.cons
         have r1 := (blk_cell hbk 1).trans rfl
         have Hb := Lib.hid hbk
         have Hnx := Lib.hid hnx
         have hai : (a : Int) ≤ 1000000 := by omega
         subst hc
         clear hbk hnx hsum ha hhx hq2 Hst2 Hin
         go_wp2_with (first
          | (go_at_call 82; go_must (refine (peek82 Hr.out).mono ?_; rintro e w11 ⟨rfl, hk6⟩; rw [show headX (.ok (125 :: q2)) = 125 from rfl])
             have Hb := Lib.hid (hk6.blk Hb.out id)
             have Hb4 := Lib.hid (hk6.blk Hb4.out id)
             have Hb5 := Lib.hid (hk6.blk Hb5.out id)
             have HJ := Lib.hid (HJ.out.keep hk6 (fun _ _ e => e.elim))
             have HKS := Lib.hid (HKS.out.keep hk6 (fun _ _ => id))
             have HK := Lib.hid (HK.out.then hk6)
             clear r1 hk6
             have r1 := (blk_cell Hb.out 1).trans rfl
             (try simp only [PU]))
          | ((with_reducible refine at_store (t := 3) rfl ?_); go_must (refine ev_store (cs' := #[.string T, .int .i64 ((a : Int) + 1), .int .i64 (-1)]) rfl rfl rfl rfl rfl rfl HI.out.1.1 HI.out.1.2 rfl Hb.out (Nat.le_of_ble_eq_true rfl) rfl ?_; intro w1 hb1 hk1)
             have Hr1 := Lib.hid (Hnx.out _ hb1)
             have Hb5 := Lib.hid (hk1.blk Hb5.out Hne.out.1)
             have Hb4 := Lib.hid (hk1.blk Hb4.out Hne.out.2.1)
             have HJ := Lib.hid (HJ.out.keep hk1 (fun b _ e => .inl (by have := Hne.out.2.2.1; omega)))
             have HKS := Lib.hid (HKS.out.keep hk1 (fun q' e h => by have h1 := (HKS.out.lt q' e).1; have h2 := Hne.out.2.2.1; omega))
             have HK := Lib.hid (HK.out.trans hk1 (fun _ _ h => h))
             clear hb1 hk1 r1
             (try clear c0 c1 c2 c3 c4 c5)
             have c0 := (blk_cell Hb5.out 0).trans rfl
             have c1 := (blk_cell Hb5.out 1).trans rfl
             have c2 := (blk_cell Hb5.out 2).trans rfl
             have c3 := (blk_cell Hb5.out 3).trans rfl
             have c4 := (blk_cell Hb5.out 4).trans rfl
             have c5 := (blk_cell Hb5.out 5).trans rfl
             (try simp only [PU]))
          | ((with_reducible refine at_store (t := 25) (p := 4) rfl ?_); go_must (refine ev_store (cs' := #[.int .i64 6, .bool false, .int .i64 0, .string ByteArray.empty, .slice (some ⟨gq, 0, none⟩) (n + 1) cq, .slice (some ⟨gv, 0, none⟩) (n + 1) cv]) rfl rfl rfl rfl rfl rfl HI.out.2.1.1 HI.out.2.1.2 rfl Hb4.out (Nat.le_of_ble_eq_true rfl) rfl ?_; intro w2 hb2 hk2)
             have Hr1 := Lib.hid (Hr1.out.keep hk2 (fun e => Hne.out.2.1 e.symm))
             have Hb4o := Hb4
             have Hb4 := Lib.hid hb2
             have HJ := Lib.hid (HJ.out.keep hk2 (fun b _ e => .inr (.inr (.inl e))))
             have HKS := Lib.hid (HKS.out.keep hk2 (fun q' e h => HKS.out.ne Hb4o.out (by decide) (by rw [e, h])))
             have HK := Lib.hid (show Keeps (· = r) w w2 from HK.out.trans hk2 (fun i hi e => by have := Hne.out.2.2.2; omega))
             clear hb2 hk2 c0 c1 c2 c3 c4 c5
             have d0 := (blk_cell Hb4.out 0).trans rfl
             have d1 := (blk_cell Hb4.out 1).trans rfl
             have d2 := (blk_cell Hb4.out 2).trans rfl
             have d3 := (blk_cell Hb4.out 3).trans rfl
             have d4 := (blk_cell Hb4.out 4).trans rfl
             have d5 := (blk_cell Hb4.out 5).trans rfl
             (try simp only [PU]))
         )
         refine bodyPost_ret (v := .agg #[.int .i64 6, .bool false, .int .i64 0, .string ByteArray.empty, .slice (some ⟨gq, 0, none⟩) (n + 1) cq, .slice (some ⟨gv, 0, none⟩) (n + 1) cv]) (by rw [results_cell1 rfl]; go_simp) rfl ?_
         refine ⟨⟨_, .mk 6 false 0 ByteArray.empty (ks ++ [key]) (acc ++ [j6]), rfl, ?_, fun y hy => ?_⟩, ?_, HK.out⟩
         · refine JX.keep (M := Nob) (X := fun b => w.heap.size ≤ b) ?_ (Keeps.refl Nob _) (fun _ _ _ => id) (fun b h1 h2 => ⟨h2, h1⟩)
           exact JX.close HKS.out.strs (OwnJ.js ⟨_, _, HJ.out⟩)
         · rw [HR2.out] at hy; injection hy with hy; rw [← hy]
         · rw [HR2.out]; exact Hr1.out
       · have hcb : (hx == 125) = false := beq_eq_false_iff_ne.2 hc
         have HL2 := Lib.hid (show LI 125 (stepP (40 - d)) R0 (ks ++ [key], acc ++ [j6]) (behind x4) from Hst2.out.2 (fun q2 e => hc (by rw [← hhx, e]; rfl)))
         have Hbe := Lib.hid (show lenX (behind x4) ≤ s.length ∧ n + 1 + lenX (behind x4) ≤ 1000002 from by have h1 := behind_len x4; have h2 := Hin.out; have h3 := Hl.out; omega)
         clear hc hhx Hst2 Hin
         go_wp2_with (first
          | (go_at_call 82; go_must (refine (peek82 Hr.out).mono ?_; rintro e w11 ⟨rfl, hk6⟩; rw [Hhx.out])
             have Hr := Lib.hid (Hr.out.keep hk6 id)
             have Hb4 := Lib.hid (hk6.blk Hb4.out id)
             have Hb5 := Lib.hid (hk6.blk Hb5.out id)
             have HJ := Lib.hid (HJ.out.keep hk6 (fun _ _ e => e.elim))
             have HKS := Lib.hid (HKS.out.keep hk6 (fun _ _ => id))
             have HK := Lib.hid (HK.out.then hk6)
             clear hk6
             (try simp only [PU]))
          | (go_at_call 83; go_must (refine (take83 Hr.out ⟨#[44]⟩ (by decide)).mono ?_; rintro e w12 ⟨⟨y, rfl⟩, hr6, hk6⟩)
             have Hr := Lib.hid (show Rf w12 r T (takeX [44] (blanksX x4)) from hr6)
             have Hb5 := Lib.hid (Keeps.blk hk6 Hb5.out Hne.out.1)
             have Hb4 := Lib.hid (Keeps.blk hk6 Hb4.out Hne.out.2.1)
             have HJ := Lib.hid (HJ.out.keep hk6 (fun b _ e => .inl (by have := Hne.out.2.2.1; omega)))
             have HKS := Lib.hid (HKS.out.keep hk6 (fun q' e h => by have h1 := (HKS.out.lt q' e).1; have h2 := Hne.out.2.2.1; omega))
             have HK := Lib.hid (HK.out.trans hk6 (fun _ _ h => h))
             clear hr6 hk6
             (try simp only [PU]))
          | (go_at_call 48; go_must (refine (blanks48 Hr.out).mono ?_; rintro e w10 ⟨⟨y, rfl⟩, hr6, hk6⟩)
             have Hr := Lib.hid hr6
             have Hb5 := Lib.hid (Keeps.blk hk6 Hb5.out Hne.out.1)
             have Hb4 := Lib.hid (Keeps.blk hk6 Hb4.out Hne.out.2.1)
             have HJ := Lib.hid (HJ.out.keep hk6 (fun b _ e => .inl (by have := Hne.out.2.2.1; omega)))
             have HKS := Lib.hid (HKS.out.keep hk6 (fun q' e h => by have h1 := (HKS.out.lt q' e).1; have h2 := Hne.out.2.2.1; omega))
             have HK := Lib.hid (HK.out.trans hk6 (fun _ _ h => h))
             clear hr6 hk6
             (try simp only [PU]))
         )
         go_roundg (lenX (behind x4))
         case measure => have := Hl.out.1; have := Hbe.out.1; omega
         case rel => exact ⟨behind x4, some ⟨gq, 0, none⟩, some ⟨gv, 0, none⟩, cq, cv, n + 1, ks ++ [key], acc ++ [j6], _, _, Nat.le_refl _, Hbe.out.2, Lib.hid ⟨by rw [List.length_append, Hn.out.1]; rfl, by rw [List.length_append, Hn.out.2]; rfl⟩, Hr, Hb5, Hb4, HKS, HJ, HL2, HK⟩
end Go.Proofs.WV

namespace Go.Proofs.WM

theorem quoteB_ge (s : Bs) : s.length + 2 ≤ (quoteB s).length := by
 have h : s.length ≤ (s.flatMap esc).length := by
  induction s with
  | nil => exact Nat.le_refl _
  | cons c q ih =>
    have hc : 1 ≤ (esc c).length := by
     unfold esc
     split
     · simp
     split
     · simp
     split <;> simp
    simp only [List.flatMap_cons, List.length_append, List.length_cons]
    omega
 simp only [quoteB, List.length_append, List.length_cons, List.length_nil]
 omega
theorem lens_joinC : ∀ ps : List Bs, lens ps ≤ (joinC ps).length
 | [] => Nat.le_refl _
 | p :: ps => by
   have h : ∀ l : List Bs, lens l ≤ (l.flatMap (44 :: ·)).length := by
    intro l
    induction l with
    | nil => exact Nat.le_refl _
    | cons x l ih => simp only [lens, List.map_cons, List.sum_cons, List.flatMap_cons, List.length_append, List.length_cons] at ih ⊢; omega
   have := h ps
   simp only [lens, joinC, List.map_cons, List.sum_cons, List.length_append] at this ⊢
   omega
theorem lens_zip : ∀ (ks : List ByteArray) (ps : List Bs), ks.length = ps.length → (ks.map ByteArray.size).sum + 3 * ks.length + lens ps ≤ lens (List.zipWith (fun q p => quoteB (bl q) ++ [58] ++ p) ks ps)
 | [], [], _ => Nat.le_refl _
 | k :: ks, p :: ps, h => by
   have h1 := lens_zip ks ps (by simpa using h)
   have h2 := quoteB_ge (bl k)
   rw [bl_len] at h2
   simp only [lens, List.map_cons, List.sum_cons, List.zipWith_cons_cons, List.length_append, List.length_cons, List.length_nil] at h1 ⊢
   omega
 | [], _ :: _, h => by simp at h
 | _ :: _, [], h => by simp at h
theorem itoa_pos (n : Int) : 1 ≤ (Lib.itoa n).length := by
 obtain ⟨c, q, e, _⟩ := itoa_head (n := n)
 rw [e]
 simp
mutual
theorem size_text : ∀ j : J, formedJ j = true → sizeJ j ≤ 2 * (textJ j).length
 | .mk k b n t ks vs, hf => by
   unfold formedJ at hf
   simp only [fineJ, Bool.and_eq_true, Bool.or_eq_true, decide_eq_true_eq, Bool.not_eq_true', decide_eq_false_iff_not] at hf
   obtain ⟨⟨⟨⟨⟨⟨⟨⟨⟨⟨h1, h2⟩, hb⟩, hn⟩, ht⟩, hks⟩, hvs⟩, hr⟩, hlen⟩, hnd⟩, hfl⟩ := hf
   have hl := size_textL vs hfl
   have hi := itoa_pos n
   have hq := quoteB_ge (bl t)
   rw [bl_len] at hq
   have hj := lens_joinC (textL vs)
   have hjz := lens_joinC (List.zipWith (fun q p => quoteB (bl q) ++ [58] ++ p) ks (textL vs))
   have ht0 : k ≠ 4 → t.size = 0 := fun h => by
    have h' := ht.resolve_right h
    rw [← bl_len, h']; rfl
   have hk0 : k ≠ 6 → ks = [] := fun h => hks.resolve_right h
   have hv0 : k < 5 → vs = [] := fun h => by
    rcases hvs with h' | h'
    · exact List.length_eq_zero_iff.1 h'
    · omega
   unfold textJ sizeJ
   split
   · rw [ht0 (by omega), hk0 (by omega), hv0 (by omega)]; simp [sizeL]
   split
   · rw [ht0 (by omega), hk0 (by omega), hv0 (by omega)]; split <;> simp [sizeL]
   split
   · rw [ht0 (by omega), hk0 (by omega), hv0 (by omega)]; simp only [List.length_nil, List.map_nil, List.sum_nil, sizeL]; omega
   split
   · rw [hk0 (by omega), hv0 (by omega)]; simp only [List.length_nil, List.map_nil, List.sum_nil, sizeL]; omega
   split
   · rw [ht0 (by omega), hk0 (by omega)]; simp only [List.length_append, List.length_cons, List.length_nil, List.map_nil, List.sum_nil]; omega
   · have h6 : k = 6 := by omega
     have hl6 : ks.length = vs.length := hlen.resolve_left (fun h => h h6)
     have hz := lens_zip ks (textL vs) (by rw [textL_length, hl6])
     rw [ht0 (by omega)]
     simp only [List.length_append, List.length_cons, List.length_nil]
     omega
theorem size_textL : ∀ vs : List J, formedL vs = true → sizeL vs ≤ 2 * lens (textL vs)
 | [], _ => Nat.le_refl _
 | v :: vs, hf => by
   simp only [formedL, Bool.and_eq_true] at hf
   have h1 := size_text v hf.1
   have h2 := size_textL vs hf.2
   simp only [lens, textL, List.map_cons, List.sum_cons, sizeL] at h2 ⊢
   omega
end
def zJ : J := .mk 0 false 0 ByteArray.empty [] []
def readW (T : ByteArray) : J × Int × Int :=
 if 1000000 < T.size then (zJ, 0, 3) else match readJ (bl T) with
 | .error a => (zJ, a, 4)
 | .ok j => if checkJ j = 0 then (j, 0, 0) else (zJ, 0, 3)
theorem read_size {f : Nat} {s r : Bs} {j : J} (h : valueF f 40 s = .ok (j, r)) : sizeJ j ≤ 34 * s.length := by
 have h1 := (read_ok f).1 40 s j r (by decide) h
 have h2 := size_text j h1.2.1
 have h3 := h1.2.2.2
 omega
end Go.Proofs.WM

namespace Go.Proofs.WV
open Go.RowKit Go.Proofs.KL Go.Proofs.WM
set_option maxRecDepth 100000
set_option linter.unusedSimpArgs false
set_option linter.unusedVariables false

theorem zvalU {W : World} {X : Nat → Prop} : JX W X (.agg #[.int .i64 0, .bool false, .int .i64 0, .string ByteArray.empty, .slice none 0 0, .slice none 0 0]) zJ := JX.close (strs_nil _ _) (js_nil _ _)
def wordR (j : J) : Except Nat Bs → R J
 | .ok r => .ok (j, r)
 | .error e => .error e
theorem wordR_st (j : J) (x : Except Nat Bs) : stX (wordR j x) = x := by cases x <;> rfl
def textR : R Bs → R J
 | .ok x => .ok (.mk 4 false 0 (mkB x.1) [] [], x.2)
 | .error e => .error e
theorem textR_st (x : R Bs) : stX (textR x) = stX x := by cases x <;> rfl
def intR : R Int → R J
 | .ok x => .ok (.mk 3 false x.1 ByteArray.empty [] [], x.2)
 | .error e => .error e
theorem intR_st (x : R Int) : stX (intR x) = stX x := by cases x <;> rfl
theorem v_null (f dp : Nat) (q : Bs) : valueF (f + 1) dp (110 :: q) = wordR (.mk 1 false 0 ByteArray.empty [] []) (wordB [110, 117, 108, 108] (110 :: q)) := by
 unfold valueF
 rw [if_pos rfl]
 cases wordB [110, 117, 108, 108] (110 :: q) <;> rfl
theorem v_true (f dp : Nat) (q : Bs) : valueF (f + 1) dp (116 :: q) = wordR (.mk 2 true 0 ByteArray.empty [] []) (wordB [116, 114, 117, 101] (116 :: q)) := by
 unfold valueF
 rw [if_neg (by decide), if_pos rfl]
 cases wordB [116, 114, 117, 101] (116 :: q) <;> rfl
theorem v_false (f dp : Nat) (q : Bs) : valueF (f + 1) dp (102 :: q) = wordR (.mk 2 false 0 ByteArray.empty [] []) (wordB [102, 97, 108, 115, 101] (102 :: q)) := by
 unfold valueF
 rw [if_neg (by decide), if_neg (by decide), if_pos rfl]
 cases wordB [102, 97, 108, 115, 101] (102 :: q) <;> rfl
theorem v_text (f dp : Nat) (q : Bs) : valueF (f + 1) dp (34 :: q) = textR (strB (34 :: q)) := by
 unfold valueF
 rw [if_neg (by decide), if_neg (by decide), if_neg (by decide), if_pos rfl]
 cases strB (34 :: q) <;> rfl
theorem v_int (f dp : Nat) {c : UInt8} (q : Bs) (h : ¬ c = 110 ∧ ¬ c = 116 ∧ ¬ c = 102 ∧ ¬ c = 34) (hc : c = 45 ∨ isDigit c = true) : valueF (f + 1) dp (c :: q) = intR (intB (c :: q)) := by
 unfold valueF
 rw [if_neg h.1, if_neg h.2.1, if_neg h.2.2.1, if_neg h.2.2.2, if_pos hc]
 cases intB (c :: q) <;> rfl
theorem v_bad (f dp : Nat) {c : UInt8} (q : Bs) (h : ¬ c = 110 ∧ ¬ c = 116 ∧ ¬ c = 102 ∧ ¬ c = 34) (hc : ¬ (c = 45 ∨ isDigit c = true)) (h2 : ¬ c = 91 ∧ ¬ c = 123) : valueF (f + 1) dp (c :: q) = .error (q.length + 1) := by
 unfold valueF
 rw [if_neg h.1, if_neg h.2.1, if_neg h.2.2.1, if_neg h.2.2.2, if_neg hc, if_neg h2.1, if_neg h2.2]
theorem u8_neq {c k : UInt8} (h : ¬ c = k) {cv : Int} (hc : (c.toNat : Int) = cv) : ¬ cv = (k.toNat : Int) := fun e => h (UInt8.toNat_inj.1 (by omega))
set_option maxHeartbeats 8000000 in
theorem value49 (d : Nat) (hV : d < 40 → ValS (d + 1)) : ValS d := by
 intro z f x w r T hz hf h
 obtain ⟨i25, hi25, hs25⟩ := info25
 have HI := Lib.hid (And.intro hi25 hs25)
 have Hrw := Lib.hid h.lt
 have Hr := Lib.hid h
 have HK := Lib.hid (Keeps.refl (· = r) w)
 have Hz := Lib.hid hz
 have hT := h.len
 clear hi25 hs25
 by_cases hd : d < 40
 · have hz40 : ¬ 40 ≤ z := by omega
   cases x with
   | error m =>
     obtain ⟨a, hbk, -, -, -⟩ := id Hr.out
     have Hbr := Lib.hid hbk
     have Hfl := Lib.hid (fun (W : World) (hr : Rf W r T (.error m)) => failB hr (a : Nat))
     have HR2 := Lib.hid (show inX f d (.error m) = .error m from rfl)
     have Hhd := Lib.hid (show headX (.error m) = 0 from rfl)
     clear hz hf h hV hbk
     go_enter Tryd.func49, Tryd.ntmps49
     go_wp2_with (first
      | ((with_reducible refine at_dst (N := 4) rfl ?_); go_must (refine ev_alloc rfl rfl zero25 rfl ?_; intro g4 w1 hg4 hl4 hb4 hk4)
         have Hb4 := Lib.hid hb4
         have Hg4 := Lib.hid hg4
         have Hr := Lib.hid (Hr.out.keep hk4 id)
         have Hbr := Lib.hid (hk4.blk Hbr.out id)
         have HK := Lib.hid (HK.out.then hk4)
         have Hne := Lib.hid (show ¬ g4 = r from fun e => by have := Hrw.out; omega)
         have r1 := (blk_cell Hbr.out 1).trans rfl
         clear hb4 hk4 hg4 hl4
         (try simp only [PU]))
      | (go_at_call 82; go_must (refine (peek82 Hr.out).mono ?_; rintro e w2 ⟨rfl, hk5⟩; rw [Hhd.out])
         have Hb4 := Lib.hid (hk5.blk Hb4.out id)
         have Hr := Lib.hid (Hr.out.keep hk5 id)
         have Hbr := Lib.hid (hk5.blk Hbr.out id)
         have HK := Lib.hid (HK.out.then hk5)
         clear hk5 r1
         have r1 := (blk_cell Hbr.out 1).trans rfl
         (try simp only [PU]))
      | (go_at_call 50; go_must (refine (Hfl.out _ Hr.out).mono ?_; rintro e w3 ⟨⟨y, rfl⟩, hr6, hk6⟩)
         have Hb4 := Lib.hid (hk6.blk Hb4.out Hne.out)
         have Hr := Lib.hid hr6
         have HK := Lib.hid (HK.out.trans hk6 (fun _ _ h => h))
         clear hr6 hk6 r1
         (try simp only [PU]))
      | ((with_reducible refine at_store (t := 25) (p := 4) rfl ?_); go_must (refine ev_store (cs' := #[.int .i64 0, .bool false, .int .i64 0, .string ByteArray.empty, .slice none 0 0, .slice none 0 0]) rfl rfl rfl rfl rfl rfl HI.out.1 HI.out.2 rfl Hb4.out (Nat.le_of_ble_eq_true rfl) rfl ?_; intro w9 hb9 hk9)
         have Hr := Lib.hid (Hr.out.keep hk9 (fun e => Hne.out e.symm))
         (try have HVc := Lib.hid (HVc.out.keep (X' := fun b => w.heap.size ≤ b ∧ b < w9.heap.size) hk9 (fun b _ hb e => by have h1 := hb.1; have h2 := blk_lt Hb4.out; omega) (fun b hb h => ⟨by have h1 := HKs.out; have h2 := h.1; omega, Nat.lt_of_lt_of_le hb hk9.size⟩)))
         have HK := Lib.hid (show Keeps (· = r) w w9 from HK.out.trans hk9 (fun i hi e => by have := Hg4.out; omega))
         have Hb4 := Lib.hid hb9
         clear hb9 hk9
         have d0 := (blk_cell Hb4.out 0).trans rfl
         have d1 := (blk_cell Hb4.out 1).trans rfl
         have d2 := (blk_cell Hb4.out 2).trans rfl
         have d3 := (blk_cell Hb4.out 3).trans rfl
         have d4 := (blk_cell Hb4.out 4).trans rfl
         have d5 := (blk_cell Hb4.out 5).trans rfl
         (try simp only [PU]))
     )
     refine bodyPost_ret (v := .agg #[.int .i64 0, .bool false, .int .i64 0, .string ByteArray.empty, .slice none 0 0, .slice none 0 0]) (by rw [results_cell1 rfl]; go_simp) rfl ?_
     refine ⟨⟨_, zJ, rfl, zvalU, fun y hy => ?_⟩, ?_, HK.out⟩
     · rw [HR2.out] at hy; cases hy
     · rw [HR2.out]; exact Hr.out
   | ok s =>
     have hfs := hf s rfl
     obtain ⟨f', rfl⟩ : ∃ g, f = g + 1 + 1 := ⟨f - 2, by omega⟩
     have Hinn := Lib.hid (show inX (f' + 1 + 1) d (.ok s) = valueF (f' + 1) (40 - d) s by
      show innerF (f' + 1 + 1) (41 - d) s = _
      unfold innerF
      rw [if_neg (by omega), show 41 - d - 1 = 40 - d by omega])
     have hfl := hfs
     clear hf hfs
     cases s with
     | nil =>
       obtain ⟨a, hbk, -, ha, -⟩ := Hr.out.good
       have Hbr := Lib.hid hbk
       have Hfl := Lib.hid (fun (W : World) (hr : Rf W r T (.ok [])) => failG hr 0 (Nat.zero_le _) (a : Nat) (by rw [← ha]; rfl))
       have HR2 := Lib.hid (show inX (f' + 1 + 1) d (.ok []) = .error 0 by rw [Hinn.out]; unfold valueF; rfl)
       have Hhd := Lib.hid (show headX (.ok []) = 0 from rfl)
       clear hz h hV hd hbk ha hfl Hinn
       go_enter Tryd.func49, Tryd.ntmps49
       go_wp2_with (first
        | ((with_reducible refine at_dst (N := 4) rfl ?_); go_must (refine ev_alloc rfl rfl zero25 rfl ?_; intro g4 w1 hg4 hl4 hb4 hk4)
           have Hb4 := Lib.hid hb4
           have Hg4 := Lib.hid hg4
           have Hr := Lib.hid (Hr.out.keep hk4 id)
           have Hbr := Lib.hid (hk4.blk Hbr.out id)
           have HK := Lib.hid (HK.out.then hk4)
           have Hne := Lib.hid (show ¬ g4 = r from fun e => by have := Hrw.out; omega)
           have r1 := (blk_cell Hbr.out 1).trans rfl
           clear hb4 hk4 hg4 hl4
           (try simp only [PU]))
        | (go_at_call 82; go_must (refine (peek82 Hr.out).mono ?_; rintro e w2 ⟨rfl, hk5⟩; rw [Hhd.out])
           have Hb4 := Lib.hid (hk5.blk Hb4.out id)
           have Hr := Lib.hid (Hr.out.keep hk5 id)
           have Hbr := Lib.hid (hk5.blk Hbr.out id)
           have HK := Lib.hid (HK.out.then hk5)
           clear hk5 r1
           have r1 := (blk_cell Hbr.out 1).trans rfl
           (try simp only [PU]))
        | (go_at_call 50; go_must (refine (Hfl.out _ Hr.out).mono ?_; rintro e w3 ⟨⟨y, rfl⟩, hr6, hk6⟩)
           have Hb4 := Lib.hid (hk6.blk Hb4.out Hne.out)
           have Hr := Lib.hid hr6
           have HK := Lib.hid (HK.out.trans hk6 (fun _ _ h => h))
           clear hr6 hk6 r1
           (try simp only [PU]))
        | ((with_reducible refine at_store (t := 25) (p := 4) rfl ?_); go_must (refine ev_store (cs' := #[.int .i64 0, .bool false, .int .i64 0, .string ByteArray.empty, .slice none 0 0, .slice none 0 0]) rfl rfl rfl rfl rfl rfl HI.out.1 HI.out.2 rfl Hb4.out (Nat.le_of_ble_eq_true rfl) rfl ?_; intro w9 hb9 hk9)
           have Hr := Lib.hid (Hr.out.keep hk9 (fun e => Hne.out e.symm))
           (try have HVc := Lib.hid (HVc.out.keep (X' := fun b => w.heap.size ≤ b ∧ b < w9.heap.size) hk9 (fun b _ hb e => by have h1 := hb.1; have h2 := blk_lt Hb4.out; omega) (fun b hb h => ⟨by have h1 := HKs.out; have h2 := h.1; omega, Nat.lt_of_lt_of_le hb hk9.size⟩)))
           have HK := Lib.hid (show Keeps (· = r) w w9 from HK.out.trans hk9 (fun i hi e => by have := Hg4.out; omega))
           have Hb4 := Lib.hid hb9
           clear hb9 hk9
           have d0 := (blk_cell Hb4.out 0).trans rfl
           have d1 := (blk_cell Hb4.out 1).trans rfl
           have d2 := (blk_cell Hb4.out 2).trans rfl
           have d3 := (blk_cell Hb4.out 3).trans rfl
           have d4 := (blk_cell Hb4.out 4).trans rfl
           have d5 := (blk_cell Hb4.out 5).trans rfl
           (try simp only [PU]))
       )
       refine bodyPost_ret (v := .agg #[.int .i64 0, .bool false, .int .i64 0, .string ByteArray.empty, .slice none 0 0, .slice none 0 0]) (by rw [results_cell1 rfl]; go_simp) rfl ?_
       refine ⟨⟨_, zJ, rfl, zvalU, fun y hy => ?_⟩, ?_, HK.out⟩
       · rw [HR2.out] at hy; cases hy
       · rw [HR2.out]; exact Hr.out
     | cons c q =>
       by_cases h1 : c = 110
       · subst h1
         clear hz h hV hd
         have hR := v_null f' (40 - d) q
         have Hhd := Lib.hid (show headX (.ok (110 :: q)) = 110 from rfl)
         have HR2 := Lib.hid (show inX (f' + 1 + 1) d (.ok (110 :: q)) = wordR (.mk 1 false 0 ByteArray.empty [] []) (wordB [110, 117, 108, 108] (110 :: q)) by rw [Hinn.out]; exact hR)
         rw [HR2.out]
         clear hR HR2 Hinn hfl
         go_enter Tryd.func49, Tryd.ntmps49
         go_wp2_with (first
          | ((with_reducible refine at_dst (N := 4) rfl ?_); go_must (refine ev_alloc rfl rfl zero25 rfl ?_; intro g4 w1 hg4 hl4 hb4 hk4)
             have Hb4 := Lib.hid hb4
             have Hg4 := Lib.hid hg4
             have Hr := Lib.hid (Hr.out.keep hk4 id)
             have HK := Lib.hid (HK.out.then hk4)
             have Hne := Lib.hid (show ¬ g4 = r from fun e => by have := Hrw.out; omega)
             clear hb4 hk4 hg4 hl4
             (try simp only [PU]))
          | (go_at_call 82; go_must (refine (peek82 Hr.out).mono ?_; rintro e w2 ⟨rfl, hk5⟩; rw [Hhd.out])
             have Hb4 := Lib.hid (hk5.blk Hb4.out id)
             have Hr := Lib.hid (Hr.out.keep hk5 id)
             have HK := Lib.hid (HK.out.then hk5)
             clear hk5
             (try simp only [PU]))
          | (go_at_call 83; go_must (refine (take83 Hr.out ⟨#[110, 117, 108, 108]⟩ (by decide)).mono ?_; rintro e w3 ⟨⟨y, rfl⟩, hr6, hk6⟩)
             have Hb4 := Lib.hid (hk6.blk Hb4.out Hne.out)
             have Hr := Lib.hid (show Rf w3 r T (wordB [110, 117, 108, 108] (110 :: q)) from hr6)
             have HK := Lib.hid (HK.out.trans hk6 (fun _ _ h => h))
             clear hr6 hk6
             (try simp only [PU]))
          | ((with_reducible refine at_store (t := 25) (p := 4) rfl ?_); go_must (refine ev_store (cs' := #[.int .i64 1, .bool false, .int .i64 0, .string ByteArray.empty, .slice none 0 0, .slice none 0 0]) rfl rfl rfl rfl rfl rfl HI.out.1 HI.out.2 rfl Hb4.out (Nat.le_of_ble_eq_true rfl) rfl ?_; intro w9 hb9 hk9)
             have Hr := Lib.hid (Hr.out.keep hk9 (fun e => Hne.out e.symm))
             (try have HVc := Lib.hid (HVc.out.keep (X' := fun b => w.heap.size ≤ b ∧ b < w9.heap.size) hk9 (fun b _ hb e => by have h1 := hb.1; have h2 := blk_lt Hb4.out; omega) (fun b hb h => ⟨by have h1 := HKs.out; have h2 := h.1; omega, Nat.lt_of_lt_of_le hb hk9.size⟩)))
             have HK := Lib.hid (show Keeps (· = r) w w9 from HK.out.trans hk9 (fun i hi e => by have := Hg4.out; omega))
             have Hb4 := Lib.hid hb9
             clear hb9 hk9
             have d0 := (blk_cell Hb4.out 0).trans rfl
             have d1 := (blk_cell Hb4.out 1).trans rfl
             have d2 := (blk_cell Hb4.out 2).trans rfl
             have d3 := (blk_cell Hb4.out 3).trans rfl
             have d4 := (blk_cell Hb4.out 4).trans rfl
             have d5 := (blk_cell Hb4.out 5).trans rfl
             (try simp only [PU]))
         )
         refine bodyPost_ret (v := .agg #[.int .i64 1, .bool false, .int .i64 0, .string ByteArray.empty, .slice none 0 0, .slice none 0 0]) (by rw [results_cell1 rfl]; go_simp) rfl ?_
         refine ⟨⟨_, .mk 1 false 0 ByteArray.empty [] [], rfl, JX.close (strs_nil _ _) (js_nil _ _), fun y hy => ?_⟩, ?_, HK.out⟩
         · cases hw : wordB [110, 117, 108, 108] (110 :: q) with
           | error m => rw [hw] at hy; cases hy
           | ok r1 => rw [hw] at hy; injection hy with hy; rw [← hy]
         · rw [wordR_st]; exact Hr.out
       by_cases h2 : c = 116
       · subst h2
         clear hz h hV hd h1
         have hR := v_true f' (40 - d) q
         have Hhd := Lib.hid (show headX (.ok (116 :: q)) = 116 from rfl)
         have HR2 := Lib.hid (show inX (f' + 1 + 1) d (.ok (116 :: q)) = wordR (.mk 2 true 0 ByteArray.empty [] []) (wordB [116, 114, 117, 101] (116 :: q)) by rw [Hinn.out]; exact hR)
         rw [HR2.out]
         clear hR HR2 Hinn hfl
         go_enter Tryd.func49, Tryd.ntmps49
         go_wp2_with (first
          | ((with_reducible refine at_dst (N := 4) rfl ?_); go_must (refine ev_alloc rfl rfl zero25 rfl ?_; intro g4 w1 hg4 hl4 hb4 hk4)
             have Hb4 := Lib.hid hb4
             have Hg4 := Lib.hid hg4
             have Hr := Lib.hid (Hr.out.keep hk4 id)
             have HK := Lib.hid (HK.out.then hk4)
             have Hne := Lib.hid (show ¬ g4 = r from fun e => by have := Hrw.out; omega)
             clear hb4 hk4 hg4 hl4
             (try simp only [PU]))
          | (go_at_call 82; go_must (refine (peek82 Hr.out).mono ?_; rintro e w2 ⟨rfl, hk5⟩; rw [Hhd.out])
             have Hb4 := Lib.hid (hk5.blk Hb4.out id)
             have Hr := Lib.hid (Hr.out.keep hk5 id)
             have HK := Lib.hid (HK.out.then hk5)
             clear hk5
             (try simp only [PU]))
          | (go_at_call 83; go_must (refine (take83 Hr.out ⟨#[116, 114, 117, 101]⟩ (by decide)).mono ?_; rintro e w3 ⟨⟨y, rfl⟩, hr6, hk6⟩)
             have Hb4 := Lib.hid (hk6.blk Hb4.out Hne.out)
             have Hr := Lib.hid (show Rf w3 r T (wordB [116, 114, 117, 101] (116 :: q)) from hr6)
             have HK := Lib.hid (HK.out.trans hk6 (fun _ _ h => h))
             clear hr6 hk6
             (try simp only [PU]))
          | ((with_reducible refine at_store (t := 25) (p := 4) rfl ?_); go_must (refine ev_store (cs' := #[.int .i64 2, .bool true, .int .i64 0, .string ByteArray.empty, .slice none 0 0, .slice none 0 0]) rfl rfl rfl rfl rfl rfl HI.out.1 HI.out.2 rfl Hb4.out (Nat.le_of_ble_eq_true rfl) rfl ?_; intro w9 hb9 hk9)
             have Hr := Lib.hid (Hr.out.keep hk9 (fun e => Hne.out e.symm))
             (try have HVc := Lib.hid (HVc.out.keep (X' := fun b => w.heap.size ≤ b ∧ b < w9.heap.size) hk9 (fun b _ hb e => by have h1 := hb.1; have h2 := blk_lt Hb4.out; omega) (fun b hb h => ⟨by have h1 := HKs.out; have h2 := h.1; omega, Nat.lt_of_lt_of_le hb hk9.size⟩)))
             have HK := Lib.hid (show Keeps (· = r) w w9 from HK.out.trans hk9 (fun i hi e => by have := Hg4.out; omega))
             have Hb4 := Lib.hid hb9
             clear hb9 hk9
             have d0 := (blk_cell Hb4.out 0).trans rfl
             have d1 := (blk_cell Hb4.out 1).trans rfl
             have d2 := (blk_cell Hb4.out 2).trans rfl
             have d3 := (blk_cell Hb4.out 3).trans rfl
             have d4 := (blk_cell Hb4.out 4).trans rfl
             have d5 := (blk_cell Hb4.out 5).trans rfl
             (try simp only [PU]))
         )
         refine bodyPost_ret (v := .agg #[.int .i64 2, .bool true, .int .i64 0, .string ByteArray.empty, .slice none 0 0, .slice none 0 0]) (by rw [results_cell1 rfl]; go_simp) rfl ?_
         refine ⟨⟨_, .mk 2 true 0 ByteArray.empty [] [], rfl, JX.close (strs_nil _ _) (js_nil _ _), fun y hy => ?_⟩, ?_, HK.out⟩
         · cases hw : wordB [116, 114, 117, 101] (116 :: q) with
           | error m => rw [hw] at hy; cases hy
           | ok r1 => rw [hw] at hy; injection hy with hy; rw [← hy]
         · rw [wordR_st]; exact Hr.out
       by_cases h3 : c = 102
       · subst h3
         clear hz h hV hd h1 h2
         have hR := v_false f' (40 - d) q
         have Hhd := Lib.hid (show headX (.ok (102 :: q)) = 102 from rfl)
         have HR2 := Lib.hid (show inX (f' + 1 + 1) d (.ok (102 :: q)) = wordR (.mk 2 false 0 ByteArray.empty [] []) (wordB [102, 97, 108, 115, 101] (102 :: q)) by rw [Hinn.out]; exact hR)
         rw [HR2.out]
         clear hR HR2 Hinn hfl
         go_enter Tryd.func49, Tryd.ntmps49
         go_wp2_with (first
          | ((with_reducible refine at_dst (N := 4) rfl ?_); go_must (refine ev_alloc rfl rfl zero25 rfl ?_; intro g4 w1 hg4 hl4 hb4 hk4)
             have Hb4 := Lib.hid hb4
             have Hg4 := Lib.hid hg4
             have Hr := Lib.hid (Hr.out.keep hk4 id)
             have HK := Lib.hid (HK.out.then hk4)
             have Hne := Lib.hid (show ¬ g4 = r from fun e => by have := Hrw.out; omega)
             clear hb4 hk4 hg4 hl4
             (try simp only [PU]))
          | (go_at_call 82; go_must (refine (peek82 Hr.out).mono ?_; rintro e w2 ⟨rfl, hk5⟩; rw [Hhd.out])
             have Hb4 := Lib.hid (hk5.blk Hb4.out id)
             have Hr := Lib.hid (Hr.out.keep hk5 id)
             have HK := Lib.hid (HK.out.then hk5)
             clear hk5
             (try simp only [PU]))
          | (go_at_call 83; go_must (refine (take83 Hr.out ⟨#[102, 97, 108, 115, 101]⟩ (by decide)).mono ?_; rintro e w3 ⟨⟨y, rfl⟩, hr6, hk6⟩)
             have Hb4 := Lib.hid (hk6.blk Hb4.out Hne.out)
             have Hr := Lib.hid (show Rf w3 r T (wordB [102, 97, 108, 115, 101] (102 :: q)) from hr6)
             have HK := Lib.hid (HK.out.trans hk6 (fun _ _ h => h))
             clear hr6 hk6
             (try simp only [PU]))
          | ((with_reducible refine at_store (t := 25) (p := 4) rfl ?_); go_must (refine ev_store (cs' := #[.int .i64 2, .bool false, .int .i64 0, .string ByteArray.empty, .slice none 0 0, .slice none 0 0]) rfl rfl rfl rfl rfl rfl HI.out.1 HI.out.2 rfl Hb4.out (Nat.le_of_ble_eq_true rfl) rfl ?_; intro w9 hb9 hk9)
             have Hr := Lib.hid (Hr.out.keep hk9 (fun e => Hne.out e.symm))
             (try have HVc := Lib.hid (HVc.out.keep (X' := fun b => w.heap.size ≤ b ∧ b < w9.heap.size) hk9 (fun b _ hb e => by have h1 := hb.1; have h2 := blk_lt Hb4.out; omega) (fun b hb h => ⟨by have h1 := HKs.out; have h2 := h.1; omega, Nat.lt_of_lt_of_le hb hk9.size⟩)))
             have HK := Lib.hid (show Keeps (· = r) w w9 from HK.out.trans hk9 (fun i hi e => by have := Hg4.out; omega))
             have Hb4 := Lib.hid hb9
             clear hb9 hk9
             have d0 := (blk_cell Hb4.out 0).trans rfl
             have d1 := (blk_cell Hb4.out 1).trans rfl
             have d2 := (blk_cell Hb4.out 2).trans rfl
             have d3 := (blk_cell Hb4.out 3).trans rfl
             have d4 := (blk_cell Hb4.out 4).trans rfl
             have d5 := (blk_cell Hb4.out 5).trans rfl
             (try simp only [PU]))
         )
         refine bodyPost_ret (v := .agg #[.int .i64 2, .bool false, .int .i64 0, .string ByteArray.empty, .slice none 0 0, .slice none 0 0]) (by rw [results_cell1 rfl]; go_simp) rfl ?_
         refine ⟨⟨_, .mk 2 false 0 ByteArray.empty [] [], rfl, JX.close (strs_nil _ _) (js_nil _ _), fun y hy => ?_⟩, ?_, HK.out⟩
         · cases hw : wordB [102, 97, 108, 115, 101] (102 :: q) with
           | error m => rw [hw] at hy; cases hy
           | ok r1 => rw [hw] at hy; injection hy with hy; rw [← hy]
         · rw [wordR_st]; exact Hr.out
       by_cases h4 : c = 34
       · subst h4
         clear hz h hV hd h1 h2 h3
         have Hhd := Lib.hid (show headX (.ok (34 :: q)) = 34 from rfl)
         have HR2 := Lib.hid (show inX (f' + 1 + 1) d (.ok (34 :: q)) = textR (strB (34 :: q)) by rw [Hinn.out]; exact v_text f' (40 - d) q)
         rw [HR2.out]
         clear HR2 Hinn hfl
         go_enter Tryd.func49, Tryd.ntmps49
         go_wp2_with (first
          | ((with_reducible refine at_dst (N := 4) rfl ?_); go_must (refine ev_alloc rfl rfl zero25 rfl ?_; intro g4 w1 hg4 hl4 hb4 hk4)
             have Hb4 := Lib.hid hb4
             have Hg4 := Lib.hid hg4
             have Hr := Lib.hid (Hr.out.keep hk4 id)
             have HK := Lib.hid (HK.out.then hk4)
             have Hne := Lib.hid (show ¬ g4 = r from fun e => by have := Hrw.out; omega)
             clear hb4 hk4 hg4 hl4
             (try simp only [PU]))
          | (go_at_call 82; go_must (refine (peek82 Hr.out).mono ?_; rintro e w2 ⟨rfl, hk5⟩; rw [Hhd.out])
             have Hb4 := Lib.hid (hk5.blk Hb4.out id)
             have Hr := Lib.hid (Hr.out.keep hk5 id)
             have HK := Lib.hid (HK.out.then hk5)
             clear hk5
             (try simp only [PU]))
          | (go_at_call 84; go_must (refine (text84 Hr.out).mono ?_; rintro e w3 ⟨⟨t, rfl, ht⟩, hr6, hk6⟩)
             have Ht := Lib.hid ht
             have Hb4 := Lib.hid (hk6.blk Hb4.out Hne.out)
             have Hr := Lib.hid (show Rf w3 r T (stX (strB (34 :: q))) from hr6)
             have HK := Lib.hid (HK.out.trans hk6 (fun _ _ h => h))
             clear ht hr6 hk6
             (try simp only [PU]))
          | ((with_reducible refine at_store (t := 25) (p := 4) rfl ?_); go_must (refine ev_store (cs' := #[.int .i64 4, .bool false, .int .i64 0, .string t, .slice none 0 0, .slice none 0 0]) rfl rfl rfl rfl rfl rfl HI.out.1 HI.out.2 rfl Hb4.out (Nat.le_of_ble_eq_true rfl) rfl ?_; intro w9 hb9 hk9)
             have Hr := Lib.hid (Hr.out.keep hk9 (fun e => Hne.out e.symm))
             (try have HVc := Lib.hid (HVc.out.keep (X' := fun b => w.heap.size ≤ b ∧ b < w9.heap.size) hk9 (fun b _ hb e => by have h1 := hb.1; have h2 := blk_lt Hb4.out; omega) (fun b hb h => ⟨by have h1 := HKs.out; have h2 := h.1; omega, Nat.lt_of_lt_of_le hb hk9.size⟩)))
             have HK := Lib.hid (show Keeps (· = r) w w9 from HK.out.trans hk9 (fun i hi e => by have := Hg4.out; omega))
             have Hb4 := Lib.hid hb9
             clear hb9 hk9
             have d0 := (blk_cell Hb4.out 0).trans rfl
             have d1 := (blk_cell Hb4.out 1).trans rfl
             have d2 := (blk_cell Hb4.out 2).trans rfl
             have d3 := (blk_cell Hb4.out 3).trans rfl
             have d4 := (blk_cell Hb4.out 4).trans rfl
             have d5 := (blk_cell Hb4.out 5).trans rfl
             (try simp only [PU]))
         )
         refine bodyPost_ret (v := .agg #[.int .i64 4, .bool false, .int .i64 0, .string t, .slice none 0 0, .slice none 0 0]) (by rw [results_cell1 rfl]; go_simp) rfl ?_
         refine ⟨⟨_, .mk 4 false 0 t [] [], rfl, JX.close (strs_nil _ _) (js_nil _ _), fun y hy => ?_⟩, ?_, HK.out⟩
         · cases hw : strB (34 :: q) with
           | error m => rw [hw] at hy; cases hy
           | ok r1 => rw [hw] at hy; injection hy with hy; rw [← hy, Ht.out r1 hw]
         · rw [textR_st]; exact Hr.out
       have hn4 := And.intro h1 (And.intro h2 (And.intro h3 h4))
       by_cases h5 : c = 45
       · subst h5
         have Hhd := Lib.hid (show headX (.ok (45 :: q)) = 45 from rfl)
         have HR2 := Lib.hid (show inX (f' + 1 + 1) d (.ok (45 :: q)) = intR (intB (45 :: q)) by rw [Hinn.out]; exact v_int f' (40 - d) q hn4 (.inl rfl))
         clear hz h hV hd h1 h2 h3 h4 hn4
         rw [HR2.out]
         clear HR2 Hinn hfl
         go_enter Tryd.func49, Tryd.ntmps49
         go_wp2_with (first
          | ((with_reducible refine at_dst (N := 4) rfl ?_); go_must (refine ev_alloc rfl rfl zero25 rfl ?_; intro g4 w1 hg4 hl4 hb4 hk4)
             have Hb4 := Lib.hid hb4
             have Hg4 := Lib.hid hg4
             have Hr := Lib.hid (Hr.out.keep hk4 id)
             have HK := Lib.hid (HK.out.then hk4)
             have Hne := Lib.hid (show ¬ g4 = r from fun e => by have := Hrw.out; omega)
             clear hb4 hk4 hg4 hl4
             (try simp only [PU]))
          | (go_at_call 82; go_must (refine (peek82 Hr.out).mono ?_; rintro e w2 ⟨rfl, hk5⟩; rw [Hhd.out])
             have Hb4 := Lib.hid (hk5.blk Hb4.out id)
             have Hr := Lib.hid (Hr.out.keep hk5 id)
             have HK := Lib.hid (HK.out.then hk5)
             clear hk5
             (try simp only [PU]))
          | (go_at_call 85; go_must (refine (num85 Hr.out).mono ?_; rintro e w3 ⟨⟨n, rfl, ht⟩, hr6, hk6⟩)
             have Ht := Lib.hid ht
             have Hb4 := Lib.hid (hk6.blk Hb4.out Hne.out)
             have Hr := Lib.hid (show Rf w3 r T (stX (intB (45 :: q))) from hr6)
             have HK := Lib.hid (HK.out.trans hk6 (fun _ _ h => h))
             clear ht hr6 hk6
             (try simp only [PU]))
          | ((with_reducible refine at_store (t := 25) (p := 4) rfl ?_); go_must (refine ev_store (cs' := #[.int .i64 3, .bool false, .int .i64 n, .string ByteArray.empty, .slice none 0 0, .slice none 0 0]) rfl rfl rfl rfl rfl rfl HI.out.1 HI.out.2 rfl Hb4.out (Nat.le_of_ble_eq_true rfl) rfl ?_; intro w9 hb9 hk9)
             have Hr := Lib.hid (Hr.out.keep hk9 (fun e => Hne.out e.symm))
             (try have HVc := Lib.hid (HVc.out.keep (X' := fun b => w.heap.size ≤ b ∧ b < w9.heap.size) hk9 (fun b _ hb e => by have h1 := hb.1; have h2 := blk_lt Hb4.out; omega) (fun b hb h => ⟨by have h1 := HKs.out; have h2 := h.1; omega, Nat.lt_of_lt_of_le hb hk9.size⟩)))
             have HK := Lib.hid (show Keeps (· = r) w w9 from HK.out.trans hk9 (fun i hi e => by have := Hg4.out; omega))
             have Hb4 := Lib.hid hb9
             clear hb9 hk9
             have d0 := (blk_cell Hb4.out 0).trans rfl
             have d1 := (blk_cell Hb4.out 1).trans rfl
             have d2 := (blk_cell Hb4.out 2).trans rfl
             have d3 := (blk_cell Hb4.out 3).trans rfl
             have d4 := (blk_cell Hb4.out 4).trans rfl
             have d5 := (blk_cell Hb4.out 5).trans rfl
             (try simp only [PU]))
         )
         refine bodyPost_ret (v := .agg #[.int .i64 3, .bool false, .int .i64 n, .string ByteArray.empty, .slice none 0 0, .slice none 0 0]) (by rw [results_cell1 rfl]; go_simp) rfl ?_
         refine ⟨⟨_, .mk 3 false n ByteArray.empty [] [], rfl, JX.close (strs_nil _ _) (js_nil _ _), fun y hy => ?_⟩, ?_, HK.out⟩
         · cases hw : intB (45 :: q) with
           | error m => rw [hw] at hy; cases hy
           | ok r1 => rw [hw] at hy; injection hy with hy; rw [← hy, Ht.out r1 hw]
         · rw [intR_st]; exact Hr.out
       obtain ⟨cv, hcv⟩ : ∃ y : Int, (c.toNat : Int) = y := ⟨_, rfl⟩
       have Hhd := Lib.hid (show headX (.ok (c :: q)) = cv from hcv)
       have e1 : (cv == 110) = false := beq_eq_false_iff_ne.2 (u8_neq h1 hcv)
       have e2 : (cv == 116) = false := beq_eq_false_iff_ne.2 (u8_neq h2 hcv)
       have e3 : (cv == 102) = false := beq_eq_false_iff_ne.2 (u8_neq h3 hcv)
       have e4 : (cv == 34) = false := beq_eq_false_iff_ne.2 (u8_neq h4 hcv)
       have e5 : (cv == 45) = false := beq_eq_false_iff_ne.2 (u8_neq h5 hcv)
       have hdh := digit_head (c :: q)
       rw [show startsDigit (c :: q) = isDigit c from rfl, show headN (c :: q) = cv from hcv] at hdh
       by_cases h6 : isDigit c = true
       · have HR2 := Lib.hid (show inX (f' + 1 + 1) d (.ok (c :: q)) = intR (intB (c :: q)) by rw [Hinn.out]; exact v_int f' (40 - d) q hn4 (.inr h6))
         rw [h6] at hdh
         have hdi := hdh.symm
         rw [Bool.and_eq_true] at hdi
         have hv48 : 48 ≤ cv := of_decide_eq_true hdi.1
         have hv57 : cv ≤ 57 := of_decide_eq_true hdi.2
         clear hz h hV hd h1 h2 h3 h4 h5 h6 hn4 hdh hdi hcv
         rw [HR2.out]
         clear HR2 Hinn hfl
         go_enter Tryd.func49, Tryd.ntmps49
         go_wp2_with (first
          | ((with_reducible refine at_dst (N := 4) rfl ?_); go_must (refine ev_alloc rfl rfl zero25 rfl ?_; intro g4 w1 hg4 hl4 hb4 hk4)
             have Hb4 := Lib.hid hb4
             have Hg4 := Lib.hid hg4
             have Hr := Lib.hid (Hr.out.keep hk4 id)
             have HK := Lib.hid (HK.out.then hk4)
             have Hne := Lib.hid (show ¬ g4 = r from fun e => by have := Hrw.out; omega)
             clear hb4 hk4 hg4 hl4
             (try simp only [PU]))
          | (go_at_call 82; go_must (refine (peek82 Hr.out).mono ?_; rintro e w2 ⟨rfl, hk5⟩; rw [Hhd.out])
             have Hb4 := Lib.hid (hk5.blk Hb4.out id)
             have Hr := Lib.hid (Hr.out.keep hk5 id)
             have HK := Lib.hid (HK.out.then hk5)
             clear hk5
             (try simp only [PU]))
          | (go_at_call 85; go_must (refine (num85 Hr.out).mono ?_; rintro e w3 ⟨⟨n, rfl, ht⟩, hr6, hk6⟩)
             have Ht := Lib.hid ht
             have Hb4 := Lib.hid (hk6.blk Hb4.out Hne.out)
             have Hr := Lib.hid (show Rf w3 r T (stX (intB (c :: q))) from hr6)
             have HK := Lib.hid (HK.out.trans hk6 (fun _ _ h => h))
             clear ht hr6 hk6
             (try simp only [PU]))
          | ((with_reducible refine at_store (t := 25) (p := 4) rfl ?_); go_must (refine ev_store (cs' := #[.int .i64 3, .bool false, .int .i64 n, .string ByteArray.empty, .slice none 0 0, .slice none 0 0]) rfl rfl rfl rfl rfl rfl HI.out.1 HI.out.2 rfl Hb4.out (Nat.le_of_ble_eq_true rfl) rfl ?_; intro w9 hb9 hk9)
             have Hr := Lib.hid (Hr.out.keep hk9 (fun e => Hne.out e.symm))
             (try have HVc := Lib.hid (HVc.out.keep (X' := fun b => w.heap.size ≤ b ∧ b < w9.heap.size) hk9 (fun b _ hb e => by have h1 := hb.1; have h2 := blk_lt Hb4.out; omega) (fun b hb h => ⟨by have h1 := HKs.out; have h2 := h.1; omega, Nat.lt_of_lt_of_le hb hk9.size⟩)))
             have HK := Lib.hid (show Keeps (· = r) w w9 from HK.out.trans hk9 (fun i hi e => by have := Hg4.out; omega))
             have Hb4 := Lib.hid hb9
             clear hb9 hk9
             have d0 := (blk_cell Hb4.out 0).trans rfl
             have d1 := (blk_cell Hb4.out 1).trans rfl
             have d2 := (blk_cell Hb4.out 2).trans rfl
             have d3 := (blk_cell Hb4.out 3).trans rfl
             have d4 := (blk_cell Hb4.out 4).trans rfl
             have d5 := (blk_cell Hb4.out 5).trans rfl
             (try simp only [PU]))
         )
         refine bodyPost_ret (v := .agg #[.int .i64 3, .bool false, .int .i64 n, .string ByteArray.empty, .slice none 0 0, .slice none 0 0]) (by rw [results_cell1 rfl]; go_simp) rfl ?_
         refine ⟨⟨_, .mk 3 false n ByteArray.empty [] [], rfl, JX.close (strs_nil _ _) (js_nil _ _), fun y hy => ?_⟩, ?_, HK.out⟩
         · cases hw : intB (c :: q) with
           | error m => rw [hw] at hy; cases hy
           | ok r1 => rw [hw] at hy; injection hy with hy; rw [← hy, Ht.out r1 hw]
         · rw [intR_st]; exact Hr.out
       by_cases h7 : c = 91
       · subst h7
         clear hz h h1 h2 h3 h4 h5 h6 hn4 hdh hcv e1 e2 e3 e4 e5 Hhd
         have Hhd := Lib.hid (show headX (.ok (91 :: q)) = 91 from rfl)
         have HR2 := Lib.hid (show inX (f' + 1 + 1) d (.ok (91 :: q)) = arrR (openL 93 (stepI (40 - d)) f' [] q) by rw [Hinn.out]; exact value_list f' (40 - d) q)
         rw [HR2.out]
         have Hd := Lib.hid hd
         have Hff := Lib.hid (show 3 * q.length + 3 ≤ f' by simp only [List.length_cons] at hfl; omega)
         have HVs := Lib.hid (hV hd)
         obtain ⟨RR, hRR⟩ : ∃ y, arrR (openL 93 (stepI (40 - d)) f' [] q) = y := ⟨_, rfl⟩
         have HRR := Lib.hid hRR
         rw [hRR]
         clear HR2 Hinn hfl hd hRR
         go_enter Tryd.func49, Tryd.ntmps49
         go_wp2_with (first
          | ((with_reducible refine at_dst (N := 4) rfl ?_); go_must (refine ev_alloc rfl rfl zero25 rfl ?_; intro g4 w1 hg4 hl4 hb4 hk4)
             have Hb4 := Lib.hid hb4
             have Hg4 := Lib.hid hg4
             have Hr := Lib.hid (Hr.out.keep hk4 id)
             have HK := Lib.hid (HK.out.then hk4)
             have Hne := Lib.hid (show ¬ g4 = r from fun e => by have := Hrw.out; omega)
             clear hb4 hk4 hg4 hl4
             (try simp only [PU]))
          | (go_at_call 82; go_must (refine (peek82 Hr.out).mono ?_; rintro e w2 ⟨rfl, hk5⟩; rw [Hhd.out])
             have Hb4 := Lib.hid (hk5.blk Hb4.out id)
             have Hr := Lib.hid (Hr.out.keep hk5 id)
             have HK := Lib.hid (HK.out.then hk5)
             clear hk5
             (try simp only [PU]))
          | (go_at_call 86; go_must (have hc := list86 Hr.out d Hd.out f' Hff.out HVs.out z Hz.out; rw [HRR.out] at hc; refine hc.mono ?_; rintro e w3 ⟨⟨v6, j6, rfl, hv6, hj6⟩, hr6, hk6⟩; obtain ⟨jk, jb, jn, jt, jks, jvs, jkv, jvv, hjj, rfl, hjk, hjv⟩ := hv6.open; obtain ⟨jA, jc, rfl, -, -⟩ := hjk; obtain ⟨jB, jd, ju, rfl, -, -, -⟩ := hjv)
             have HKs := Lib.hid HK.out.size
             have HVc := Lib.hid (hv6.keep (X' := fun b => w.heap.size ≤ b ∧ b < w3.heap.size ∧ b ≠ g4) (Keeps.refl Nob w3) (fun _ _ _ => id) (fun b hb h => ⟨by have h1 := HKs.out; have h2 := h.1; omega, hb, fun e => by have h1 := blk_lt Hb4.out; have h2 := h.1; omega⟩))
             have Hj6 := Lib.hid hj6
             have Hb4 := Lib.hid (hk6.blk Hb4.out Hne.out)
             have Hr := Lib.hid hr6
             have HK := Lib.hid (HK.out.trans hk6 (fun _ _ h => h))
             clear hv6 hj6 hr6 hk6 hjj
             generalize jks.length = jkl at *
             generalize jvs.length = jvl at *
             (try simp only [PU]))
          | ((with_reducible refine at_store (t := 25) (p := 4) rfl ?_); go_must (refine ev_store (cs' := #[.int .i64 jk, .bool jb, .int .i64 jn, .string jt, .slice jA jkl jc, .slice jB jvl jd]) rfl rfl rfl rfl rfl rfl HI.out.1 HI.out.2 rfl Hb4.out (Nat.le_of_ble_eq_true rfl) rfl ?_; intro w9 hb9 hk9)
             have Hr := Lib.hid (Hr.out.keep hk9 (fun e => Hne.out e.symm))
             have HV9 := Lib.hid (HVc.out.keep (X' := fun b => w.heap.size ≤ b ∧ b < w9.heap.size) hk9 (fun b _ hb e => hb.2.2 e) (fun b hb h => ⟨h.1, Nat.lt_of_lt_of_le hb hk9.size⟩))
             have HK := Lib.hid (show Keeps (· = r) w w9 from HK.out.trans hk9 (fun i hi e => by have := Hg4.out; omega))
             have Hb4 := Lib.hid hb9
             clear hb9 hk9
             have d0 := (blk_cell Hb4.out 0).trans rfl
             have d1 := (blk_cell Hb4.out 1).trans rfl
             have d2 := (blk_cell Hb4.out 2).trans rfl
             have d3 := (blk_cell Hb4.out 3).trans rfl
             have d4 := (blk_cell Hb4.out 4).trans rfl
             have d5 := (blk_cell Hb4.out 5).trans rfl
             (try simp only [PU]))
         )
         refine bodyPost_ret (v := .agg #[.int .i64 jk, .bool jb, .int .i64 jn, .string jt, .slice jA jkl jc, .slice jB jvl jd]) (by rw [results_cell1 rfl]; go_simp) rfl ?_
         exact ⟨⟨_, j6, rfl, HV9.out, Hj6.out⟩, Hr.out, HK.out⟩
       by_cases h8 : c = 123
       · subst h8
         clear hz h h1 h2 h3 h4 h5 h6 h7 hn4 hdh hcv e1 e2 e3 e4 e5 Hhd
         have Hhd := Lib.hid (show headX (.ok (123 :: q)) = 123 from rfl)
         have HR2 := Lib.hid (show inX (f' + 1 + 1) d (.ok (123 :: q)) = tabR (openL 125 (stepP (40 - d)) f' ([], []) q) by rw [Hinn.out]; exact value_table f' (40 - d) q)
         rw [HR2.out]
         have Hd := Lib.hid hd
         have Hff := Lib.hid (show 3 * q.length + 3 ≤ f' by simp only [List.length_cons] at hfl; omega)
         have HVs := Lib.hid (hV hd)
         obtain ⟨RR, hRR⟩ : ∃ y, tabR (openL 125 (stepP (40 - d)) f' ([], []) q) = y := ⟨_, rfl⟩
         have HRR := Lib.hid hRR
         rw [hRR]
         clear HR2 Hinn hfl hd hRR
         go_enter Tryd.func49, Tryd.ntmps49
         go_wp2_with (first
          | ((with_reducible refine at_dst (N := 4) rfl ?_); go_must (refine ev_alloc rfl rfl zero25 rfl ?_; intro g4 w1 hg4 hl4 hb4 hk4)
             have Hb4 := Lib.hid hb4
             have Hg4 := Lib.hid hg4
             have Hr := Lib.hid (Hr.out.keep hk4 id)
             have HK := Lib.hid (HK.out.then hk4)
             have Hne := Lib.hid (show ¬ g4 = r from fun e => by have := Hrw.out; omega)
             clear hb4 hk4 hg4 hl4
             (try simp only [PU]))
          | (go_at_call 82; go_must (refine (peek82 Hr.out).mono ?_; rintro e w2 ⟨rfl, hk5⟩; rw [Hhd.out])
             have Hb4 := Lib.hid (hk5.blk Hb4.out id)
             have Hr := Lib.hid (Hr.out.keep hk5 id)
             have HK := Lib.hid (HK.out.then hk5)
             clear hk5
             (try simp only [PU]))
          | (go_at_call 87; go_must (have hc := table87 Hr.out d Hd.out f' Hff.out HVs.out z Hz.out; rw [HRR.out] at hc; refine hc.mono ?_; rintro e w3 ⟨⟨v6, j6, rfl, hv6, hj6⟩, hr6, hk6⟩; obtain ⟨jk, jb, jn, jt, jks, jvs, jkv, jvv, hjj, rfl, hjk, hjv⟩ := hv6.open; obtain ⟨jA, jc, rfl, -, -⟩ := hjk; obtain ⟨jB, jd, ju, rfl, -, -, -⟩ := hjv)
             have HKs := Lib.hid HK.out.size
             have HVc := Lib.hid (hv6.keep (X' := fun b => w.heap.size ≤ b ∧ b < w3.heap.size ∧ b ≠ g4) (Keeps.refl Nob w3) (fun _ _ _ => id) (fun b hb h => ⟨by have h1 := HKs.out; have h2 := h.1; omega, hb, fun e => by have h1 := blk_lt Hb4.out; have h2 := h.1; omega⟩))
             have Hj6 := Lib.hid hj6
             have Hb4 := Lib.hid (hk6.blk Hb4.out Hne.out)
             have Hr := Lib.hid hr6
             have HK := Lib.hid (HK.out.trans hk6 (fun _ _ h => h))
             clear hv6 hj6 hr6 hk6 hjj
             generalize jks.length = jkl at *
             generalize jvs.length = jvl at *
             (try simp only [PU]))
          | ((with_reducible refine at_store (t := 25) (p := 4) rfl ?_); go_must (refine ev_store (cs' := #[.int .i64 jk, .bool jb, .int .i64 jn, .string jt, .slice jA jkl jc, .slice jB jvl jd]) rfl rfl rfl rfl rfl rfl HI.out.1 HI.out.2 rfl Hb4.out (Nat.le_of_ble_eq_true rfl) rfl ?_; intro w9 hb9 hk9)
             have Hr := Lib.hid (Hr.out.keep hk9 (fun e => Hne.out e.symm))
             have HV9 := Lib.hid (HVc.out.keep (X' := fun b => w.heap.size ≤ b ∧ b < w9.heap.size) hk9 (fun b _ hb e => hb.2.2 e) (fun b hb h => ⟨h.1, Nat.lt_of_lt_of_le hb hk9.size⟩))
             have HK := Lib.hid (show Keeps (· = r) w w9 from HK.out.trans hk9 (fun i hi e => by have := Hg4.out; omega))
             have Hb4 := Lib.hid hb9
             clear hb9 hk9
             have d0 := (blk_cell Hb4.out 0).trans rfl
             have d1 := (blk_cell Hb4.out 1).trans rfl
             have d2 := (blk_cell Hb4.out 2).trans rfl
             have d3 := (blk_cell Hb4.out 3).trans rfl
             have d4 := (blk_cell Hb4.out 4).trans rfl
             have d5 := (blk_cell Hb4.out 5).trans rfl
             (try simp only [PU]))
         )
         refine bodyPost_ret (v := .agg #[.int .i64 jk, .bool jb, .int .i64 jn, .string jt, .slice jA jkl jc, .slice jB jvl jd]) (by rw [results_cell1 rfl]; go_simp) rfl ?_
         exact ⟨⟨_, j6, rfl, HV9.out, Hj6.out⟩, Hr.out, HK.out⟩
       have e7 : (cv == 91) = false := beq_eq_false_iff_ne.2 (u8_neq h7 hcv)
       have e8 : (cv == 123) = false := beq_eq_false_iff_ne.2 (u8_neq h8 hcv)
       have hno : ¬ (48 ≤ cv ∧ cv ≤ 57) := fun e => h6 (by rw [hdh]; simp [e.1, e.2])
       have HR2 := Lib.hid (show inX (f' + 1 + 1) d (.ok (c :: q)) = .error (q.length + 1) by rw [Hinn.out]; exact v_bad f' (40 - d) q hn4 (fun e => e.elim h5 h6) ⟨h7, h8⟩)
       obtain ⟨a, hbk, hsum, ha, -⟩ := Hr.out.good
       have Hbr := Lib.hid hbk
       have hle := Hr.out.le
       have Hfl := Lib.hid (fun (W : World) (hr : Rf W r T (.ok (c :: q))) => failG hr (q.length + 1) hle (a : Nat) (by rw [← ha]; rfl))
       clear hz h hV hd h1 h2 h3 h4 h5 h6 h7 h8 hn4 hdh hcv hbk hsum ha hle hfl Hinn
       by_cases h48 : 48 ≤ cv
       · have h57 : ¬ cv ≤ 57 := fun e => hno ⟨h48, e⟩
         clear hno
         go_enter Tryd.func49, Tryd.ntmps49
         go_wp2_with (first
          | ((with_reducible refine at_dst (N := 4) rfl ?_); go_must (refine ev_alloc rfl rfl zero25 rfl ?_; intro g4 w1 hg4 hl4 hb4 hk4)
             have Hb4 := Lib.hid hb4
             have Hg4 := Lib.hid hg4
             have Hr := Lib.hid (Hr.out.keep hk4 id)
             have Hbr := Lib.hid (hk4.blk Hbr.out id)
             have HK := Lib.hid (HK.out.then hk4)
             have Hne := Lib.hid (show ¬ g4 = r from fun e => by have := Hrw.out; omega)
             have r1 := (blk_cell Hbr.out 1).trans rfl
             clear hb4 hk4 hg4 hl4
             (try simp only [PU]))
          | (go_at_call 82; go_must (refine (peek82 Hr.out).mono ?_; rintro e w2 ⟨rfl, hk5⟩; rw [Hhd.out])
             have Hb4 := Lib.hid (hk5.blk Hb4.out id)
             have Hr := Lib.hid (Hr.out.keep hk5 id)
             have Hbr := Lib.hid (hk5.blk Hbr.out id)
             have HK := Lib.hid (HK.out.then hk5)
             clear hk5 r1
             have r1 := (blk_cell Hbr.out 1).trans rfl
             (try simp only [PU]))
          | (go_at_call 50; go_must (refine (Hfl.out _ Hr.out).mono ?_; rintro e w3 ⟨⟨y, rfl⟩, hr6, hk6⟩)
             have Hb4 := Lib.hid (hk6.blk Hb4.out Hne.out)
             have Hr := Lib.hid hr6
             have HK := Lib.hid (HK.out.trans hk6 (fun _ _ h => h))
             clear hr6 hk6 r1
             (try simp only [PU]))
          | ((with_reducible refine at_store (t := 25) (p := 4) rfl ?_); go_must (refine ev_store (cs' := #[.int .i64 0, .bool false, .int .i64 0, .string ByteArray.empty, .slice none 0 0, .slice none 0 0]) rfl rfl rfl rfl rfl rfl HI.out.1 HI.out.2 rfl Hb4.out (Nat.le_of_ble_eq_true rfl) rfl ?_; intro w9 hb9 hk9)
             have Hr := Lib.hid (Hr.out.keep hk9 (fun e => Hne.out e.symm))
             (try have HVc := Lib.hid (HVc.out.keep (X' := fun b => w.heap.size ≤ b ∧ b < w9.heap.size) hk9 (fun b _ hb e => by have h1 := hb.1; have h2 := blk_lt Hb4.out; omega) (fun b hb h => ⟨by have h1 := HKs.out; have h2 := h.1; omega, Nat.lt_of_lt_of_le hb hk9.size⟩)))
             have HK := Lib.hid (show Keeps (· = r) w w9 from HK.out.trans hk9 (fun i hi e => by have := Hg4.out; omega))
             have Hb4 := Lib.hid hb9
             clear hb9 hk9
             have d0 := (blk_cell Hb4.out 0).trans rfl
             have d1 := (blk_cell Hb4.out 1).trans rfl
             have d2 := (blk_cell Hb4.out 2).trans rfl
             have d3 := (blk_cell Hb4.out 3).trans rfl
             have d4 := (blk_cell Hb4.out 4).trans rfl
             have d5 := (blk_cell Hb4.out 5).trans rfl
             (try simp only [PU]))
         )
         refine bodyPost_ret (v := .agg #[.int .i64 0, .bool false, .int .i64 0, .string ByteArray.empty, .slice none 0 0, .slice none 0 0]) (by rw [results_cell1 rfl]; go_simp) rfl ?_
         refine ⟨⟨_, zJ, rfl, zvalU, fun y hy => ?_⟩, ?_, HK.out⟩
         · rw [HR2.out] at hy; cases hy
         · rw [HR2.out]; exact Hr.out
       · clear hno
         go_enter Tryd.func49, Tryd.ntmps49
         go_wp2_with (first
          | ((with_reducible refine at_dst (N := 4) rfl ?_); go_must (refine ev_alloc rfl rfl zero25 rfl ?_; intro g4 w1 hg4 hl4 hb4 hk4)
             have Hb4 := Lib.hid hb4
             have Hg4 := Lib.hid hg4
             have Hr := Lib.hid (Hr.out.keep hk4 id)
             have Hbr := Lib.hid (hk4.blk Hbr.out id)
             have HK := Lib.hid (HK.out.then hk4)
             have Hne := Lib.hid (show ¬ g4 = r from fun e => by have := Hrw.out; omega)
             have r1 := (blk_cell Hbr.out 1).trans rfl
             clear hb4 hk4 hg4 hl4
             (try simp only [PU]))
          | (go_at_call 82; go_must (refine (peek82 Hr.out).mono ?_; rintro e w2 ⟨rfl, hk5⟩; rw [Hhd.out])
             have Hb4 := Lib.hid (hk5.blk Hb4.out id)
             have Hr := Lib.hid (Hr.out.keep hk5 id)
             have Hbr := Lib.hid (hk5.blk Hbr.out id)
             have HK := Lib.hid (HK.out.then hk5)
             clear hk5 r1
             have r1 := (blk_cell Hbr.out 1).trans rfl
             (try simp only [PU]))
          | (go_at_call 50; go_must (refine (Hfl.out _ Hr.out).mono ?_; rintro e w3 ⟨⟨y, rfl⟩, hr6, hk6⟩)
             have Hb4 := Lib.hid (hk6.blk Hb4.out Hne.out)
             have Hr := Lib.hid hr6
             have HK := Lib.hid (HK.out.trans hk6 (fun _ _ h => h))
             clear hr6 hk6 r1
             (try simp only [PU]))
          | ((with_reducible refine at_store (t := 25) (p := 4) rfl ?_); go_must (refine ev_store (cs' := #[.int .i64 0, .bool false, .int .i64 0, .string ByteArray.empty, .slice none 0 0, .slice none 0 0]) rfl rfl rfl rfl rfl rfl HI.out.1 HI.out.2 rfl Hb4.out (Nat.le_of_ble_eq_true rfl) rfl ?_; intro w9 hb9 hk9)
             have Hr := Lib.hid (Hr.out.keep hk9 (fun e => Hne.out e.symm))
             (try have HVc := Lib.hid (HVc.out.keep (X' := fun b => w.heap.size ≤ b ∧ b < w9.heap.size) hk9 (fun b _ hb e => by have h1 := hb.1; have h2 := blk_lt Hb4.out; omega) (fun b hb h => ⟨by have h1 := HKs.out; have h2 := h.1; omega, Nat.lt_of_lt_of_le hb hk9.size⟩)))
             have HK := Lib.hid (show Keeps (· = r) w w9 from HK.out.trans hk9 (fun i hi e => by have := Hg4.out; omega))
             have Hb4 := Lib.hid hb9
             clear hb9 hk9
             have d0 := (blk_cell Hb4.out 0).trans rfl
             have d1 := (blk_cell Hb4.out 1).trans rfl
             have d2 := (blk_cell Hb4.out 2).trans rfl
             have d3 := (blk_cell Hb4.out 3).trans rfl
             have d4 := (blk_cell Hb4.out 4).trans rfl
             have d5 := (blk_cell Hb4.out 5).trans rfl
             (try simp only [PU]))
         )
         refine bodyPost_ret (v := .agg #[.int .i64 0, .bool false, .int .i64 0, .string ByteArray.empty, .slice none 0 0, .slice none 0 0]) (by rw [results_cell1 rfl]; go_simp) rfl ?_
         refine ⟨⟨_, zJ, rfl, zvalU, fun y hy => ?_⟩, ?_, HK.out⟩
         · rw [HR2.out] at hy; cases hy
         · rw [HR2.out]; exact Hr.out
 · have hz40 : 40 ≤ z := by omega
   cases x with
   | error m =>
     obtain ⟨a, hbk, -, -, -⟩ := id Hr.out
     have Hbr := Lib.hid hbk
     have Hfl := Lib.hid (fun (W : World) (hr : Rf W r T (.error m)) => failB hr (a : Nat))
     have HR2 := Lib.hid (show inX f d (.error m) = .error m from rfl)
     clear hz hf h hV hbk hd
     go_enter Tryd.func49, Tryd.ntmps49
     go_wp2_with (first
      | ((with_reducible refine at_dst (N := 4) rfl ?_); go_must (refine ev_alloc rfl rfl zero25 rfl ?_; intro g4 w1 hg4 hl4 hb4 hk4)
         have Hb4 := Lib.hid hb4
         have Hg4 := Lib.hid hg4
         have Hr := Lib.hid (Hr.out.keep hk4 id)
         have Hbr := Lib.hid (hk4.blk Hbr.out id)
         have HK := Lib.hid (HK.out.then hk4)
         have Hne := Lib.hid (show ¬ g4 = r from fun e => by have := Hrw.out; omega)
         have r1 := (blk_cell Hbr.out 1).trans rfl
         clear hb4 hk4 hg4 hl4
         (try simp only [PU]))
      | (go_at_call 82; go_must (refine (peek82 Hr.out).mono ?_; rintro e w2 ⟨rfl, hk5⟩; rw [Hhd.out])
         have Hb4 := Lib.hid (hk5.blk Hb4.out id)
         have Hr := Lib.hid (Hr.out.keep hk5 id)
         have Hbr := Lib.hid (hk5.blk Hbr.out id)
         have HK := Lib.hid (HK.out.then hk5)
         clear hk5 r1
         have r1 := (blk_cell Hbr.out 1).trans rfl
         (try simp only [PU]))
      | (go_at_call 50; go_must (refine (Hfl.out _ Hr.out).mono ?_; rintro e w3 ⟨⟨y, rfl⟩, hr6, hk6⟩)
         have Hb4 := Lib.hid (hk6.blk Hb4.out Hne.out)
         have Hr := Lib.hid hr6
         have HK := Lib.hid (HK.out.trans hk6 (fun _ _ h => h))
         clear hr6 hk6 r1
         (try simp only [PU]))
      | ((with_reducible refine at_store (t := 25) (p := 4) rfl ?_); go_must (refine ev_store (cs' := #[.int .i64 0, .bool false, .int .i64 0, .string ByteArray.empty, .slice none 0 0, .slice none 0 0]) rfl rfl rfl rfl rfl rfl HI.out.1 HI.out.2 rfl Hb4.out (Nat.le_of_ble_eq_true rfl) rfl ?_; intro w9 hb9 hk9)
         have Hr := Lib.hid (Hr.out.keep hk9 (fun e => Hne.out e.symm))
         (try have HVc := Lib.hid (HVc.out.keep (X' := fun b => w.heap.size ≤ b ∧ b < w9.heap.size) hk9 (fun b _ hb e => by have h1 := hb.1; have h2 := blk_lt Hb4.out; omega) (fun b hb h => ⟨by have h1 := HKs.out; have h2 := h.1; omega, Nat.lt_of_lt_of_le hb hk9.size⟩)))
         have HK := Lib.hid (show Keeps (· = r) w w9 from HK.out.trans hk9 (fun i hi e => by have := Hg4.out; omega))
         have Hb4 := Lib.hid hb9
         clear hb9 hk9
         have d0 := (blk_cell Hb4.out 0).trans rfl
         have d1 := (blk_cell Hb4.out 1).trans rfl
         have d2 := (blk_cell Hb4.out 2).trans rfl
         have d3 := (blk_cell Hb4.out 3).trans rfl
         have d4 := (blk_cell Hb4.out 4).trans rfl
         have d5 := (blk_cell Hb4.out 5).trans rfl
         (try simp only [PU]))
     )
     refine bodyPost_ret (v := .agg #[.int .i64 0, .bool false, .int .i64 0, .string ByteArray.empty, .slice none 0 0, .slice none 0 0]) (by rw [results_cell1 rfl]; go_simp) rfl ?_
     refine ⟨⟨_, zJ, rfl, zvalU, fun y hy => ?_⟩, ?_, HK.out⟩
     · rw [HR2.out] at hy; cases hy
     · rw [HR2.out]; exact Hr.out
   | ok s =>
     have hfs := hf s rfl
     obtain ⟨f', rfl⟩ : ∃ g, f = g + 1 := ⟨f - 1, by omega⟩
     have HR2 := Lib.hid (show inX (f' + 1) d (.ok s) = .error s.length by
      show innerF (f' + 1) (41 - d) s = _
      unfold innerF
      rw [if_pos (by omega)])
     obtain ⟨a, hbk, -, ha, -⟩ := Hr.out.good
     have Hbr := Lib.hid hbk
     have hle := Hr.out.le
     have Hfl := Lib.hid (fun (W : World) (hr : Rf W r T (.ok s)) => failG hr s.length hle (a : Nat) (by rw [← ha]))
     clear hz hf h hV hbk hd hfs ha hle
     go_enter Tryd.func49, Tryd.ntmps49
     go_wp2_with (first
      | ((with_reducible refine at_dst (N := 4) rfl ?_); go_must (refine ev_alloc rfl rfl zero25 rfl ?_; intro g4 w1 hg4 hl4 hb4 hk4)
         have Hb4 := Lib.hid hb4
         have Hg4 := Lib.hid hg4
         have Hr := Lib.hid (Hr.out.keep hk4 id)
         have Hbr := Lib.hid (hk4.blk Hbr.out id)
         have HK := Lib.hid (HK.out.then hk4)
         have Hne := Lib.hid (show ¬ g4 = r from fun e => by have := Hrw.out; omega)
         have r1 := (blk_cell Hbr.out 1).trans rfl
         clear hb4 hk4 hg4 hl4
         (try simp only [PU]))
      | (go_at_call 82; go_must (refine (peek82 Hr.out).mono ?_; rintro e w2 ⟨rfl, hk5⟩; rw [Hhd.out])
         have Hb4 := Lib.hid (hk5.blk Hb4.out id)
         have Hr := Lib.hid (Hr.out.keep hk5 id)
         have Hbr := Lib.hid (hk5.blk Hbr.out id)
         have HK := Lib.hid (HK.out.then hk5)
         clear hk5 r1
         have r1 := (blk_cell Hbr.out 1).trans rfl
         (try simp only [PU]))
      | (go_at_call 50; go_must (refine (Hfl.out _ Hr.out).mono ?_; rintro e w3 ⟨⟨y, rfl⟩, hr6, hk6⟩)
         have Hb4 := Lib.hid (hk6.blk Hb4.out Hne.out)
         have Hr := Lib.hid hr6
         have HK := Lib.hid (HK.out.trans hk6 (fun _ _ h => h))
         clear hr6 hk6 r1
         (try simp only [PU]))
      | ((with_reducible refine at_store (t := 25) (p := 4) rfl ?_); go_must (refine ev_store (cs' := #[.int .i64 0, .bool false, .int .i64 0, .string ByteArray.empty, .slice none 0 0, .slice none 0 0]) rfl rfl rfl rfl rfl rfl HI.out.1 HI.out.2 rfl Hb4.out (Nat.le_of_ble_eq_true rfl) rfl ?_; intro w9 hb9 hk9)
         have Hr := Lib.hid (Hr.out.keep hk9 (fun e => Hne.out e.symm))
         (try have HVc := Lib.hid (HVc.out.keep (X' := fun b => w.heap.size ≤ b ∧ b < w9.heap.size) hk9 (fun b _ hb e => by have h1 := hb.1; have h2 := blk_lt Hb4.out; omega) (fun b hb h => ⟨by have h1 := HKs.out; have h2 := h.1; omega, Nat.lt_of_lt_of_le hb hk9.size⟩)))
         have HK := Lib.hid (show Keeps (· = r) w w9 from HK.out.trans hk9 (fun i hi e => by have := Hg4.out; omega))
         have Hb4 := Lib.hid hb9
         clear hb9 hk9
         have d0 := (blk_cell Hb4.out 0).trans rfl
         have d1 := (blk_cell Hb4.out 1).trans rfl
         have d2 := (blk_cell Hb4.out 2).trans rfl
         have d3 := (blk_cell Hb4.out 3).trans rfl
         have d4 := (blk_cell Hb4.out 4).trans rfl
         have d5 := (blk_cell Hb4.out 5).trans rfl
         (try simp only [PU]))
     )
     refine bodyPost_ret (v := .agg #[.int .i64 0, .bool false, .int .i64 0, .string ByteArray.empty, .slice none 0 0, .slice none 0 0]) (by rw [results_cell1 rfl]; go_simp) rfl ?_
     refine ⟨⟨_, zJ, rfl, zvalU, fun y hy => ?_⟩, ?_, HK.out⟩
     · rw [HR2.out] at hy; cases hy
     · rw [HR2.out]; exact Hr.out
theorem valS : ∀ k d, 40 ≤ d + k → ValS d
 | 0, d, h => value49 d (fun e => by omega)
 | k + 1, d, h => value49 d (fun e => valS k (d + 1) (by omega))
theorem valS0 : ValS 0 := valS 40 0 (by decide)
end Go.Proofs.WV

namespace Go.Proofs.WV
open Go.RowKit Go.Proofs.KL Go.Proofs.WM
set_option maxRecDepth 100000
set_option linter.unusedSimpArgs false
set_option linter.unusedVariables false

def readS (T : ByteArray) : J × Int × Int := match readJ (bl T) with
 | .error a => (zJ, a, 4)
 | .ok j => (j, 0, 0)
def ReadRef (w : World) (R : J × Int × Int) (e : Ending) (w' : World) : Prop := (∃ v, e = .returned (.tuple #[v, .int .i64 R.2.1, .int .i64 R.2.2]) ∧ JX w' (fun b => w.heap.size ≤ b ∧ b < w'.heap.size) v R.1) ∧ Keeps Nob w w'
theorem results_ctt {fn : Func} {p q u : Tmp} {t : TypeId} (h : fn.results = #[.cell p t, .tmp q, .tmp u]) (tmps : Array Value) {P : Program} (w : World) {x y z : Value} {a : Addr} (ha : tmps[p]?.getD undef = .pointer (some a)) (hp : (loadVar t a).run P w = .ok x w) (hq : tmps[q]?.getD undef = y) (hu : tmps[u]?.getD undef = z) :
  (results fn tmps).run P w = .ok (.tuple #[x, y, z]) w := by
 have e : ∀ (a : Addr) (w : World), (asAddr (.pointer (some a))).run P w = .ok a w := fun _ _ => rfl
 simp [results, h, ha, hq, hu, e, hp, Result.andThen]
theorem read_err {T : ByteArray} {m : Nat} (h : blanksX (stX (valueF (4 * (bl T).length + 8) 40 (blanksB (bl T)))) = .error m) : readS T = (zJ, ((T.size - m : Nat) : Int), 4) := by
 unfold readS readJ
 cases hv : valueF (4 * (bl T).length + 8) 40 (blanksB (bl T)) with
 | error e =>
   rw [hv] at h
   injection h with h
   subst h
   simp only [bl_len]
 | ok y => rw [hv] at h; cases h
theorem read_ok' {T : ByteArray} {y : J × Bs} (hv : valueF (4 * (bl T).length + 8) 40 (blanksB (bl T)) = .ok y) (h : blanksB y.2 = []) : readS T = (y.1, 0, 0) := by
 unfold readS readJ
 rw [hv]
 simp only [h]
theorem read_more {T : ByteArray} {y : J × Bs} {c : UInt8} {q : Bs} (hv : valueF (4 * (bl T).length + 8) 40 (blanksB (bl T)) = .ok y) (h : blanksB y.2 = c :: q) : readS T = (zJ, ((T.size - (q.length + 1) : Nat) : Int), 4) := by
 unfold readS readJ
 rw [hv]
 simp only [h, bl_len]
theorem keeps_trans2 {W w1 w2 : World} {r g : Nat} (h : Keeps (fun i => i = r) W w1) (h2 : Keeps (· = g) w1 w2) (hn : ¬ g = r ∧ W.heap.size ≤ g ∧ W.heap.size ≤ r ∧ g < r) : Keeps Nob W w2 :=
 (h.trans h2 (fun i hi e => by have := hn.2.1; omega)).mono (fun i hi e => (by have := hn.2.2.1; omega : False))
set_option maxHeartbeats 8000000 in
theorem read19 {w : World} {T : ByteArray} (hs : T.size ≤ 1000000) : Calls Tryd.prog 19 #[.string T] w (ReadRef w (readS T)) := by
 obtain ⟨i25, hi25, hs25⟩ := info25
 have HI := Lib.hid (And.intro hi25 hs25)
 have Hsz := Lib.hid hs
 obtain ⟨RR, hRR⟩ : ∃ y, readS T = y := ⟨_, rfl⟩
 have HRR := Lib.hid hRR
 rw [hRR]
 obtain ⟨R1, hR1⟩ : ∃ y, valueF (4 * (bl T).length + 8) 40 (blanksB (bl T)) = y := ⟨_, rfl⟩
 have HR1 := Lib.hid hR1
 have Hin := Lib.hid (show inX (4 * (bl T).length + 8 + 1) 0 (blanksX (.ok (bl T))) = R1 by
  show innerF (4 * (bl T).length + 8 + 1) 41 (blanksB (bl T)) = R1
  unfold innerF
  rw [if_neg (by decide), ← hR1])
 clear hi25 hs25 hRR hR1
 go_enter Tryd.func19, Tryd.ntmps19
 go_upto_region 5 with (first
  | ((with_reducible refine at_dst (N := 2) rfl ?_); go_must (refine ev_alloc rfl rfl zero25 rfl ?_; intro g2 w1 hg2 hl2 hb2 hk2)
     have Hb2 := Lib.hid hb2
     have Hg2 := Lib.hid (And.intro hg2 hl2)
     have HK0 := Lib.hid hk2
     clear hb2 hk2 hg2 hl2
     (try simp only [PU]))
  | ((with_reducible refine at_dst (N := 9) rfl ?_); go_must (refine ev_box (cs := #[.string T, .int .i64 0, .int .i64 (-1)]) rfl rfl rfl ?_; intro r w2 hgr hlr hbr hkr)
     have Hb2 := Lib.hid (hkr.blk Hb2.out id)
     have Hr := Lib.hid (show Rf w2 r T (.ok (bl T)) from ⟨by rw [bl_len, Nat.sub_self]; exact hbr, ⟨[], rfl⟩, Hsz.out⟩)
     have Hne := Lib.hid (show ¬ g2 = r ∧ w.heap.size ≤ g2 ∧ w.heap.size ≤ r ∧ g2 < r from ⟨fun e => by have := Hg2.out.2; omega, Hg2.out.1, Nat.le_trans HK0.out.size hgr, Nat.lt_of_lt_of_le Hg2.out.2 hgr⟩)
     have HK := Lib.hid (show Keeps (fun i => i = r) w w2 from (HK0.out.trans hkr (fun _ _ h => h)).mono (fun _ _ e => e.elim))
     clear hgr hlr hbr hkr HK0
     (try simp only [PU]))
  | (go_at_call 48; go_must (refine (blanks48 Hr.out).mono ?_; rintro e w3 ⟨⟨y, rfl⟩, hr6, hk6⟩)
     have Hr := Lib.hid hr6
     (try have HV6 := Lib.hid (HV6.out.keep (X' := fun b => r < b ∧ b < w3.heap.size ∧ b ≠ g6) hk6 (fun b _ hb e => by have := hb.1; omega) (fun b hb h => ⟨h.1, Nat.lt_of_lt_of_le hb hk6.size, h.2.2⟩)))
     have Hb2 := Lib.hid (Keeps.blk hk6 Hb2.out Hne.out.1)
     (try have Hb6 := Lib.hid (Keeps.blk hk6 Hb6.out Hne6.out))
     have HK := Lib.hid (HK.out.trans hk6 (fun _ _ h => h))
     clear hr6 hk6
     (try simp only [PU]))
  | (go_at_call 49; go_must (refine (valS0 0 (4 * (bl T).length + 8 + 1) _ _ r T rfl (fun s' e => by injection e with e; subst e; have := blanksB_le (bl T); omega) Hr.out).mono ?_; rw [Hin.out]; rintro e w4 ⟨⟨v6, j6, rfl, hv6, hj6⟩, hr6, hk6⟩; obtain ⟨jk, jb, jn, jt, jks, jvs, jkv, jvv, hjj, rfl, hjk, hjv⟩ := hv6.open; obtain ⟨jA, jc, rfl, -, -⟩ := hjk; obtain ⟨jB, jd, ju, rfl, -, -, -⟩ := hjv)
     have hrlt := Hr.out.lt
     have HV5 := Lib.hid (hv6.keep (X' := fun b => r < b ∧ b < w4.heap.size) (Keeps.refl Nob w4) (fun _ _ _ => id) (fun b hb h => ⟨by have := h.1; omega, hb⟩))
     have Hj6 := Lib.hid hj6
     have Hr := Lib.hid hr6
     have Hb2 := Lib.hid (Keeps.blk hk6 Hb2.out Hne.out.1)
     (try have Hb6 := Lib.hid (Keeps.blk hk6 Hb6.out Hne6.out))
     have HK := Lib.hid (HK.out.trans hk6 (fun _ _ h => h))
     clear hv6 hj6 hr6 hk6 hjj hrlt
     generalize jks.length = jkl at *
     generalize jvs.length = jvl at *
     (try simp only [PU]))
  | ((with_reducible refine at_dst (N := 6) rfl ?_); go_must (refine ev_alloc rfl rfl zero25 rfl ?_; intro g6 w5 hg6 hl6 hb6 hk6)
     have Hne6 := Lib.hid (show ¬ g6 = r from fun e => by have := Hr.out.lt; omega)
     have HV6 := Lib.hid (HV5.out.keep (X' := fun b => r < b ∧ b < w5.heap.size ∧ b ≠ g6) hk6 (fun _ _ _ => id) (fun b hb h => ⟨h.1, Nat.lt_of_lt_of_le hb hk6.size, fun e => by omega⟩))
     have Hg6 := Lib.hid (show g2 < g6 ∧ w.heap.size ≤ g6 from ⟨Nat.lt_of_lt_of_le (blk_lt Hb2.out) hg6, Nat.le_trans HK.out.size hg6⟩)
     have Hb2 := Lib.hid (hk6.blk Hb2.out id)
     have Hr := Lib.hid (Hr.out.keep hk6 id)
     have HK := Lib.hid (HK.out.then hk6)
     have Hb6 := Lib.hid hb6
     clear hg6 hl6 hb6 hk6
     (try simp only [PU]))
  | ((with_reducible refine at_store (t := 25) (p := 6) rfl ?_); go_must (refine ev_store (cs' := #[.int .i64 jk, .bool jb, .int .i64 jn, .string jt, .slice jA jkl jc, .slice jB jvl jd]) rfl rfl rfl rfl rfl rfl HI.out.1 HI.out.2 rfl Hb6.out (Nat.le_of_ble_eq_true rfl) rfl ?_; intro w6 hb9 hk9)
     have HV6 := Lib.hid (HV6.out.keep (X' := fun b => r < b ∧ b < w6.heap.size ∧ b ≠ g6) hk9 (fun b _ hb e => hb.2.2 e) (fun b hb h => ⟨h.1, Nat.lt_of_lt_of_le hb hk9.size, h.2.2⟩))
     have Hr := Lib.hid (Hr.out.keep hk9 (fun e => Hne6.out e.symm))
     have Hb2 := Lib.hid (hk9.blk Hb2.out (fun e : g2 = g6 => by have := Hg6.out.1; omega))
     have HK := Lib.hid (show Keeps (fun i => i = r) w w6 from HK.out.trans hk9 (fun i hi e => by have := Hg6.out.2; omega))
     have Hb6 := Lib.hid hb9
     clear hb9 hk9
     (try simp only [PU]))
 )
 obtain ⟨x2, hx2⟩ : ∃ y, blanksX (stX R1) = y := ⟨_, rfl⟩
 have Hr := Lib.hid (show Rf _ r T x2 by rw [← hx2]; exact Hr.out)
 cases x2 with
 | error m0 =>
   have HR2 := Lib.hid (show RR = (zJ, ((T.size - m0 : Nat) : Int), 4) by rw [← HRR.out]; exact read_err (by rw [HR1.out]; exact hx2))
   obtain ⟨a, hbk, -, -, -⟩ := id Hr.out
   obtain ⟨m, hm⟩ : ∃ y, T.size - m0 = y := ⟨_, rfl⟩
   rw [hm] at hbk HR2
   have Hbr := Lib.hid hbk
   have r2 := (blk_cell hbk 2).trans rfl
   have hm0 : ¬ (m : Int) < 0 := by omega
   have hm1 : (0 : Int) ≤ (m : Int) := by omega
   clear hbk hx2 hm
   go_upto_region 8 with fail
   clear r2
   have r2 := (blk_cell Hbr.out 2).trans rfl
   have HKd := Lib.hid (HK.out.then (Keeps.refl Nob _).drew)
   refine wp_region_perm [(0, true), (1, true), (2, true), (3, true), (4, true), (5, false), (6, true), (7, true)] (fun w' => w'.cell? ⟨r, 2, none⟩ = some (.int .i64 m)) rfl (by kernel_rfl) (by kernel_rfl) (by decide) (fun c a d v w h => by cases d <;> exact h) r2 ?_
   refine pq (some 41) ?_; (try simp only [PU])
   refine pq (some 42) ?_; (try simp only [PU])
   refine pq (some 43) ?_; (try simp only [PU])
   refine pq (some 44) ?_; (try simp only [PU])
   refine pq (some 45) ?_; (try simp only [PU])
   refine perm_e rfl ?_
   go_must (refine ev_store (cs' := #[.int .i64 0, .bool false, .int .i64 0, .string ByteArray.empty, .slice none 0 0, .slice none 0 0]) rfl rfl rfl rfl rfl rfl HI.out.1 HI.out.2 rfl ((Keeps.refl Nob _).drew.blk Hb2.out id) (Nat.le_of_ble_eq_true rfl) rfl ?_; intro w9 hb9 hk9)
   (try simp only [PU])
   have Hb9 := Lib.hid hb9
   have HK9 := Lib.hid (show Keeps Nob w w9 from keeps_trans2 HKd.out hk9 Hne.out)
   have r2 := (blk_cell (hk9.blk ((Keeps.refl Nob _).drew.blk Hbr.out id) (fun e => Hne.out.1 e.symm)) 2).trans rfl
   clear hb9 hk9
   refine wpList_nil ⟨r2, ?_⟩
   refine pq (some 3) ?_; (try simp only [PU])
   refine pq (some 4) ?_; (try simp only [PU])
   refine perm_nil ?_
   have d0 := (blk_cell Hb9.out 0).trans rfl
   have d1 := (blk_cell Hb9.out 1).trans rfl
   have d2 := (blk_cell Hb9.out 2).trans rfl
   have d3 := (blk_cell Hb9.out 3).trans rfl
   have d4 := (blk_cell Hb9.out 4).trans rfl
   have d5 := (blk_cell Hb9.out 5).trans rfl
   go_wp2_with fail
   refine bodyPost_ret (results_ctt (x := .agg #[.int .i64 0, .bool false, .int .i64 0, .string ByteArray.empty, .slice none 0 0, .slice none 0 0]) rfl _ _ rfl (by go_simp) rfl rfl) rfl ?_
   rw [HR2.out]
   exact ⟨⟨_, rfl, zvalU⟩, HK9.out⟩
 | ok s =>
   cases hv : R1 with
   | error e => rw [hv] at hx2; cases hx2
   | ok y =>
     have hb : blanksB y.2 = s := by rw [hv] at hx2; injection hx2
     have hv1 : valueF (4 * (bl T).length + 8) 40 (blanksB (bl T)) = .ok y := by rw [HR1.out, hv]
     cases s with
     | nil =>
       have HR2 := Lib.hid (show RR = (j6, 0, 0) by rw [← HRR.out, read_ok' hv1 hb, Hj6.out y hv])
       have r1 := (blk_cell Hr.out.nil 1).trans rfl
       have r2 := (blk_cell Hr.out.nil 2).trans rfl
       clear hx2 hv hb hv1 Hin
       go_upto_region 9 with fail
       have c0 := (blk_cell Hb6.out 0).trans rfl
       have c1 := (blk_cell Hb6.out 1).trans rfl
       have c2 := (blk_cell Hb6.out 2).trans rfl
       have c3 := (blk_cell Hb6.out 3).trans rfl
       have c4 := (blk_cell Hb6.out 4).trans rfl
       have c5 := (blk_cell Hb6.out 5).trans rfl
       go_wp2_with (first
        | ((with_reducible refine at_store (t := 25) (p := 2) rfl ?_); go_must (refine ev_store (cs' := #[.int .i64 jk, .bool jb, .int .i64 jn, .string jt, .slice jA jkl jc, .slice jB jvl jd]) rfl rfl rfl rfl rfl rfl HI.out.1 HI.out.2 rfl Hb2.out (Nat.le_of_ble_eq_true rfl) rfl ?_; intro w9 hb9 hk9)
           have Hb9 := Lib.hid hb9
           have HV9 := Lib.hid (HV6.out.keep (X' := fun b => w.heap.size ≤ b ∧ b < w9.heap.size) hk9 (fun b _ hb e => by have h1 := hb.1; have h2 := Hne.out.2.2.2; omega) (fun b hb h => ⟨by have h1 := h.1; have h2 := Hne.out.2.2.1; omega, Nat.lt_of_lt_of_le hb hk9.size⟩))
           have HK9 := Lib.hid (show Keeps Nob w w9 from keeps_trans2 HK.out hk9 Hne.out)
           clear hb9 hk9 c0 c1 c2 c3 c4 c5
           have d0 := (blk_cell Hb9.out 0).trans rfl
           have d1 := (blk_cell Hb9.out 1).trans rfl
           have d2 := (blk_cell Hb9.out 2).trans rfl
           have d3 := (blk_cell Hb9.out 3).trans rfl
           have d4 := (blk_cell Hb9.out 4).trans rfl
           have d5 := (blk_cell Hb9.out 5).trans rfl
           (try simp only [PU]))
       )
       refine bodyPost_ret (results_ctt (x := .agg #[.int .i64 jk, .bool jb, .int .i64 jn, .string jt, .slice jA jkl jc, .slice jB jvl jd]) rfl _ _ rfl (by go_simp) rfl rfl) rfl ?_
       rw [HR2.out]
       exact ⟨⟨_, rfl, HV9.out⟩, HK9.out⟩
     | cons c q =>
       have HR2 := Lib.hid (show RR = (zJ, ((T.size - (q.length + 1) : Nat) : Int), 4) by rw [← HRR.out]; exact read_more hv1 hb)
       obtain ⟨a, ha, ⟨hbk, -⟩, -, hsum, -⟩ := Hr.out.cons
       have r1 := (blk_cell hbk 1).trans rfl
       have r2 := (blk_cell hbk 2).trans rfl
       have hai : (a : Int) < (T.size : Int) := by omega
       have Hfl := Lib.hid (failG Hr.out (q.length + 1) (by omega) (a : Nat) (by omega))
       obtain ⟨m, hm⟩ : ∃ y, T.size - (q.length + 1) = y := ⟨_, rfl⟩
       have Hm := Lib.hid hm
       rw [hm] at HR2
       clear hx2 hv hb hv1 Hin hbk hsum ha hm
       go_upto_region 7 with (first
        | (go_at_call 50; go_must (refine Hfl.out.mono ?_; rintro e w7 ⟨⟨y, rfl⟩, hr6, hk6⟩)
           have Hr := Lib.hid hr6
           have Hb2 := Lib.hid (Keeps.blk hk6 Hb2.out Hne.out.1)
           (try have Hb6 := Lib.hid (Keeps.blk hk6 Hb6.out Hne6.out))
           have HK := Lib.hid (HK.out.trans hk6 (fun _ _ h => h))
           clear hr6 hk6 r1 r2
           (try simp only [PU]))
       )
       obtain ⟨a2, hbk, -, -, -⟩ := id Hr.out
       rw [Hm.out] at hbk
       have Hbr := Lib.hid hbk
       have r2 := (blk_cell hbk 2).trans rfl
       have hm1 : (0 : Int) ≤ (m : Int) := by omega
       clear hbk
       go_upto_region 8 with fail
       clear r2
       have r2 := (blk_cell Hbr.out 2).trans rfl
       have HKd := Lib.hid (HK.out.then (Keeps.refl Nob _).drew)
       refine wp_region_perm [(0, true), (1, true), (2, true), (3, true), (4, true), (5, false), (6, true), (7, true)] (fun w' => w'.cell? ⟨r, 2, none⟩ = some (.int .i64 m)) rfl (by kernel_rfl) (by kernel_rfl) (by decide) (fun c a d v w h => by cases d <;> exact h) r2 ?_
       refine pq (some 41) ?_; (try simp only [PU])
       refine pq (some 42) ?_; (try simp only [PU])
       refine pq (some 43) ?_; (try simp only [PU])
       refine pq (some 44) ?_; (try simp only [PU])
       refine pq (some 45) ?_; (try simp only [PU])
       refine perm_e rfl ?_
       go_must (refine ev_store (cs' := #[.int .i64 0, .bool false, .int .i64 0, .string ByteArray.empty, .slice none 0 0, .slice none 0 0]) rfl rfl rfl rfl rfl rfl HI.out.1 HI.out.2 rfl ((Keeps.refl Nob _).drew.blk Hb2.out id) (Nat.le_of_ble_eq_true rfl) rfl ?_; intro w9 hb9 hk9)
       (try simp only [PU])
       have Hb9 := Lib.hid hb9
       have HK9 := Lib.hid (show Keeps Nob w w9 from keeps_trans2 HKd.out hk9 Hne.out)
       have r2 := (blk_cell (hk9.blk ((Keeps.refl Nob _).drew.blk Hbr.out id) (fun e => Hne.out.1 e.symm)) 2).trans rfl
       clear hb9 hk9
       refine wpList_nil ⟨r2, ?_⟩
       refine pq (some 3) ?_; (try simp only [PU])
       refine pq (some 4) ?_; (try simp only [PU])
       refine perm_nil ?_
       have d0 := (blk_cell Hb9.out 0).trans rfl
       have d1 := (blk_cell Hb9.out 1).trans rfl
       have d2 := (blk_cell Hb9.out 2).trans rfl
       have d3 := (blk_cell Hb9.out 3).trans rfl
       have d4 := (blk_cell Hb9.out 4).trans rfl
       have d5 := (blk_cell Hb9.out 5).trans rfl
       go_wp2_with fail
       refine bodyPost_ret (results_ctt (x := .agg #[.int .i64 0, .bool false, .int .i64 0, .string ByteArray.empty, .slice none 0 0, .slice none 0 0]) rfl _ _ rfl (by go_simp) rfl rfl) rfl ?_
       rw [HR2.out]
       exact ⟨⟨_, rfl, zvalU⟩, HK9.out⟩
end Go.Proofs.WV

namespace Go.Proofs.WV
open Go.RowKit Go.Proofs.KL Go.Proofs.WM
set_option maxRecDepth 100000
set_option linter.unusedSimpArgs false
set_option linter.unusedVariables false

theorem stepP_max {dp f : Nat} {x x' : List ByteArray × List J} {s s' : Bs} (h : stepP dp f x s = .ok (x', s')) : max x'.1.length x'.2.length + s'.length ≤ max x.1.length x.2.length + s.length := by
 unfold stepP at h
 rcases hk : keyB x.1 s with e | ⟨k, r0⟩
 · rw [hk] at h; cases h
 · rw [hk] at h
   simp only at h
   rcases hi : innerF f dp r0 with e | ⟨v, r1⟩
   · rw [hi] at h; cases h
   · rw [hi] at h
     simp only [Except.ok.injEq, Prod.mk.injEq] at h
     obtain ⟨rfl, rfl⟩ := h
     have h1 := (keyB_len hk).1
     have h2 := ((read_ok f).2.1 dp r0 v r1 hi).2.1
     simp only [List.length_append, List.length_cons, List.length_nil]
     omega
theorem PairsInv.keep {r g2 gS g5 g3 gm base : Nat} {deep : Int} {x : List ByteArray × List J} {W W' : World} (h : PairsInv r g2 gS g5 g3 gm base deep x W) (hd : r < base ∧ ¬ g2 = r ∧ ¬ gS = r ∧ ¬ g3 = r ∧ ¬ gm = r ∧ ¬ g5 = r) (hk : Keeps (· = r) W W') : PairsInv r g2 gS g5 g3 gm base deep x W' := by
 obtain ⟨⟨h2, hS, h3⟩, ⟨es, c, hm, hs⟩, kv, vv, h5, hks, hvs⟩ := h
 obtain ⟨d1, d2, d3, d4, d5, d6⟩ := hd
 exact ⟨⟨hk.blk h2 d2, hk.blk hS d3, hk.blk h3 d4⟩, ⟨es, c, hk.blk hm d5, hs⟩, kv, vv, hk.blk h5 d6, hks.keep hk (fun k hk' e => by have := (hks.lt k hk').1; omega), hvs.keep hk (fun b _ e => .inl (by omega))⟩
theorem part103 {W : World} {r g2 gS g5 g3 gm base : Nat} {dp : Nat} {T : ByteArray} {s : Bs} {f : Nat} {x : List ByteArray × List J} (hr : Rd W r T s) (hI : PairsInv r g2 gS g5 g3 gm base dp x W)
  (hd : r < base ∧ ¬ g2 = r ∧ ¬ gS = r ∧ ¬ g3 = r ∧ ¬ gm = r ∧ ¬ g5 = r ∧ base ≤ gm ∧ base ≤ g5 ∧ base ≤ W.heap.size) (hn : x.1.length ≤ 1000000 ∧ x.2.length ≤ 1000000)
  (hin : ∀ s' W', s'.length < s.length → Rd W' r T s' → Calls Tryd.prog 80 #[.pointer (some ⟨r, 0, none⟩), .int .i64 dp] W' (ValOut W' r T (innerF f dp s'))) :
  Calls Tryd.prog 103 #[.pointer (some ⟨g2, 0, none⟩), .pointer (some ⟨gS, 0, none⟩), .pointer (some ⟨g5, 0, none⟩), .pointer (some ⟨g3, 0, none⟩)] W (PartOut W r T base (PairsInv r g2 gS g5 g3 gm base dp) (stepP dp f x s)) := by
 have hd3 : ¬ g2 = r ∧ ¬ gS = r ∧ ¬ gm = r := ⟨hd.2.1, hd.2.2.1, hd.2.2.2.2.1⟩
 rcases hs : strB s with m | ⟨t, r1⟩
 · have hst : stepP dp f x s = .error m := by simp only [stepP, keyB, hs]
   rw [hst]
   exact key103s hr hI hs
 · rcases hk : hasKey x.1 (mkB t) with _ | _
   · rcases hw : wordB [58] (blanksB r1) with m | r2
     · have hst : stepP dp f x s = .error m := by simp [stepP, keyB, hs, hk, hw]
       rw [hst]
       exact key103w hr hI hd3 hd.2.2.2.2.2.2.1 hs hk hw
     · have hkb : keyB x.1 s = .ok (mkB t, blanksB r2) := by simp [keyB, hs, hk, hw]
       have hl := (keyB_len hkb).1
       have hin' := fun W' (hr' : Rd W' r T (blanksB r2)) => hin (blanksB r2) W' hl hr'
       rcases hi : innerF f dp (blanksB r2) with m | ⟨j, s'⟩
       · have hst : stepP dp f x s = .error m := by simp only [stepP, hkb, hi]
         rw [hst]
         rw [hi] at hin'
         exact key103e hr hI hd hn hs hk hw hin'
       · have hst : stepP dp f x s = .ok ((x.1 ++ [mkB t], x.2 ++ [j]), s') := by simp only [stepP, hkb, hi]
         rw [hst]
         rw [hi] at hin'
         exact key103o hr hI hd hn hs hk hw hin'
   · have hst : stepP dp f x s = .error (r1.length + 1) := by simp [stepP, keyB, hs, hk]
     rw [hst]
     exact key103d hr hI hd3 hs hk
end Go.Proofs.WV

namespace Go.Proofs.WV
open Go.RowKit Go.Proofs.KL Go.Proofs.WM
set_option maxRecDepth 100000
set_option linter.unusedSimpArgs false
set_option linter.unusedVariables false

theorem zeroM98 : (Tryd.prog.info? 98).map (·.zero) = some (some (.map none)) := by kernel_rfl
theorem infoM98 : ∃ i, Tryd.prog.info? 98 = some i ∧ i.size = 1 := by
 have h : (Tryd.prog.info? 98).map (·.size) = some 1 := by kernel_rfl
 obtain ⟨i, hi, hs⟩ := Option.map_eq_some_iff.1 h
 exact ⟨i, hi, hs⟩
set_option maxHeartbeats 2000000 in
theorem keys81 {w : World} {r : Nat} {T : ByteArray} {c0 : UInt8} {q : Bs} (h : Rd w r T (c0 :: q)) (f dp : Nat) (hf : 3 * (blanksB q).length + 3 ≤ f)
  (hin : ∀ f' s W', s.length ≤ q.length → 3 * s.length + 2 ≤ f' → Rd W' r T s → Calls Tryd.prog 80 #[.pointer (some ⟨r, 0, none⟩), .int .i64 dp] W' (ValOut W' r T (innerF f' dp s))) :
  Calls Tryd.prog 81 #[.pointer (some ⟨r, 0, none⟩), .int .i64 dp] w (ValOut w r T (tabR (openL 125 (stepP dp) f ([], []) q))) := by
 obtain ⟨i25, hi25, hs25⟩ := info25
 obtain ⟨iM, hiM, hsM⟩ := infoM98
 have HI := Lib.hid (And.intro hi25 hs25)
 have HIM := Lib.hid (And.intro hiM hsM)
 have H := Lib.hid h
 have hq : q.length ≤ 1000000 := by have := h.le; have := h.len; simp only [List.length_cons] at *; omega
 have HL := Lib.hid (fun (W : World) (g2 g3 g5 gm gS : Nat) (hr : Rd W r T (c0 :: q)) (hb : g5 ≤ W.heap.size) (hg : w.heap.size ≤ g2 ∧ w.heap.size ≤ g3 ∧ w.heap.size ≤ g5 ∧ g5 ≤ gm ∧ w.heap.size ≤ gS)
   (hI : PairsInv r g2 gS g5 g3 gm g5 dp ([], []) W) =>
  list78k hr g5 ⟨Nat.lt_of_lt_of_le h.lt hg.2.2.1, hb⟩ 125 g2 gS g5 g3 (stepP dp) (PairsInv r g2 gS g5 g3 gm g5 dp)
   (fun x W1 W2 hi hk => by
     have hl := h.lt
     exact hi.keep ⟨by omega, by omega, by omega, by omega, by omega, by omega⟩ hk)
   (fun f x s x' s' hs => (stepP_len hs).1) (fun x => max x.1.length x.2.length) q.length (fun f x s x' s' hs => stepP_max hs)
   (fun f' x s W1 hf' hB hr1 hi1 hk1 => by
     have hl := h.lt
     have hsz := hk1.size
     exact part103 hr1 hi1 ⟨by omega, by omega, by omega, by omega, by omega, by omega, by omega, by omega, by omega⟩ (by omega) (fun s' W' hl' hr' => hin f' s' W' (by omega) (by omega) hr'))
   f hf ([], []) hI (by simp))
 obtain ⟨R0, hR0⟩ : ∃ x, openL 125 (stepP dp) f ([], []) q = x := ⟨_, rfl⟩
 rw [hR0] at HL ⊢
 clear h hin hf hR0 hi25 hs25 hiM hsM
 rcases R0 with m | ⟨⟨ks, vs⟩, r1⟩
 · show Calls _ _ _ _ (ValOut w r T (.error m))
   go_enter Tryd.func81, Tryd.ntmps81
   go_wp2_with (first
    | ((with_reducible refine at_dst (N := 2) rfl ?_); go_must (refine ev_box (cs := #[.pointer (some ⟨r, 0, none⟩)]) rfl rfl rfl ?_; intro g2 w1 hg2 hl2 hb2 hk2)
       have Hb2 := Lib.hid hb2
       have HKa := Lib.hid hk2
       have hgB := hg2
       clear hb2 hk2
       (try simp only [PU]))
    | ((with_reducible refine at_dst (N := 3) rfl ?_); go_must (refine ev_box (cs := #[.int .i64 dp]) rfl rfl rfl ?_; intro g3 w2 hg3 hl3 hb3 hk3)
       have Hb2 := Lib.hid (hk3.blk Hb2.out id)
       have Hb3 := Lib.hid hb3
       have hgA : w.heap.size ≤ g2 ∧ w.heap.size ≤ g3 := ⟨hgB, Nat.le_trans HKa.out.size hg3⟩
       have HKa := Lib.hid (HKa.out.trans hk3 (fun _ _ h => h))
       clear hb3 hk3
       (try simp only [PU]))
    | ((with_reducible refine at_dst (N := 4) rfl ?_); go_must (refine ev_alloc rfl rfl zero25 rfl ?_; intro g4 w3 hg4 hl4 hb4 hk4)
       have Hb2 := Lib.hid (hk4.blk Hb2.out id)
       have Hb3 := Lib.hid (hk4.blk Hb3.out id)
       have Hb4 := Lib.hid hb4
       have Hg4 := Lib.hid (show w.heap.size ≤ g4 from Nat.le_trans HKa.out.size hg4)
       have HKa := Lib.hid (HKa.out.trans hk4 (fun _ _ h => h))
       have Hg2 := Lib.hid (show w.heap.size ≤ g2 ∧ w.heap.size ≤ g3 from hgA)
       clear hb4 hk4
       (try simp only [PU]))
    | ((with_reducible refine at_dst (N := 5) rfl ?_); go_must (refine ev_alloc rfl rfl zero25 rfl ?_; intro g5 w4 hg5 hl5 hb5 hk5)
       have Hg45 := Lib.hid (show g4 < g5 from Nat.lt_of_lt_of_le (blk_lt Hb4.out) hg5)
       have Hg5 := Lib.hid (show w.heap.size ≤ g5 from Nat.le_trans HKa.out.size hg5)
       have Hb2 := Lib.hid (hk5.blk Hb2.out id)
       have Hb3 := Lib.hid (hk5.blk Hb3.out id)
       have Hb4 := Lib.hid (hk5.blk Hb4.out id)
       have Hb5 := Lib.hid hb5
       have HKa := Lib.hid (HKa.out.trans hk5 (fun _ _ h => h))
       clear hb5 hk5
       (try simp only [PU]))
    | ((with_reducible refine at_store (t := 25) (p := 5) rfl ?_); go_must (refine ev_store (cs' := #[.int .i64 6, .bool false, .int .i64 0, .string ByteArray.empty, .slice none 0 0, .slice none 0 0]) rfl rfl rfl rfl rfl rfl HI.out.1 HI.out.2 rfl Hb5.out (Nat.le_of_ble_eq_true rfl) rfl ?_; intro w5 hb6 hk6)
       have Hb2 := Lib.hid (hk6.blk Hb2.out (blk_type Hb2.out Hb5.out (by decide) : ¬ g2 = g5))
       have Hb3 := Lib.hid (hk6.blk Hb3.out (blk_type Hb3.out Hb5.out (by decide) : ¬ g3 = g5))
       have HKa := Lib.hid (show Keeps Nob w w5 from HKa.out.trans hk6 (fun i hi e => by have := Hg5.out; omega))
       have Hb4 := Lib.hid (hk6.blk Hb4.out (fun e : g4 = g5 => by have := Hg45.out; omega))
       have Hb5 := Lib.hid hb6
       clear hb6 hk6
       (try simp only [PU]))
    | ((with_reducible refine at_dst (N := 8) rfl ?_); go_must (refine ev_makeMap rfl rfl ?_; intro gm w6 hgm hlm hbm hkm)
       have Hgm := Lib.hid (show g5 ≤ gm from Nat.le_trans (Nat.le_of_lt (blk_lt Hb5.out)) hgm)
       have Hb2 := Lib.hid (hkm.blk Hb2.out id)
       have Hb3 := Lib.hid (hkm.blk Hb3.out id)
       have Hb4 := Lib.hid (hkm.blk Hb4.out id)
       have Hb5 := Lib.hid (hkm.blk Hb5.out id)
       have Hbm := Lib.hid hbm
       have HKa := Lib.hid (HKa.out.trans hkm (fun _ _ h => h))
       clear hbm hkm
       (try simp only [PU]))
    | ((with_reducible refine at_dst (N := 6) rfl ?_); go_must (refine ev_alloc rfl rfl zeroM98 rfl ?_; intro gS w7 hgS hlS hbS hkS)
       have HgS := Lib.hid (show w.heap.size ≤ gS ∧ g5 < gS from ⟨Nat.le_trans HKa.out.size hgS, Nat.lt_of_lt_of_le (blk_lt Hb5.out) hgS⟩)
       have Hb2 := Lib.hid (hkS.blk Hb2.out id)
       have Hb3 := Lib.hid (hkS.blk Hb3.out id)
       have Hb4 := Lib.hid (hkS.blk Hb4.out id)
       have Hb5 := Lib.hid (hkS.blk Hb5.out id)
       have Hbm := Lib.hid (hkS.blk Hbm.out id)
       have HbS := Lib.hid hbS
       have HKa := Lib.hid (HKa.out.trans hkS (fun _ _ h => h))
       clear hbS hkS
       (try simp only [PU]))
    | ((with_reducible refine at_store (t := 98) (p := 6) rfl ?_); go_must (refine ev_store (cs' := #[.map (some gm)]) rfl rfl rfl rfl rfl rfl HIM.out.1 HIM.out.2 rfl HbS.out (Nat.le_of_ble_eq_true rfl) rfl ?_; intro w8 hb8 hk8)
       have Hb2 := Lib.hid (hk8.blk Hb2.out (blk_type Hb2.out HbS.out (by decide) : ¬ g2 = gS))
       have Hb3 := Lib.hid (hk8.blk Hb3.out (blk_type Hb3.out HbS.out (by decide) : ¬ g3 = gS))
       have Hb4 := Lib.hid (hk8.blk Hb4.out (blk_type Hb4.out HbS.out (by decide) : ¬ g4 = gS))
       have Hb5 := Lib.hid (hk8.blk Hb5.out (blk_type Hb5.out HbS.out (by decide) : ¬ g5 = gS))
       have Hbm := Lib.hid (hk8.blk Hbm.out (fun e : gm = gS => map_ne HbS.out Hbm.out e.symm))
       have HbS := Lib.hid hb8
       have HKa := Lib.hid (show Keeps Nob w w8 from HKa.out.trans hk8 (fun i hi e => by have := HgS.out; omega))
       have Hr8 := Lib.hid (H.out.keep HKa.out id)
       have c2 := (blk_cell Hb2.out 0).trans rfl
       clear hb8 hk8
       (try simp only [PU]))
    | (go_at_call 78; go_must (refine (HL.out _ g2 g3 g5 gm gS Hr8.out (Nat.le_of_lt (blk_lt Hb5.out)) ⟨Hg2.out.1, Hg2.out.2, Hg5.out, Hgm.out, HgS.out.1⟩ ⟨⟨Hb2.out, HbS.out, Hb3.out⟩, ⟨_, _, Hbm.out, StrSet.nil⟩, _, _, Hb5.out, OwnS.nil _ _, OwnJ.nil _ _ _⟩).mono ?_; rintro e w9 ⟨rfl, hk9⟩); have HK9 := Lib.hid hk9; clear hk9; unfold stopAt; (try simp only [PU]))
   )
   exact ⟨rfl, rfl, HKa.out.any.trans HK9.out (fun i hi e => e.elim id (fun e => by have := Hg5.out; omega))⟩
 · show Calls _ _ _ _ (ValOut w r T (.ok (.mk 6 false 0 ByteArray.empty ks vs, r1)))
   go_enter Tryd.func81, Tryd.ntmps81
   go_wp2_with (first
    | ((with_reducible refine at_dst (N := 2) rfl ?_); go_must (refine ev_box (cs := #[.pointer (some ⟨r, 0, none⟩)]) rfl rfl rfl ?_; intro g2 w1 hg2 hl2 hb2 hk2)
       have Hb2 := Lib.hid hb2
       have HKa := Lib.hid hk2
       have hgB := hg2
       clear hb2 hk2
       (try simp only [PU]))
    | ((with_reducible refine at_dst (N := 3) rfl ?_); go_must (refine ev_box (cs := #[.int .i64 dp]) rfl rfl rfl ?_; intro g3 w2 hg3 hl3 hb3 hk3)
       have Hb2 := Lib.hid (hk3.blk Hb2.out id)
       have Hb3 := Lib.hid hb3
       have hgA : w.heap.size ≤ g2 ∧ w.heap.size ≤ g3 := ⟨hgB, Nat.le_trans HKa.out.size hg3⟩
       have HKa := Lib.hid (HKa.out.trans hk3 (fun _ _ h => h))
       clear hb3 hk3
       (try simp only [PU]))
    | ((with_reducible refine at_dst (N := 4) rfl ?_); go_must (refine ev_alloc rfl rfl zero25 rfl ?_; intro g4 w3 hg4 hl4 hb4 hk4)
       have Hb2 := Lib.hid (hk4.blk Hb2.out id)
       have Hb3 := Lib.hid (hk4.blk Hb3.out id)
       have Hb4 := Lib.hid hb4
       have Hg4 := Lib.hid (show w.heap.size ≤ g4 from Nat.le_trans HKa.out.size hg4)
       have HKa := Lib.hid (HKa.out.trans hk4 (fun _ _ h => h))
       have Hg2 := Lib.hid (show w.heap.size ≤ g2 ∧ w.heap.size ≤ g3 from hgA)
       clear hb4 hk4
       (try simp only [PU]))
    | ((with_reducible refine at_dst (N := 5) rfl ?_); go_must (refine ev_alloc rfl rfl zero25 rfl ?_; intro g5 w4 hg5 hl5 hb5 hk5)
       have Hg45 := Lib.hid (show g4 < g5 from Nat.lt_of_lt_of_le (blk_lt Hb4.out) hg5)
       have Hg5 := Lib.hid (show w.heap.size ≤ g5 from Nat.le_trans HKa.out.size hg5)
       have Hb2 := Lib.hid (hk5.blk Hb2.out id)
       have Hb3 := Lib.hid (hk5.blk Hb3.out id)
       have Hb4 := Lib.hid (hk5.blk Hb4.out id)
       have Hb5 := Lib.hid hb5
       have HKa := Lib.hid (HKa.out.trans hk5 (fun _ _ h => h))
       clear hb5 hk5
       (try simp only [PU]))
    | ((with_reducible refine at_store (t := 25) (p := 5) rfl ?_); go_must (refine ev_store (cs' := #[.int .i64 6, .bool false, .int .i64 0, .string ByteArray.empty, .slice none 0 0, .slice none 0 0]) rfl rfl rfl rfl rfl rfl HI.out.1 HI.out.2 rfl Hb5.out (Nat.le_of_ble_eq_true rfl) rfl ?_; intro w5 hb6 hk6)
       have Hb2 := Lib.hid (hk6.blk Hb2.out (blk_type Hb2.out Hb5.out (by decide) : ¬ g2 = g5))
       have Hb3 := Lib.hid (hk6.blk Hb3.out (blk_type Hb3.out Hb5.out (by decide) : ¬ g3 = g5))
       have HKa := Lib.hid (show Keeps Nob w w5 from HKa.out.trans hk6 (fun i hi e => by have := Hg5.out; omega))
       have Hb4 := Lib.hid (hk6.blk Hb4.out (fun e : g4 = g5 => by have := Hg45.out; omega))
       have Hb5 := Lib.hid hb6
       clear hb6 hk6
       (try simp only [PU]))
    | ((with_reducible refine at_dst (N := 8) rfl ?_); go_must (refine ev_makeMap rfl rfl ?_; intro gm w6 hgm hlm hbm hkm)
       have Hgm := Lib.hid (show g5 ≤ gm from Nat.le_trans (Nat.le_of_lt (blk_lt Hb5.out)) hgm)
       have Hb2 := Lib.hid (hkm.blk Hb2.out id)
       have Hb3 := Lib.hid (hkm.blk Hb3.out id)
       have Hb4 := Lib.hid (hkm.blk Hb4.out id)
       have Hb5 := Lib.hid (hkm.blk Hb5.out id)
       have Hbm := Lib.hid hbm
       have HKa := Lib.hid (HKa.out.trans hkm (fun _ _ h => h))
       clear hbm hkm
       (try simp only [PU]))
    | ((with_reducible refine at_dst (N := 6) rfl ?_); go_must (refine ev_alloc rfl rfl zeroM98 rfl ?_; intro gS w7 hgS hlS hbS hkS)
       have HgS := Lib.hid (show w.heap.size ≤ gS ∧ g5 < gS from ⟨Nat.le_trans HKa.out.size hgS, Nat.lt_of_lt_of_le (blk_lt Hb5.out) hgS⟩)
       have Hb2 := Lib.hid (hkS.blk Hb2.out id)
       have Hb3 := Lib.hid (hkS.blk Hb3.out id)
       have Hb4 := Lib.hid (hkS.blk Hb4.out id)
       have Hb5 := Lib.hid (hkS.blk Hb5.out id)
       have Hbm := Lib.hid (hkS.blk Hbm.out id)
       have HbS := Lib.hid hbS
       have HKa := Lib.hid (HKa.out.trans hkS (fun _ _ h => h))
       clear hbS hkS
       (try simp only [PU]))
    | ((with_reducible refine at_store (t := 98) (p := 6) rfl ?_); go_must (refine ev_store (cs' := #[.map (some gm)]) rfl rfl rfl rfl rfl rfl HIM.out.1 HIM.out.2 rfl HbS.out (Nat.le_of_ble_eq_true rfl) rfl ?_; intro w8 hb8 hk8)
       have Hb2 := Lib.hid (hk8.blk Hb2.out (blk_type Hb2.out HbS.out (by decide) : ¬ g2 = gS))
       have Hb3 := Lib.hid (hk8.blk Hb3.out (blk_type Hb3.out HbS.out (by decide) : ¬ g3 = gS))
       have Hb4 := Lib.hid (hk8.blk Hb4.out (blk_type Hb4.out HbS.out (by decide) : ¬ g4 = gS))
       have Hb5 := Lib.hid (hk8.blk Hb5.out (blk_type Hb5.out HbS.out (by decide) : ¬ g5 = gS))
       have Hbm := Lib.hid (hk8.blk Hbm.out (fun e : gm = gS => map_ne HbS.out Hbm.out e.symm))
       have HbS := Lib.hid hb8
       have HKa := Lib.hid (show Keeps Nob w w8 from HKa.out.trans hk8 (fun i hi e => by have := HgS.out; omega))
       have Hr8 := Lib.hid (H.out.keep HKa.out id)
       have c2 := (blk_cell Hb2.out 0).trans rfl
       clear hb8 hk8
       (try simp only [PU]))
    | (go_at_call 78; go_must (refine (HL.out _ g2 g3 g5 gm gS Hr8.out (Nat.le_of_lt (blk_lt Hb5.out)) ⟨Hg2.out.1, Hg2.out.2, Hg5.out, Hgm.out, HgS.out.1⟩ ⟨⟨Hb2.out, HbS.out, Hb3.out⟩, ⟨_, _, Hbm.out, StrSet.nil⟩, _, _, Hb5.out, OwnS.nil _ _, OwnJ.nil _ _ _⟩).mono ?_; rintro e w9 ⟨⟨y9, rfl⟩, hr9, ⟨-, -, kv, vv, h5, hks, hvs⟩, hk9⟩; obtain ⟨kA, kc, rfl, -⟩ := hks.slice; obtain ⟨X, xs, hrow⟩ := id hvs; obtain ⟨vA, vc, rfl, -⟩ := row_slice hrow.row)
       have Hr9 := Lib.hid hr9
       have Hks := Lib.hid hks
       have Hvs := Lib.hid hvs
       have HK9 := Lib.hid (show Keeps (· = r) w w9 from HKa.out.any.trans hk9 (fun i hi e => e.elim id (fun e => by have := Hg5.out; omega)))
       have Hb9 := Lib.hid (hk9.blk (Hb4.out) (fun e => e.elim (fun e => by have := Hg4.out; have := H.out.lt; omega) (fun e => by have := Hg45.out; omega)))
       have s0 := (blk_cell h5 0).trans rfl
       have s1 := (blk_cell h5 1).trans rfl
       have s2 := (blk_cell h5 2).trans rfl
       have s3 := (blk_cell h5 3).trans rfl
       have s4 := (blk_cell h5 4).trans rfl
       have s5 := (blk_cell h5 5).trans rfl
       clear hr9 h5 hks hvs hk9 hrow
       generalize ks.length = nk at *
       generalize vs.length = nv at *
       (try simp only [PU]))
    | ((with_reducible refine at_store (t := 25) (p := 4) rfl ?_); go_must (refine ev_store (cs' := #[.int .i64 6, .bool false, .int .i64 0, .string ByteArray.empty, .slice kA nk kc, .slice vA nv vc]) rfl rfl rfl rfl rfl rfl HI.out.1 HI.out.2 rfl Hb9.out (Nat.le_of_ble_eq_true rfl) rfl ?_; intro w10 hb10 hk10)
       have HK10 := Lib.hid hk10
       clear s0 s1 s2 s3 s4 s5
       have s0 := (blk_cell hb10 0).trans rfl
       have s1 := (blk_cell hb10 1).trans rfl
       have s2 := (blk_cell hb10 2).trans rfl
       have s3 := (blk_cell hb10 3).trans rfl
       have s4 := (blk_cell hb10 4).trans rfl
       have s5 := (blk_cell hb10 5).trans rfl
       clear hb10 hk10
       (try simp only [PU]))
   )
   refine bodyPost_ret (v := .agg #[.int .i64 6, .bool false, .int .i64 0, .string ByteArray.empty, .slice kA nk kc, .slice vA nv vc]) (by rw [results_cell1 rfl]; go_simp) rfl ?_
   have hjs := (Hvs.out.js.keep HK10.out (X' := fun b => w.heap.size ≤ b) (fun b hb hx e => by have := Hg45.out; omega) (fun b hb hx => Nat.le_trans Hg5.out hx))
   have hss := (Hks.out.strs.keep HK10.out (X' := fun b => w.heap.size ≤ b) (fun b hb hx e => by have := Hg45.out; omega) (fun b hb hx => Nat.le_trans Hg5.out hx))
   exact ⟨⟨_, rfl, JX.close hss hjs⟩, Hr9.out.keep HK10.out (fun e : r = g4 => by have := Hg4.out; have := H.out.lt; omega), HK9.out.trans HK10.out (fun i hi e => by have := Hg4.out; omega)⟩
end Go.Proofs.WV

namespace Go.Proofs.WV
open Go.RowKit Go.Proofs.KL Go.Proofs.WM
set_option maxRecDepth 100000
set_option linter.unusedSimpArgs false
set_option linter.unusedVariables false

set_option maxHeartbeats 2000000 in
theorem valueTable {w : World} {r : Nat} {T : ByteArray} {q : Bs} (h : Rd w r T (123 :: q)) (f dp : Nat) (hf : 3 * (blanksB q).length + 3 ≤ f)
  (hin : ∀ f' s W', s.length ≤ q.length → 3 * s.length + 2 ≤ f' → Rd W' r T s → Calls Tryd.prog 80 #[.pointer (some ⟨r, 0, none⟩), .int .i64 dp] W' (ValOut W' r T (innerF f' dp s))) :
  Calls Tryd.prog 46 #[.pointer (some ⟨r, 0, none⟩), .int .i64 dp] w (ValOut w r T (valueF (f + 1) dp (123 :: q))) := by
 obtain ⟨i25, hi25, hs25⟩ := info25
 have HI := Lib.hid (And.intro hi25 hs25)
 have H := Lib.hid h
 have H73 := Lib.hid (fun W (hk : Keeps Nob w W) => next73 (h.keep hk id))
 have H76 := Lib.hid (fun W (hk : Keeps Nob w W) => digit76 (h.keep hk id))
 have hhd : headN (123 :: q) = 123 := rfl
 have hsd : startsDigit (123 :: q) = false := by show isDigit 123 = false; decide
 rw [hhd] at H73
 rw [hsd] at H76
 rw [value_table]
 have H81 := Lib.hid (fun W (hr : Rd W r T (123 :: q)) => keys81 hr f dp hf hin)
 obtain ⟨R0, hR0⟩ : ∃ x, tabR (openL 125 (stepP dp) f ([], []) q) = x := ⟨_, rfl⟩
 rw [hR0] at H81 ⊢
 clear h hin hf hhd hsd hR0 hi25 hs25
 rcases R0 with m | ⟨j, r1⟩
 · show Calls _ _ _ _ (ValOut w r T (.error m))
   go_enter Tryd.func46, Tryd.ntmps46
   go_wp2_with (first
    | ((with_reducible refine at_dst (N := 2) rfl ?_); go_must (refine ev_box (cs := #[.pointer (some ⟨r, 0, none⟩)]) rfl rfl rfl ?_; intro g2 w1 hg2 hl2 hb2 hk2)
       have Hb2 := Lib.hid hb2
       have HKa := Lib.hid hk2
       clear hb2 hk2
       (try simp only [PU]))
    | ((with_reducible refine at_dst (N := 3) rfl ?_); go_must (refine ev_box (cs := #[.int .i64 dp]) rfl rfl rfl ?_; intro g3 w2 hg3 hl3 hb3 hk3)
       have Hb2 := Lib.hid (hk3.blk Hb2.out id)
       have Hb3 := Lib.hid hb3
       have HKa := Lib.hid (HKa.out.trans hk3 (fun _ _ h => h))
       clear hb3 hk3
       (try simp only [PU]))
    | ((with_reducible refine at_dst (N := 4) rfl ?_); go_must (refine ev_alloc rfl rfl zero25 rfl ?_; intro g4 w3 hg4 hl4 hb4 hk4)
       have Hb2 := Lib.hid (hk4.blk Hb2.out id)
       have Hb3 := Lib.hid (hk4.blk Hb3.out id)
       have Hb4 := Lib.hid hb4
       have Hg4 := Lib.hid (show w.heap.size ≤ g4 from Nat.le_trans HKa.out.size hg4)
       have HKa := Lib.hid (HKa.out.trans hk4 (fun _ _ h => h))
       have c2 := (blk_cell Hb2.out 0).trans rfl
       clear hb4 hk4
       (try simp only [PU]))
    | (go_at_call 73; go_must (refine (H73.out _ HKa.out).mono ?_; rintro e w4 ⟨rfl, hk5⟩)
       have Hb2 := Lib.hid (hk5.blk Hb2.out id)
       have Hb3 := Lib.hid (hk5.blk Hb3.out id)
       have Hb4 := Lib.hid (hk5.blk Hb4.out id)
       have HKa := Lib.hid (HKa.out.trans hk5 (fun _ _ h => h))
       have Hr4 := Lib.hid (H.out.keep HKa.out id)
       clear c2 hk5
       have c2 := (blk_cell Hb2.out 0).trans rfl
       have c3 := (blk_cell Hb3.out 0).trans rfl
       (try simp only [PU]))
    | (go_at_call 76; go_must (refine (H76.out _ HKa.out).mono ?_; rintro e w5 ⟨rfl, hk6⟩)
       have Hb2 := Lib.hid (hk6.blk Hb2.out id)
       have Hb3 := Lib.hid (hk6.blk Hb3.out id)
       have Hb4 := Lib.hid (hk6.blk Hb4.out id)
       have HKa := Lib.hid (HKa.out.trans hk6 (fun _ _ h => h))
       have Hr4 := Lib.hid (H.out.keep HKa.out id)
       clear c2 c3 hk6
       have c2 := (blk_cell Hb2.out 0).trans rfl
       have c3 := (blk_cell Hb3.out 0).trans rfl
       (try simp only [PU]))
    | (go_at_call 81; go_must (refine (H81.out _ Hr4.out).mono ?_; rintro e w6 ⟨rfl, hk6⟩); have HK6 := Lib.hid hk6; clear hk6; unfold stopAt; (try simp only [PU]))
   )
   exact ⟨rfl, rfl, HKa.out.any.trans HK6.out (fun _ _ h => h)⟩
 · show Calls _ _ _ _ (ValOut w r T (.ok (j, r1)))
   go_enter Tryd.func46, Tryd.ntmps46
   go_wp2_with (first
    | ((with_reducible refine at_dst (N := 2) rfl ?_); go_must (refine ev_box (cs := #[.pointer (some ⟨r, 0, none⟩)]) rfl rfl rfl ?_; intro g2 w1 hg2 hl2 hb2 hk2)
       have Hb2 := Lib.hid hb2
       have HKa := Lib.hid hk2
       clear hb2 hk2
       (try simp only [PU]))
    | ((with_reducible refine at_dst (N := 3) rfl ?_); go_must (refine ev_box (cs := #[.int .i64 dp]) rfl rfl rfl ?_; intro g3 w2 hg3 hl3 hb3 hk3)
       have Hb2 := Lib.hid (hk3.blk Hb2.out id)
       have Hb3 := Lib.hid hb3
       have HKa := Lib.hid (HKa.out.trans hk3 (fun _ _ h => h))
       clear hb3 hk3
       (try simp only [PU]))
    | ((with_reducible refine at_dst (N := 4) rfl ?_); go_must (refine ev_alloc rfl rfl zero25 rfl ?_; intro g4 w3 hg4 hl4 hb4 hk4)
       have Hb2 := Lib.hid (hk4.blk Hb2.out id)
       have Hb3 := Lib.hid (hk4.blk Hb3.out id)
       have Hb4 := Lib.hid hb4
       have Hg4 := Lib.hid (show w.heap.size ≤ g4 from Nat.le_trans HKa.out.size hg4)
       have HKa := Lib.hid (HKa.out.trans hk4 (fun _ _ h => h))
       have c2 := (blk_cell Hb2.out 0).trans rfl
       clear hb4 hk4
       (try simp only [PU]))
    | (go_at_call 73; go_must (refine (H73.out _ HKa.out).mono ?_; rintro e w4 ⟨rfl, hk5⟩)
       have Hb2 := Lib.hid (hk5.blk Hb2.out id)
       have Hb3 := Lib.hid (hk5.blk Hb3.out id)
       have Hb4 := Lib.hid (hk5.blk Hb4.out id)
       have HKa := Lib.hid (HKa.out.trans hk5 (fun _ _ h => h))
       have Hr4 := Lib.hid (H.out.keep HKa.out id)
       clear c2 hk5
       have c2 := (blk_cell Hb2.out 0).trans rfl
       have c3 := (blk_cell Hb3.out 0).trans rfl
       (try simp only [PU]))
    | (go_at_call 76; go_must (refine (H76.out _ HKa.out).mono ?_; rintro e w5 ⟨rfl, hk6⟩)
       have Hb2 := Lib.hid (hk6.blk Hb2.out id)
       have Hb3 := Lib.hid (hk6.blk Hb3.out id)
       have Hb4 := Lib.hid (hk6.blk Hb4.out id)
       have HKa := Lib.hid (HKa.out.trans hk6 (fun _ _ h => h))
       have Hr4 := Lib.hid (H.out.keep HKa.out id)
       clear c2 c3 hk6
       have c2 := (blk_cell Hb2.out 0).trans rfl
       have c3 := (blk_cell Hb3.out 0).trans rfl
       (try simp only [PU]))
    | (go_at_call 81; go_must (refine (H81.out _ Hr4.out).mono ?_; rintro e w6 ⟨⟨v1, rfl, hv1⟩, hr1, hk1⟩; obtain ⟨jk, jb, jn, jt, jks, jvs, jkv, jvv, hjj, rfl, hjk, hjv⟩ := hv1.open; obtain ⟨kA, kc, rfl, -, -⟩ := hjk; obtain ⟨jA, jc, ju, rfl, -, -, -⟩ := hjv)
       have HV := Lib.hid hv1
       have Hr6 := Lib.hid hr1
       have HK6 := Lib.hid ((HKa.out.any (M := (· = r))).trans hk1 (fun _ _ h => h))
       have Hb6 := Lib.hid (hk1.blk Hb4.out (fun e : g4 = r => by have := Hg4.out; have := H.out.lt; omega))
       have Hsz := Lib.hid (show g4 < _ from blk_lt Hb4.out)
       clear hv1 hr1 hk1 hjj
       generalize jks.length = kl at *
       generalize jvs.length = vl at *
       (try simp only [PU]))
    | ((with_reducible refine at_store (t := 25) (p := 4) rfl ?_); go_must (refine ev_store (cs' := #[.int .i64 jk, .bool jb, .int .i64 jn, .string jt, .slice kA kl kc, .slice jA vl jc]) rfl rfl rfl rfl rfl rfl HI.out.1 HI.out.2 rfl Hb6.out (Nat.le_of_ble_eq_true rfl) rfl ?_; intro w7 hb7 hk7)
       have HK7 := Lib.hid hk7
       have s0 := (blk_cell hb7 0).trans rfl
       have s1 := (blk_cell hb7 1).trans rfl
       have s2 := (blk_cell hb7 2).trans rfl
       have s3 := (blk_cell hb7 3).trans rfl
       have s4 := (blk_cell hb7 4).trans rfl
       have s5 := (blk_cell hb7 5).trans rfl
       clear hb7 hk7
       (try simp only [PU]))
   )
   refine bodyPost_ret (v := .agg #[.int .i64 jk, .bool jb, .int .i64 jn, .string jt, .slice kA kl kc, .slice jA vl jc]) (by rw [results_cell1 rfl]; go_simp) rfl ?_
   refine ⟨⟨_, rfl, HV.out.keep HK7.out (fun b hb hx e => by have := Hsz.out; omega) (fun b hb hx => Nat.le_trans HKa.out.size hx)⟩, Hr6.out.keep HK7.out (fun e : r = g4 => by have := Hg4.out; have := H.out.lt; omega), HK6.out.trans HK7.out (fun i hi e => by have := Hg4.out; omega)⟩
end Go.Proofs.WV

namespace Go.Proofs.WV
open Go.RowKit Go.Proofs.KL Go.Proofs.WM
set_option linter.unusedVariables false

def ValOK (dp : Nat) : Prop := ∀ (f : Nat) (s : Bs) (w : World) (r : Nat) (T : ByteArray), 3 * s.length + 1 ≤ f → Rd w r T s → Calls Tryd.prog 46 #[.pointer (some ⟨r, 0, none⟩), .int .i64 dp] w (ValOut w r T (valueF f dp s))
theorem inner_of {dp : Nat} (hd : dp ≤ 40) (hV : 1 < dp → ValOK (dp - 1)) (f' : Nat) (s : Bs) (W' : World) {r : Nat} {T : ByteArray} (hf : 3 * s.length + 2 ≤ f') (hr : Rd W' r T s) :
  Calls Tryd.prog 80 #[.pointer (some ⟨r, 0, none⟩), .int .i64 dp] W' (ValOut W' r T (innerF f' dp s)) := by
 obtain ⟨f, rfl⟩ : ∃ f, f' = f + 1 := ⟨f' - 1, by omega⟩
 unfold innerF
 by_cases h1 : dp ≤ 1
 · rw [if_pos h1]
   exact inner80e hr dp h1
 · rw [if_neg h1]
   exact inner80v hr dp ⟨by omega, hd⟩ _ (fun W'' hr' => hV (by omega) f s W'' r T (by omega) hr')
theorem headN_ne {c : UInt8} {q : Bs} {k : Nat} (h : c ≠ UInt8.ofNat k) : headN (c :: q) ≠ (k : Int) := fun e => h (by
 have e' : (c.toNat : Int) = (k : Int) := e
 have e2 : c.toNat = k := by omega
 rw [← e2, UInt8.ofNat_toNat])
theorem value_step {dp : Nat} (hd : dp ≤ 40) (hV : 1 < dp → ValOK (dp - 1)) : ValOK dp := by
 intro f s w r T hf hr
 obtain ⟨f, rfl⟩ : ∃ f', f = f' + 1 := ⟨f - 1, by omega⟩
 rcases s with _ | ⟨c, q⟩
 · have hv : valueF (f + 1) dp [] = .error ([] : Bs).length := by unfold valueF; rfl
   rw [hv]
   exact valueBad hr (fun k hk e => by
    have e' : (0 : Int) = (k : Int) := e
    have : k = 0 := by omega
    subst this
    revert hk
    decide) rfl dp
 · have hb := blanksB_le q
   simp only [List.length_cons] at hf
   have hin := fun f' s W' (_ : s.length ≤ q.length) (hf' : 3 * s.length + 2 ≤ f') (hr' : Rd W' r T s) => inner_of hd hV f' s W' hf' hr'
   by_cases h1 : c = 110
   · subst h1; exact valueNull hr f dp dp
   by_cases h2 : c = 116
   · subst h2; exact valueTrue hr f dp dp
   by_cases h3 : c = 102
   · subst h3; exact valueFalse hr f dp dp
   by_cases h4 : c = 34
   · subst h4; exact valueStr hr f dp dp
   by_cases h5 : c = 45 ∨ isDigit c = true
   · exact valueInt hr h5 f dp dp
   by_cases h6 : c = 91
   · subst h6; exact valueList hr f dp (by omega) hin
   by_cases h7 : c = 123
   · subst h7; exact valueTable hr f dp (by omega) hin
   have hv : valueF (f + 1) dp (c :: q) = .error (c :: q).length := by
    unfold valueF
    rw [if_neg h1, if_neg h2, if_neg h3, if_neg h4, if_neg h5, if_neg h6, if_neg h7]
    rfl
   rw [hv]
   refine valueBad hr (fun k hk => headN_ne ?_) ?_ dp
   · simp only [List.mem_cons, List.not_mem_nil, or_false] at hk
     rcases hk with rfl | rfl | rfl | rfl | rfl | rfl | rfl
     · exact h1
     · exact h2
     · exact h3
     · exact h4
     · exact fun e => h5 (.inl e)
     · exact h6
     · exact h7
   · show isDigit c = false
     rcases hc : isDigit c with _ | _
     · rfl
     · exact absurd (.inr hc) h5
theorem value_all : ∀ dp : Nat, dp ≤ 40 → ValOK dp := by
 intro dp
 induction dp with
 | zero => exact fun hd => value_step hd (fun h => absurd h (by omega))
 | succ d ih => exact fun hd => value_step hd (fun _ => ih (by omega))
end Go.Proofs.WV

namespace Go.Proofs.WV
open Go.RowKit Go.Proofs.KL Go.Proofs.WM
set_option maxRecDepth 100000
set_option linter.unusedSimpArgs false
set_option linter.unusedVariables false

theorem zero28 : (Tryd.prog.info? 28).map (·.zero) = some (some (.int .i64 0)) := by kernel_rfl
theorem info28 : ∃ i, Tryd.prog.info? 28 = some i ∧ i.size = 1 := by
 have h : (Tryd.prog.info? 28).map (·.size) = some 1 := by kernel_rfl
 obtain ⟨i, hi, hs⟩ := Option.map_eq_some_iff.1 h
 exact ⟨i, hi, hs⟩
theorem zeroS3 : (Tryd.prog.info? 3).map (·.zero) = some (some (.int .i64 0)) := by kernel_rfl
theorem results_cells3 {fn : Func} {p q r : Tmp} {t u v : TypeId} (h : fn.results = #[.cell p t, .cell q u, .cell r v]) (tmps : Array Value) {P : Program} (w : World) {x y z : Value} {a b c : Addr} (ha : tmps[p]?.getD undef = .pointer (some a)) (hb : tmps[q]?.getD undef = .pointer (some b)) (hc : tmps[r]?.getD undef = .pointer (some c))
  (hp : (loadVar t a).run P w = .ok x w) (hq : (loadVar u b).run P w = .ok y w) (hr : (loadVar v c).run P w = .ok z w) :
  (results fn tmps).run P w = .ok (.tuple #[x, y, z]) w := by
 have e : ∀ (a : Addr) (w : World), (asAddr (.pointer (some a))).run P w = .ok a w := fun _ _ => rfl
 simp [results, h, ha, hb, hc, e, hp, hq, hr, Result.andThen]
theorem Read_idle (p q r : Addr) (w : World) :
  CallsD Tryd.prog 44 #[.pointer (some p), .pointer (some q), .pointer (some r)] .returning w fun e u' w' => e = .returned (.tuple #[]) ∧ u' = .returning ∧ w' = w := by
 have hnn : ∀ w, (binOp .neq 20 .nilIface .nilIface).run Tryd.prog w = .ok (.bool false) w := fun w => by kernel_rfl
 refine callsD_of_wpS Tryd.func44 rfl fun c₀ cs hu => ?_
 apply wpS_seq
 apply wpS_region
 simp [wpOpsS, go_sem, recoverD, hu, hnn, Tryd.ntmps44, Exit.thenS]
 apply wpS_seq
 apply wpS_region
 simp [wpOpsS, go_sem, hnn, Exit.thenS]
 refine wpS_cond (t := false) (by simp [Act.eval, Array.replicate]) ?_
 simp only [Bool.false_eq_true, if_false]
 refine wpS_of_wp (wp_skip ?_)
 cases c₀
 simp_all [bodyPostS, results, Tryd.results44]
theorem neq_ended (c : Int) (w : World) : (binOp .neq 20 (.iface 76 (.int .i64 c)) .nilIface).run Tryd.prog w = .ok (.bool true) w := by kernel_rfl
theorem assert_ended (c : Int) (w : World) : (Instr.typeAssert (.iface 76 (.int .i64 c)) 20 76 true).run Tryd.prog w = .ok (.tuple #[.int .i64 c, .bool true]) w := by
 have h := Tryd.underlying76
 first | kernel_rfl | (simp [Instr.typeAssert, run_underlying h])
set_option maxHeartbeats 2000000 in
theorem Read_catch (g6 g7 g8 : Nat) (c : Int) (w : World) (x0 x1 x2 x3 x4 x5 x7 x8 : Value)
  (h6 : w.heap[g6]? = some (.cells #[x0, x1, x2, x3, x4, x5] 25 (0, 0))) (h7 : w.heap[g7]? = some (.cells #[x7] 3 (0, 0))) (h8 : w.heap[g8]? = some (.cells #[x8] 28 (0, 0))) (n67 : g6 ≠ g7) (n68 : g6 ≠ g8) (n78 : g7 ≠ g8) :
  CallsD Tryd.prog 44 #[.pointer (some ⟨g6, 0, none⟩), .pointer (some ⟨g7, 0, none⟩), .pointer (some ⟨g8, 0, none⟩)] (.panicking [{ v := .iface 76 (.int .i64 c), recovered := false }]) w fun e u' w' =>
   e = .returned (.tuple #[]) ∧ u' = .panicking [{ v := .iface 76 (.int .i64 c), recovered := true }] ∧ Keeps (fun k => k = g6 ∨ k = g7 ∨ k = g8) w w' ∧
    w'.heap[g6]? = some (.cells #[.int .i64 0, .bool false, .int .i64 0, .string ByteArray.empty, .slice none 0 0, .slice none 0 0] 25 (0, 0)) ∧ w'.heap[g7]? = some (.cells #[.int .i64 c] 3 (0, 0)) ∧ w'.heap[g8]? = some (.cells #[.int .i64 4] 28 (0, 0)) := by
 obtain ⟨i3, hi3, hs3⟩ := infoS3
 obtain ⟨i28, hi28, hs28⟩ := info28
 obtain ⟨i25, hi25, hs25⟩ := info25
 have H6 := Lib.hid h6
 have H7 := Lib.hid h7
 have H8 := Lib.hid h8
 have hi := Lib.hid (And.intro (And.intro hi25 hs25) (And.intro (And.intro hi3 hs3) (And.intro hi28 hs28)))
 clear h6 h7 h8 hi3 hs3 hi28 hs28 hi25 hs25
 refine callsD_of_wpS Tryd.func44 rfl fun c₀ cs hu => ?_
 apply wpS_seq
 apply wpS_region
 simp [wpOpsS, go_sem, neq_ended, assert_ended, recoverD, hu, Tryd.ntmps44, Exit.thenS]
 apply wpS_seq
 apply wpS_region
 simp [wpOpsS, go_sem, neq_ended, assert_ended, Exit.thenS]
 refine wpS_cond (t := true) (by simp [Act.eval, Array.replicate]) ?_
 simp only [if_true]
 apply wpS_seq
 apply wpS_region
 simp [wpOpsS, go_sem, neq_ended, assert_ended, Exit.thenS]
 apply wpS_seq
 apply wpS_seq
 apply wpS_region
 simp [wpOpsS, go_sem, neq_ended, assert_ended, Exit.thenS]
 refine wpS_cond (t := false) (by simp [Act.eval, Array.replicate]) ?_
 simp only [Bool.false_eq_true, if_false]
 refine wpS_of_wp (wp_skip ?_)
 simp only [Exit.thenS]
 refine wpS_of_wp ?_
 simp only [Array.replicate_succ, Array.replicate_zero, List.push_toArray, List.append_toArray, List.nil_append, List.cons_append, List.setIfInBounds_toArray, List.set_cons_zero, List.set_cons_succ]
 go_wp2_with (first
  | ((with_reducible refine at_store (t := 25) rfl ?_); go_must (refine ev_store (cs' := #[.int .i64 0, .bool false, .int .i64 0, .string ByteArray.empty, .slice none 0 0, .slice none 0 0]) rfl rfl rfl rfl rfl rfl hi.out.1.1 hi.out.1.2 rfl H6.out (Nat.le_of_ble_eq_true rfl) rfl ?_; intro w1 hb1 hk1); (try simp only [PU]))
  | ((with_reducible refine at_store (t := 3) rfl ?_); go_must (refine ev_store (cs' := #[.int .i64 c]) rfl rfl rfl rfl rfl rfl hi.out.2.1.1 hi.out.2.1.2 rfl (hk1.blk H7.out n67.symm) (Nat.le_of_ble_eq_true rfl) rfl ?_; intro w2 hb2 hk2); (try simp only [PU]))
  | ((with_reducible refine at_store (t := 28) rfl ?_); go_must (refine ev_store (cs' := #[.int .i64 4]) rfl rfl rfl rfl rfl rfl hi.out.2.2.1 hi.out.2.2.2 rfl (hk2.blk (hk1.blk H8.out n68.symm) n78.symm) (Nat.le_of_ble_eq_true rfl) rfl ?_; intro w3 hb3 hk3); (try simp only [PU])))
 exact ⟨rfl, _, rfl, _, by simp [results, Tryd.results44], rfl, rfl, ((hk1.mono (M' := fun k => k = g6 ∨ k = g7 ∨ k = g8) (fun _ _ e => .inl e)).trans hk2 (fun _ _ e => .inr (.inl e))).trans hk3 (fun _ _ e => .inr (.inr e)), hk3.blk (hk2.blk hb1 n67) n68, hk3.blk hb2 n78, hb3⟩
end Go.Proofs.WV

namespace Go.Proofs.WV
open Go.RowKit Go.Proofs.KL Go.Proofs.WM
set_option maxRecDepth 100000
set_option linter.unusedSimpArgs false
set_option linter.unusedVariables false

def ReadEnd (w : World) (x : J × Int × Int) : Ending → World → Prop := fun e w' => (∃ v, e = .returned (.tuple #[v, .int .i64 x.2.1, .int .i64 x.2.2]) ∧ JX w' (fun b => w.heap.size ≤ b) v x.1) ∧ Keeps Nob w w'
theorem zJX (W : World) (X : Nat → Prop) : JX W X (.agg #[.int .i64 0, .bool false, .int .i64 0, .string ByteArray.empty, .slice none 0 0, .slice none 0 0]) zJ := JX.close (strs_nil W X) (js_nil W X)
set_option maxHeartbeats 2000000 in
theorem Read_long {w : World} {T : ByteArray} (hT : 1000000 < T.size) : Calls Tryd.prog 18 #[.string T] w (ReadEnd w (zJ, 0, 3)) := by
 obtain ⟨i3, hi3, hs3⟩ := infoS3
 obtain ⟨i28, hi28, hs28⟩ := info28
 obtain ⟨i25, hi25, hs25⟩ := info25
 have HI := Lib.hid (And.intro (And.intro hi25 hs25) (And.intro (And.intro hi3 hs3) (And.intro hi28 hs28)))
 clear hi3 hs3 hi28 hs28 hi25 hs25
 have hT' : (1000000 : Int) < T.size := by omega
 clear hT
 go_enter_defers Tryd.func18, Tryd.ntmps18
 go_wp2_with (first
  | ((with_reducible refine at_dst (N := 2) rfl ?_); go_must (refine ev_alloc rfl rfl zero25 rfl ?_; intro g6 w1 hg6 hl6 hb6 hk1); have Hb6 := Lib.hid hb6; have HK := Lib.hid hk1; have Hg6 := Lib.hid hg6; clear hb6 hk1 hg6 hl6; (try simp only [PU]))
  | ((with_reducible refine at_dst (N := 3) rfl ?_); go_must (refine ev_alloc rfl rfl zeroS3 rfl ?_; intro g7 w2 hg7 hl7 hb7 hk2); have Hg7 := Lib.hid (show w.heap.size ≤ g7 ∧ g6 < g7 from ⟨Nat.le_trans HK.out.size hg7, Nat.lt_of_lt_of_le (blk_lt Hb6.out) hg7⟩); have Hb6 := Lib.hid (hk2.blk Hb6.out id); have Hb7 := Lib.hid hb7; have HK := Lib.hid (HK.out.trans hk2 (fun _ _ h => h)); clear hb7 hk2 hg7 hl7; (try simp only [PU]))
  | ((with_reducible refine at_dst (N := 4) rfl ?_); go_must (refine ev_alloc rfl rfl zero28 rfl ?_; intro g8 w3 hg8 hl8 hb8 hk3); have Hg8 := Lib.hid (show w.heap.size ≤ g8 ∧ g7 < g8 from ⟨Nat.le_trans HK.out.size hg8, Nat.lt_of_lt_of_le (blk_lt Hb7.out) hg8⟩); have Hb6 := Lib.hid (hk3.blk Hb6.out id); have Hb7 := Lib.hid (hk3.blk Hb7.out id); have Hb8 := Lib.hid hb8; have HK := Lib.hid (HK.out.trans hk3 (fun _ _ h => h)); clear hb8 hk3 hg8 hl8; (try simp only [PU]))
  | ((with_reducible refine at_store (t := 25) rfl ?_); go_must (refine ev_store (cs' := #[.int .i64 0, .bool false, .int .i64 0, .string ByteArray.empty, .slice none 0 0, .slice none 0 0]) rfl rfl rfl rfl rfl rfl HI.out.1.1 HI.out.1.2 rfl Hb6.out (Nat.le_of_ble_eq_true rfl) rfl ?_; intro wa hba hka); have Hb7 := Lib.hid (hka.blk Hb7.out (fun e : g7 = g6 => by have := Hg7.out; omega)); have Hb8 := Lib.hid (hka.blk Hb8.out (fun e : g8 = g6 => by have := Hg7.out; have := Hg8.out; omega)); have Hb6 := Lib.hid hba; have HKa := Lib.hid (hka.mono (M' := fun k => k = g6 ∨ k = g7 ∨ k = g8) (fun _ _ e => .inl e)); clear hba hka; (try simp only [PU]))
  | ((with_reducible refine at_store (t := 3) rfl ?_); go_must (refine ev_store (cs' := #[.int .i64 0]) rfl rfl rfl rfl rfl rfl HI.out.2.1.1 HI.out.2.1.2 rfl Hb7.out (Nat.le_of_ble_eq_true rfl) rfl ?_; intro wb hbb hkb); have Hb6 := Lib.hid (hkb.blk Hb6.out (fun e : g6 = g7 => by have := Hg7.out; omega)); have Hb8 := Lib.hid (hkb.blk Hb8.out (fun e : g8 = g7 => by have := Hg8.out; omega)); have Hb7 := Lib.hid hbb; have HKa := Lib.hid (HKa.out.trans hkb (fun _ _ e => .inr (.inl e))); clear hbb hkb; (try simp only [PU]))
  | ((with_reducible refine at_store (t := 28) rfl ?_); go_must (refine ev_store (cs' := #[.int .i64 3]) rfl rfl rfl rfl rfl rfl HI.out.2.2.1 HI.out.2.2.2 rfl Hb8.out (Nat.le_of_ble_eq_true rfl) rfl ?_; intro wc hbc hkc); have Hb6 := Lib.hid (hkc.blk Hb6.out (fun e : g6 = g8 => by have := Hg7.out; have := Hg8.out; omega)); have Hb7 := Lib.hid (hkc.blk Hb7.out (fun e : g7 = g8 => by have := Hg8.out; omega)); have Hb8 := Lib.hid hbc; have HKa := Lib.hid (HKa.out.trans hkc (fun _ _ e => .inr (.inr e))); clear hbc hkc; (try simp only [PU]))
 )
 simp only [bodyPostD, Leaves]
 refine ⟨_, results_cells3 (x := .agg #[.int .i64 0, .bool false, .int .i64 0, .string ByteArray.empty, .slice none 0 0, .slice none 0 0]) (y := .int .i64 0) (z := .int .i64 3) rfl _ _ rfl rfl rfl (by have s0 := (blk_cell Hb6.out 0).trans rfl; have s1 := (blk_cell Hb6.out 1).trans rfl; have s2 := (blk_cell Hb6.out 2).trans rfl; have s3 := (blk_cell Hb6.out 3).trans rfl; have s4 := (blk_cell Hb6.out 4).trans rfl; have s5 := (blk_cell Hb6.out 5).trans rfl; go_simp) (by have s0 := (blk_cell Hb7.out 0).trans rfl; go_simp) (by have s0 := (blk_cell Hb8.out 0).trans rfl; go_simp), ?_⟩
 exact ⟨⟨_, rfl, zJX _ _⟩, HK.out.trans HKa.out (fun i hi e => by have := Hg6.out; have := Hg7.out; have := Hg8.out; omega)⟩
end Go.Proofs.WV

namespace Go.Proofs.WV
open Go.RowKit Go.Proofs.KL Go.Proofs.WM
set_option maxRecDepth 100000
set_option linter.unusedSimpArgs false
set_option linter.unusedVariables false

set_option maxHeartbeats 4000000 in
theorem Read_short {w : World} {T : ByteArray} (ht : Tab w w.heap.size) (hT : T.size ≤ 1000000) : Calls Tryd.prog 18 #[.string T] w (ReadEnd w (readW T)) := by
 obtain ⟨i3, hi3, hs3⟩ := infoS3
 obtain ⟨i28, hi28, hs28⟩ := info28
 obtain ⟨i25, hi25, hs25⟩ := info25
 have HI := Lib.hid (And.intro (And.intro hi25 hs25) (And.intro (And.intro hi3 hs3) (And.intro hi28 hs28)))
 clear hi3 hs3 hi28 hs28 hi25 hs25
 have hT' : ¬ (1000000 : Int) < T.size := by omega
 have hTn : ¬ 1000000 < T.size := by omega
 have hmf : ∀ (fn : Fn) (first cap : Array Value) (w : World), (Instr.makeFunc fn first cap).run Tryd.prog w = .ok (.func fn first cap) w := fun _ _ _ _ => rfl
 have hbb := blanksB_le (bl T)
 have hbT := bl_len T
 have HT := Lib.hid ht
 have HTs := Lib.hid hT
 have HVal := Lib.hid (fun (W : World) (r : Nat) (hr : Rd W r T (blanksB (bl T))) => value_all 40 (Nat.le_refl _) (4 * (bl T).length + 8) (blanksB (bl T)) W r T (by omega) hr)
 rcases hv : valueF (4 * (bl T).length + 8) 40 (blanksB (bl T)) with n | ⟨j, r1⟩
 · have hR : readW T = (zJ, ((T.size - n : Nat) : Int), 4) := by
    unfold readW readJ
    rw [if_neg hTn, hv, hbT]
   rw [hR]
   rw [hv] at HVal
   obtain ⟨a, ha⟩ : ∃ a, T.size - n = a := ⟨_, rfl⟩
   have Ha := Lib.hid ha
   rw [ha]
   clear ht hT hTn hbb hbT hv hR ha
   go_enter_defers Tryd.func18, Tryd.ntmps18
   go_wp2_with (first
    | ((with_reducible refine at_dst (N := 2) rfl ?_); go_must (refine ev_alloc rfl rfl zero25 rfl ?_; intro g6 w1 hg6 hl6 hb6 hk1); have Hb6 := Lib.hid hb6; have HK := Lib.hid hk1; have Hg6 := Lib.hid hg6; clear hb6 hk1 hg6 hl6; (try simp only [PU]))
    | ((with_reducible refine at_dst (N := 3) rfl ?_); go_must (refine ev_alloc rfl rfl zeroS3 rfl ?_; intro g7 w2 hg7 hl7 hb7 hk2); have Hg7 := Lib.hid (show w.heap.size ≤ g7 ∧ g6 < g7 from ⟨Nat.le_trans HK.out.size hg7, Nat.lt_of_lt_of_le (blk_lt Hb6.out) hg7⟩); have Hb6 := Lib.hid (hk2.blk Hb6.out id); have Hb7 := Lib.hid hb7; have HK := Lib.hid (HK.out.trans hk2 (fun _ _ h => h)); clear hb7 hk2 hg7 hl7; (try simp only [PU]))
    | ((with_reducible refine at_dst (N := 4) rfl ?_); go_must (refine ev_alloc rfl rfl zero28 rfl ?_; intro g8 w3 hg8 hl8 hb8 hk3); have Hg8 := Lib.hid (show w.heap.size ≤ g8 ∧ g7 < g8 from ⟨Nat.le_trans HK.out.size hg8, Nat.lt_of_lt_of_le (blk_lt Hb7.out) hg8⟩); have Hb6 := Lib.hid (hk3.blk Hb6.out id); have Hb7 := Lib.hid (hk3.blk Hb7.out id); have Hb8 := Lib.hid hb8; have HK := Lib.hid (HK.out.trans hk3 (fun _ _ h => h)); clear hb8 hk3 hg8 hl8; (try simp only [PU]))
    | ((with_reducible refine at_dst (N := 13) rfl ?_); go_must (refine ev_box (cs := #[.string T, .int .i64 0]) rfl rfl rfl ?_; intro g5 w4 hg5 hl5 hb5 hk5)
       have Hg5 := Lib.hid (show w.heap.size ≤ g5 ∧ g8 < g5 from ⟨Nat.le_trans HK.out.size hg5, Nat.lt_of_lt_of_le (blk_lt Hb8.out) hg5⟩)
       have Hr := Lib.hid (show Rd w4 g5 T (bl T) from ⟨by rw [bl_len, Nat.sub_self]; exact hb5, ⟨[], rfl⟩, HTs.out⟩)
       have Hb6 := Lib.hid (hk5.blk Hb6.out id)
       have Hb7 := Lib.hid (hk5.blk Hb7.out id)
       have Hb8 := Lib.hid (hk5.blk Hb8.out id)
       have HK := Lib.hid (HK.out.trans hk5 (fun _ _ h => h))
       clear hb5 hk5 hg5 hl5
       (try simp only [PU]))
    | (go_at_call 45; go_must (refine (blanks45 Hr.out).mono ?_; rintro e w5 ⟨⟨y5, rfl⟩, hr5, hk5⟩)
       have Hr := Lib.hid hr5
       (try have HV := Lib.hid (HV.out.keep (X' := fun b => g5 < b) hk5 (fun b _ hb e => by omega) (fun _ _ h => h)))
       have Hb6 := Lib.hid (hk5.blk Hb6.out (fun e : g6 = g5 => by have := Hg7.out; have := Hg8.out; have := Hg5.out; omega))
       have Hb7 := Lib.hid (hk5.blk Hb7.out (fun e : g7 = g5 => by have := Hg8.out; have := Hg5.out; omega))
       have Hb8 := Lib.hid (hk5.blk Hb8.out (fun e : g8 = g5 => by have := Hg5.out; omega))
       have HK := Lib.hid (show Keeps Nob w w5 from HK.out.trans hk5 (fun i hi e => by have := Hg5.out; omega))
       clear hr5 hk5
       (try simp only [PU]))
   )
   refine (HVal.out _ _ Hr.out).mono ?_
   rintro e w8 ⟨rfl, hk8⟩
   have Hb6 := Lib.hid (hk8.blk Hb6.out (fun e : g6 = g5 => by have := Hg7.out; have := Hg8.out; have := Hg5.out; omega))
   have Hb7 := Lib.hid (hk8.blk Hb7.out (fun e : g7 = g5 => by have := Hg8.out; have := Hg5.out; omega))
   have Hb8 := Lib.hid (hk8.blk Hb8.out (fun e : g8 = g5 => by have := Hg5.out; omega))
   have HK := Lib.hid (show Keeps Nob w w8 from HK.out.trans hk8 (fun i hi e => by have := Hg5.out; omega))
   clear hk8
   unfold stopAt
   rw [Ha.out]
   refine leaves_cons (f := 44) (args := #[.pointer (some ⟨g6, 0, none⟩), .pointer (some ⟨g7, 0, none⟩), .pointer (some ⟨g8, 0, none⟩)]) (by simp) (by simp [go_sem]) ?_
   refine (Read_catch g6 g7 g8 (a : Nat) _ _ _ _ _ _ _ _ _ Hb6.out Hb7.out Hb8.out (by have := Hg7.out; omega) (by have := Hg7.out; have := Hg8.out; omega) (by have := Hg8.out; omega)).mono ?_
   rintro e u' w9 ⟨rfl, rfl, hk9, hb6, hb7, hb8⟩
   have s0 := (blk_cell hb6 0).trans rfl
   have s1 := (blk_cell hb6 1).trans rfl
   have s2 := (blk_cell hb6 2).trans rfl
   have s3 := (blk_cell hb6 3).trans rfl
   have s4 := (blk_cell hb6 4).trans rfl
   have s5 := (blk_cell hb6 5).trans rfl
   have s7 := (blk_cell hb7 0).trans rfl
   have s8 := (blk_cell hb8 0).trans rfl
   simp only [settle, Leaves]
   refine ⟨_, results_cells3 (x := .agg #[.int .i64 0, .bool false, .int .i64 0, .string ByteArray.empty, .slice none 0 0, .slice none 0 0]) (y := .int .i64 (a : Nat)) (z := .int .i64 4) rfl _ _ rfl rfl rfl (by go_simp) (by go_simp) (by go_simp), ?_⟩
   exact ⟨⟨_, rfl, zJX _ _⟩, HK.out.trans hk9 (fun i hi e => by have := Hg6.out; have := Hg7.out; have := Hg8.out; omega)⟩
 · have hsz := read_size hv
   have Hsz := Lib.hid (show sizeJ j ≤ 10000000000 by omega)
   rw [hv] at HVal
   rcases hb : blanksB r1 with _ | ⟨c, q⟩
   · have hR : readW T = (if checkJ j = 0 then (j, 0, 0) else (zJ, 0, 3)) := by
      unfold readW readJ
      rw [if_neg hTn, hv]
      simp only [hb]
     rw [hR]
     have Hbl := Lib.hid hb
     obtain ⟨c, hc⟩ : ∃ c, checkJ j = c := ⟨_, rfl⟩
     have Hck := Lib.hid hc
     rw [hc]
     by_cases h0 : c = 0
     · subst h0
       rw [if_pos rfl]
       clear ht hT hTn hbb hbT hv hR hb hc hsz
       go_enter_defers Tryd.func18, Tryd.ntmps18
       go_upto_region 7 with (first
        | ((with_reducible refine at_dst (N := 2) rfl ?_); go_must (refine ev_alloc rfl rfl zero25 rfl ?_; intro g6 w1 hg6 hl6 hb6 hk1); have Hb6 := Lib.hid hb6; have HK := Lib.hid hk1; have Hg6 := Lib.hid hg6; clear hb6 hk1 hg6 hl6; (try simp only [PU]))
        | ((with_reducible refine at_dst (N := 3) rfl ?_); go_must (refine ev_alloc rfl rfl zeroS3 rfl ?_; intro g7 w2 hg7 hl7 hb7 hk2); have Hg7 := Lib.hid (show w.heap.size ≤ g7 ∧ g6 < g7 from ⟨Nat.le_trans HK.out.size hg7, Nat.lt_of_lt_of_le (blk_lt Hb6.out) hg7⟩); have Hb6 := Lib.hid (hk2.blk Hb6.out id); have Hb7 := Lib.hid hb7; have HK := Lib.hid (HK.out.trans hk2 (fun _ _ h => h)); clear hb7 hk2 hg7 hl7; (try simp only [PU]))
        | ((with_reducible refine at_dst (N := 4) rfl ?_); go_must (refine ev_alloc rfl rfl zero28 rfl ?_; intro g8 w3 hg8 hl8 hb8 hk3); have Hg8 := Lib.hid (show w.heap.size ≤ g8 ∧ g7 < g8 from ⟨Nat.le_trans HK.out.size hg8, Nat.lt_of_lt_of_le (blk_lt Hb7.out) hg8⟩); have Hb6 := Lib.hid (hk3.blk Hb6.out id); have Hb7 := Lib.hid (hk3.blk Hb7.out id); have Hb8 := Lib.hid hb8; have HK := Lib.hid (HK.out.trans hk3 (fun _ _ h => h)); clear hb8 hk3 hg8 hl8; (try simp only [PU]))
        | ((with_reducible refine at_dst (N := 13) rfl ?_); go_must (refine ev_box (cs := #[.string T, .int .i64 0]) rfl rfl rfl ?_; intro g5 w4 hg5 hl5 hb5 hk5)
           have Hg5 := Lib.hid (show w.heap.size ≤ g5 ∧ g8 < g5 from ⟨Nat.le_trans HK.out.size hg5, Nat.lt_of_lt_of_le (blk_lt Hb8.out) hg5⟩)
           have Hr := Lib.hid (show Rd w4 g5 T (bl T) from ⟨by rw [bl_len, Nat.sub_self]; exact hb5, ⟨[], rfl⟩, HTs.out⟩)
           have Hb6 := Lib.hid (hk5.blk Hb6.out id)
           have Hb7 := Lib.hid (hk5.blk Hb7.out id)
           have Hb8 := Lib.hid (hk5.blk Hb8.out id)
           have HK := Lib.hid (HK.out.trans hk5 (fun _ _ h => h))
           clear hb5 hk5 hg5 hl5
           (try simp only [PU]))
        | (go_at_call 45; go_must (refine (blanks45 Hr.out).mono ?_; rintro e w5 ⟨⟨y5, rfl⟩, hr5, hk5⟩)
           have Hr := Lib.hid hr5
           (try have HV := Lib.hid (HV.out.keep (X' := fun b => g5 < b) hk5 (fun b _ hb e => by omega) (fun _ _ h => h)))
           have Hb6 := Lib.hid (hk5.blk Hb6.out (fun e : g6 = g5 => by have := Hg7.out; have := Hg8.out; have := Hg5.out; omega))
           have Hb7 := Lib.hid (hk5.blk Hb7.out (fun e : g7 = g5 => by have := Hg8.out; have := Hg5.out; omega))
           have Hb8 := Lib.hid (hk5.blk Hb8.out (fun e : g8 = g5 => by have := Hg5.out; omega))
           have HK := Lib.hid (show Keeps Nob w w5 from HK.out.trans hk5 (fun i hi e => by have := Hg5.out; omega))
           clear hr5 hk5
           (try simp only [PU]))
        | (go_at_call 46; go_must (refine (HVal.out _ _ Hr.out).mono ?_; rintro e w6 ⟨⟨v1, rfl, hv1⟩, hr1, hk1⟩; obtain ⟨jk, jb, jn, jt, jks, jvs, jkv, jvv, hjj, rfl, hjk, hjv⟩ := hv1.open; obtain ⟨kA, kc, rfl, -, -⟩ := hjk; obtain ⟨jA, jc, ju, rfl, -, -, -⟩ := hjv)
           have hl5 := Hr.out.lt
           have HV := Lib.hid (hv1.keep (X' := fun b => g5 < b) (Keeps.refl Nob _) (fun _ _ _ => id) (fun b hb hx => Nat.lt_of_lt_of_le hl5 hx))
           have Hr := Lib.hid hr1
           have Hb6 := Lib.hid (hk1.blk Hb6.out (fun e : g6 = g5 => by have := Hg7.out; have := Hg8.out; have := Hg5.out; omega))
           have Hb7 := Lib.hid (hk1.blk Hb7.out (fun e : g7 = g5 => by have := Hg8.out; have := Hg5.out; omega))
           have Hb8 := Lib.hid (hk1.blk Hb8.out (fun e : g8 = g5 => by have := Hg5.out; omega))
           have HK := Lib.hid (show Keeps Nob w w6 from HK.out.trans hk1 (fun i hi e => by have := Hg5.out; omega))
           clear hv1 hr1 hk1 hjj hl5
           generalize jks.length = kl at *
           generalize jvs.length = vl at *
           (try simp only [PU]))
        | ((with_reducible refine at_store (t := 25) rfl ?_); go_must (refine ev_store (cs' := #[.int .i64 jk, .bool jb, .int .i64 jn, .string jt, .slice kA kl kc, .slice jA vl jc]) rfl rfl rfl rfl rfl rfl HI.out.1.1 HI.out.1.2 rfl Hb6.out (Nat.le_of_ble_eq_true rfl) rfl ?_; intro w7 hb7 hk7)
           have HV := Lib.hid (HV.out.keep (X' := fun b => g5 < b) hk7 (fun b _ hb e => by have := Hg7.out; have := Hg8.out; have := Hg5.out; omega) (fun _ _ h => h))
           have Hr := Lib.hid (Hr.out.keep hk7 (fun e : g5 = g6 => by have := Hg7.out; have := Hg8.out; have := Hg5.out; omega))
           have Hb7 := Lib.hid (hk7.blk Hb7.out (fun e : g7 = g6 => by have := Hg7.out; omega))
           have Hb8 := Lib.hid (hk7.blk Hb8.out (fun e : g8 = g6 => by have := Hg7.out; have := Hg8.out; omega))
           have HK := Lib.hid (show Keeps Nob w w7 from HK.out.trans hk7 (fun i hi e => by have := Hg6.out; omega))
           have Hb6 := Lib.hid hb7
           clear hb7 hk7
           (try simp only [PU]))
       )
       go_upto_region 8 with (first
        | (go_at_call 45; go_must (refine (blanks45 Hr.out).mono ?_; rintro e w5 ⟨⟨y5, rfl⟩, hr5, hk5⟩)
           have Hr := Lib.hid hr5
           (try have HV := Lib.hid (HV.out.keep (X' := fun b => g5 < b) hk5 (fun b _ hb e => by omega) (fun _ _ h => h)))
           have Hb6 := Lib.hid (hk5.blk Hb6.out (fun e : g6 = g5 => by have := Hg7.out; have := Hg8.out; have := Hg5.out; omega))
           have Hb7 := Lib.hid (hk5.blk Hb7.out (fun e : g7 = g5 => by have := Hg8.out; have := Hg5.out; omega))
           have Hb8 := Lib.hid (hk5.blk Hb8.out (fun e : g8 = g5 => by have := Hg5.out; omega))
           have HK := Lib.hid (show Keeps Nob w w5 from HK.out.trans hk5 (fun i hi e => by have := Hg5.out; omega))
           clear hr5 hk5
           (try simp only [PU]))
       )
       rw [Hbl.out] at Hr
       have q1 := (blk_cell Hr.out.blk 1).trans rfl
       have s0 := (blk_cell Hb6.out 0).trans rfl
       have s1 := (blk_cell Hb6.out 1).trans rfl
       have s2 := (blk_cell Hb6.out 2).trans rfl
       have s3 := (blk_cell Hb6.out 3).trans rfl
       have s4 := (blk_cell Hb6.out 4).trans rfl
       have s5 := (blk_cell Hb6.out 5).trans rfl
       simp only [List.length_nil, Nat.sub_zero] at q1
       go_wp2_with (first
        | (go_at_call 16; go_must (refine (check16 HV.out (Tab.up (HT.out.keep HK.out.any) HK.out.size) Hsz.out).mono ?_; rintro e w12 ⟨rfl, hk12⟩; rw [Hck.out])
           have HV := Lib.hid (HV.out.keep (X' := fun b => g5 < b) hk12 (fun _ _ _ => id) (fun _ _ h => h))
           have Hb6 := Lib.hid (hk12.blk Hb6.out id)
           have Hb7 := Lib.hid (hk12.blk Hb7.out id)
           have Hb8 := Lib.hid (hk12.blk Hb8.out id)
           have HK := Lib.hid (HK.out.trans hk12 (fun _ _ h => h))
           clear hk12 s0 s1 s2 s3 s4 s5
           have s0 := (blk_cell Hb6.out 0).trans rfl
           have s1 := (blk_cell Hb6.out 1).trans rfl
           have s2 := (blk_cell Hb6.out 2).trans rfl
           have s3 := (blk_cell Hb6.out 3).trans rfl
           have s4 := (blk_cell Hb6.out 4).trans rfl
           have s5 := (blk_cell Hb6.out 5).trans rfl
           (try simp only [PU]))
        | ((with_reducible refine at_store (t := 25) rfl ?_); go_must (refine ev_store (cs' := #[.int .i64 jk, .bool jb, .int .i64 jn, .string jt, .slice kA kl kc, .slice jA vl jc]) rfl rfl rfl rfl rfl rfl HI.out.1.1 HI.out.1.2 rfl Hb6.out (Nat.le_of_ble_eq_true rfl) rfl ?_; intro wa hba hka); have Hb7 := Lib.hid (hka.blk Hb7.out (fun e : g7 = g6 => by have := Hg7.out; omega)); have Hb8 := Lib.hid (hka.blk Hb8.out (fun e : g8 = g6 => by have := Hg7.out; have := Hg8.out; omega)); have Hb6 := Lib.hid hba; have HKa := Lib.hid (hka.mono (M' := fun k => k = g6 ∨ k = g7 ∨ k = g8) (fun _ _ e => .inl e)); clear hba hka; (try simp only [PU]))
        | ((with_reducible refine at_store (t := 3) rfl ?_); go_must (refine ev_store (cs' := #[.int .i64 0]) rfl rfl rfl rfl rfl rfl HI.out.2.1.1 HI.out.2.1.2 rfl Hb7.out (Nat.le_of_ble_eq_true rfl) rfl ?_; intro wb hbb hkb); have Hb6 := Lib.hid (hkb.blk Hb6.out (fun e : g6 = g7 => by have := Hg7.out; omega)); have Hb8 := Lib.hid (hkb.blk Hb8.out (fun e : g8 = g7 => by have := Hg8.out; omega)); have Hb7 := Lib.hid hbb; have HKa := Lib.hid (HKa.out.trans hkb (fun _ _ e => .inr (.inl e))); clear hbb hkb; (try simp only [PU]))
        | ((with_reducible refine at_store (t := 28) rfl ?_); go_must (refine ev_store (cs' := #[.int .i64 0]) rfl rfl rfl rfl rfl rfl HI.out.2.2.1 HI.out.2.2.2 rfl Hb8.out (Nat.le_of_ble_eq_true rfl) rfl ?_; intro wc hbc hkc); have Hb6 := Lib.hid (hkc.blk Hb6.out (fun e : g6 = g8 => by have := Hg7.out; have := Hg8.out; omega)); have Hb7 := Lib.hid (hkc.blk Hb7.out (fun e : g7 = g8 => by have := Hg8.out; omega)); have Hb8 := Lib.hid hbc; have HKa := Lib.hid (HKa.out.trans hkc (fun _ _ e => .inr (.inr e))); clear hbc hkc; (try simp only [PU]))
       )
       (try simp only [Exit.inBlock, Exit.then])
       refine leaves_cons (f := 44) (args := #[.pointer (some ⟨g6, 0, none⟩), .pointer (some ⟨g7, 0, none⟩), .pointer (some ⟨g8, 0, none⟩)]) (by simp) (by simp [go_sem]) ?_
       refine (Read_idle ⟨g6, 0, none⟩ ⟨g7, 0, none⟩ ⟨g8, 0, none⟩ _).mono ?_
       rintro e u' w'' ⟨rfl, rfl, rfl⟩
       simp only [settle, Leaves]
       clear s0 s1 s2 s3 s4 s5
       have s0 := (blk_cell Hb6.out 0).trans rfl
       have s1 := (blk_cell Hb6.out 1).trans rfl
       have s2 := (blk_cell Hb6.out 2).trans rfl
       have s3 := (blk_cell Hb6.out 3).trans rfl
       have s4 := (blk_cell Hb6.out 4).trans rfl
       have s5 := (blk_cell Hb6.out 5).trans rfl
       have s7 := (blk_cell Hb7.out 0).trans rfl
       have s8 := (blk_cell Hb8.out 0).trans rfl
       refine ⟨_, results_cells3 (x := .agg #[.int .i64 jk, .bool jb, .int .i64 jn, .string jt, .slice kA kl kc, .slice jA vl jc]) (y := .int .i64 0) (z := .int .i64 0) rfl _ _ rfl rfl rfl (by go_simp) (by go_simp) (by go_simp), ?_⟩
       exact ⟨⟨_, rfl, HV.out.keep HKa.out (fun b hb hx e => by have := Hg7.out; have := Hg8.out; have := Hg5.out; omega) (fun b hb hx => by have := Hg5.out; omega)⟩, HK.out.trans HKa.out (fun i hi e => by have := Hg6.out; have := Hg7.out; have := Hg8.out; omega)⟩
     · rw [if_neg h0]
       have h0b : (c == 0) = false := beq_eq_false_iff_ne.2 h0
       clear ht hT hTn hbb hbT hv hR hb hc hsz
       go_enter_defers Tryd.func18, Tryd.ntmps18
       go_upto_region 7 with (first
        | ((with_reducible refine at_dst (N := 2) rfl ?_); go_must (refine ev_alloc rfl rfl zero25 rfl ?_; intro g6 w1 hg6 hl6 hb6 hk1); have Hb6 := Lib.hid hb6; have HK := Lib.hid hk1; have Hg6 := Lib.hid hg6; clear hb6 hk1 hg6 hl6; (try simp only [PU]))
        | ((with_reducible refine at_dst (N := 3) rfl ?_); go_must (refine ev_alloc rfl rfl zeroS3 rfl ?_; intro g7 w2 hg7 hl7 hb7 hk2); have Hg7 := Lib.hid (show w.heap.size ≤ g7 ∧ g6 < g7 from ⟨Nat.le_trans HK.out.size hg7, Nat.lt_of_lt_of_le (blk_lt Hb6.out) hg7⟩); have Hb6 := Lib.hid (hk2.blk Hb6.out id); have Hb7 := Lib.hid hb7; have HK := Lib.hid (HK.out.trans hk2 (fun _ _ h => h)); clear hb7 hk2 hg7 hl7; (try simp only [PU]))
        | ((with_reducible refine at_dst (N := 4) rfl ?_); go_must (refine ev_alloc rfl rfl zero28 rfl ?_; intro g8 w3 hg8 hl8 hb8 hk3); have Hg8 := Lib.hid (show w.heap.size ≤ g8 ∧ g7 < g8 from ⟨Nat.le_trans HK.out.size hg8, Nat.lt_of_lt_of_le (blk_lt Hb7.out) hg8⟩); have Hb6 := Lib.hid (hk3.blk Hb6.out id); have Hb7 := Lib.hid (hk3.blk Hb7.out id); have Hb8 := Lib.hid hb8; have HK := Lib.hid (HK.out.trans hk3 (fun _ _ h => h)); clear hb8 hk3 hg8 hl8; (try simp only [PU]))
        | ((with_reducible refine at_dst (N := 13) rfl ?_); go_must (refine ev_box (cs := #[.string T, .int .i64 0]) rfl rfl rfl ?_; intro g5 w4 hg5 hl5 hb5 hk5)
           have Hg5 := Lib.hid (show w.heap.size ≤ g5 ∧ g8 < g5 from ⟨Nat.le_trans HK.out.size hg5, Nat.lt_of_lt_of_le (blk_lt Hb8.out) hg5⟩)
           have Hr := Lib.hid (show Rd w4 g5 T (bl T) from ⟨by rw [bl_len, Nat.sub_self]; exact hb5, ⟨[], rfl⟩, HTs.out⟩)
           have Hb6 := Lib.hid (hk5.blk Hb6.out id)
           have Hb7 := Lib.hid (hk5.blk Hb7.out id)
           have Hb8 := Lib.hid (hk5.blk Hb8.out id)
           have HK := Lib.hid (HK.out.trans hk5 (fun _ _ h => h))
           clear hb5 hk5 hg5 hl5
           (try simp only [PU]))
        | (go_at_call 45; go_must (refine (blanks45 Hr.out).mono ?_; rintro e w5 ⟨⟨y5, rfl⟩, hr5, hk5⟩)
           have Hr := Lib.hid hr5
           (try have HV := Lib.hid (HV.out.keep (X' := fun b => g5 < b) hk5 (fun b _ hb e => by omega) (fun _ _ h => h)))
           have Hb6 := Lib.hid (hk5.blk Hb6.out (fun e : g6 = g5 => by have := Hg7.out; have := Hg8.out; have := Hg5.out; omega))
           have Hb7 := Lib.hid (hk5.blk Hb7.out (fun e : g7 = g5 => by have := Hg8.out; have := Hg5.out; omega))
           have Hb8 := Lib.hid (hk5.blk Hb8.out (fun e : g8 = g5 => by have := Hg5.out; omega))
           have HK := Lib.hid (show Keeps Nob w w5 from HK.out.trans hk5 (fun i hi e => by have := Hg5.out; omega))
           clear hr5 hk5
           (try simp only [PU]))
        | (go_at_call 46; go_must (refine (HVal.out _ _ Hr.out).mono ?_; rintro e w6 ⟨⟨v1, rfl, hv1⟩, hr1, hk1⟩; obtain ⟨jk, jb, jn, jt, jks, jvs, jkv, jvv, hjj, rfl, hjk, hjv⟩ := hv1.open; obtain ⟨kA, kc, rfl, -, -⟩ := hjk; obtain ⟨jA, jc, ju, rfl, -, -, -⟩ := hjv)
           have hl5 := Hr.out.lt
           have HV := Lib.hid (hv1.keep (X' := fun b => g5 < b) (Keeps.refl Nob _) (fun _ _ _ => id) (fun b hb hx => Nat.lt_of_lt_of_le hl5 hx))
           have Hr := Lib.hid hr1
           have Hb6 := Lib.hid (hk1.blk Hb6.out (fun e : g6 = g5 => by have := Hg7.out; have := Hg8.out; have := Hg5.out; omega))
           have Hb7 := Lib.hid (hk1.blk Hb7.out (fun e : g7 = g5 => by have := Hg8.out; have := Hg5.out; omega))
           have Hb8 := Lib.hid (hk1.blk Hb8.out (fun e : g8 = g5 => by have := Hg5.out; omega))
           have HK := Lib.hid (show Keeps Nob w w6 from HK.out.trans hk1 (fun i hi e => by have := Hg5.out; omega))
           clear hv1 hr1 hk1 hjj hl5
           generalize jks.length = kl at *
           generalize jvs.length = vl at *
           (try simp only [PU]))
        | ((with_reducible refine at_store (t := 25) rfl ?_); go_must (refine ev_store (cs' := #[.int .i64 jk, .bool jb, .int .i64 jn, .string jt, .slice kA kl kc, .slice jA vl jc]) rfl rfl rfl rfl rfl rfl HI.out.1.1 HI.out.1.2 rfl Hb6.out (Nat.le_of_ble_eq_true rfl) rfl ?_; intro w7 hb7 hk7)
           have HV := Lib.hid (HV.out.keep (X' := fun b => g5 < b) hk7 (fun b _ hb e => by have := Hg7.out; have := Hg8.out; have := Hg5.out; omega) (fun _ _ h => h))
           have Hr := Lib.hid (Hr.out.keep hk7 (fun e : g5 = g6 => by have := Hg7.out; have := Hg8.out; have := Hg5.out; omega))
           have Hb7 := Lib.hid (hk7.blk Hb7.out (fun e : g7 = g6 => by have := Hg7.out; omega))
           have Hb8 := Lib.hid (hk7.blk Hb8.out (fun e : g8 = g6 => by have := Hg7.out; have := Hg8.out; omega))
           have HK := Lib.hid (show Keeps Nob w w7 from HK.out.trans hk7 (fun i hi e => by have := Hg6.out; omega))
           have Hb6 := Lib.hid hb7
           clear hb7 hk7
           (try simp only [PU]))
       )
       go_upto_region 8 with (first
        | (go_at_call 45; go_must (refine (blanks45 Hr.out).mono ?_; rintro e w5 ⟨⟨y5, rfl⟩, hr5, hk5⟩)
           have Hr := Lib.hid hr5
           (try have HV := Lib.hid (HV.out.keep (X' := fun b => g5 < b) hk5 (fun b _ hb e => by omega) (fun _ _ h => h)))
           have Hb6 := Lib.hid (hk5.blk Hb6.out (fun e : g6 = g5 => by have := Hg7.out; have := Hg8.out; have := Hg5.out; omega))
           have Hb7 := Lib.hid (hk5.blk Hb7.out (fun e : g7 = g5 => by have := Hg8.out; have := Hg5.out; omega))
           have Hb8 := Lib.hid (hk5.blk Hb8.out (fun e : g8 = g5 => by have := Hg5.out; omega))
           have HK := Lib.hid (show Keeps Nob w w5 from HK.out.trans hk5 (fun i hi e => by have := Hg5.out; omega))
           clear hr5 hk5
           (try simp only [PU]))
       )
       rw [Hbl.out] at Hr
       have q1 := (blk_cell Hr.out.blk 1).trans rfl
       have s0 := (blk_cell Hb6.out 0).trans rfl
       have s1 := (blk_cell Hb6.out 1).trans rfl
       have s2 := (blk_cell Hb6.out 2).trans rfl
       have s3 := (blk_cell Hb6.out 3).trans rfl
       have s4 := (blk_cell Hb6.out 4).trans rfl
       have s5 := (blk_cell Hb6.out 5).trans rfl
       simp only [List.length_nil, Nat.sub_zero] at q1
       go_wp2_with (first
        | (go_at_call 16; go_must (refine (check16 HV.out (Tab.up (HT.out.keep HK.out.any) HK.out.size) Hsz.out).mono ?_; rintro e w12 ⟨rfl, hk12⟩; rw [Hck.out])
           have HV := Lib.hid (HV.out.keep (X' := fun b => g5 < b) hk12 (fun _ _ _ => id) (fun _ _ h => h))
           have Hb6 := Lib.hid (hk12.blk Hb6.out id)
           have Hb7 := Lib.hid (hk12.blk Hb7.out id)
           have Hb8 := Lib.hid (hk12.blk Hb8.out id)
           have HK := Lib.hid (HK.out.trans hk12 (fun _ _ h => h))
           clear hk12 s0 s1 s2 s3 s4 s5
           have s0 := (blk_cell Hb6.out 0).trans rfl
           have s1 := (blk_cell Hb6.out 1).trans rfl
           have s2 := (blk_cell Hb6.out 2).trans rfl
           have s3 := (blk_cell Hb6.out 3).trans rfl
           have s4 := (blk_cell Hb6.out 4).trans rfl
           have s5 := (blk_cell Hb6.out 5).trans rfl
           (try simp only [PU]))
        | ((with_reducible refine at_store (t := 25) rfl ?_); go_must (refine ev_store (cs' := #[.int .i64 0, .bool false, .int .i64 0, .string ByteArray.empty, .slice none 0 0, .slice none 0 0]) rfl rfl rfl rfl rfl rfl HI.out.1.1 HI.out.1.2 rfl Hb6.out (Nat.le_of_ble_eq_true rfl) rfl ?_; intro wa hba hka); have Hb7 := Lib.hid (hka.blk Hb7.out (fun e : g7 = g6 => by have := Hg7.out; omega)); have Hb8 := Lib.hid (hka.blk Hb8.out (fun e : g8 = g6 => by have := Hg7.out; have := Hg8.out; omega)); have Hb6 := Lib.hid hba; have HKa := Lib.hid (hka.mono (M' := fun k => k = g6 ∨ k = g7 ∨ k = g8) (fun _ _ e => .inl e)); clear hba hka; (try simp only [PU]))
        | ((with_reducible refine at_store (t := 3) rfl ?_); go_must (refine ev_store (cs' := #[.int .i64 0]) rfl rfl rfl rfl rfl rfl HI.out.2.1.1 HI.out.2.1.2 rfl Hb7.out (Nat.le_of_ble_eq_true rfl) rfl ?_; intro wb hbb hkb); have Hb6 := Lib.hid (hkb.blk Hb6.out (fun e : g6 = g7 => by have := Hg7.out; omega)); have Hb8 := Lib.hid (hkb.blk Hb8.out (fun e : g8 = g7 => by have := Hg8.out; omega)); have Hb7 := Lib.hid hbb; have HKa := Lib.hid (HKa.out.trans hkb (fun _ _ e => .inr (.inl e))); clear hbb hkb; (try simp only [PU]))
        | ((with_reducible refine at_store (t := 28) rfl ?_); go_must (refine ev_store (cs' := #[.int .i64 3]) rfl rfl rfl rfl rfl rfl HI.out.2.2.1 HI.out.2.2.2 rfl Hb8.out (Nat.le_of_ble_eq_true rfl) rfl ?_; intro wc hbc hkc); have Hb6 := Lib.hid (hkc.blk Hb6.out (fun e : g6 = g8 => by have := Hg7.out; have := Hg8.out; omega)); have Hb7 := Lib.hid (hkc.blk Hb7.out (fun e : g7 = g8 => by have := Hg8.out; omega)); have Hb8 := Lib.hid hbc; have HKa := Lib.hid (HKa.out.trans hkc (fun _ _ e => .inr (.inr e))); clear hbc hkc; (try simp only [PU]))
       )
       (try simp only [Exit.inBlock, Exit.then])
       refine leaves_cons (f := 44) (args := #[.pointer (some ⟨g6, 0, none⟩), .pointer (some ⟨g7, 0, none⟩), .pointer (some ⟨g8, 0, none⟩)]) (by simp) (by simp [go_sem]) ?_
       refine (Read_idle ⟨g6, 0, none⟩ ⟨g7, 0, none⟩ ⟨g8, 0, none⟩ _).mono ?_
       rintro e u' w'' ⟨rfl, rfl, rfl⟩
       simp only [settle, Leaves]
       clear s0 s1 s2 s3 s4 s5
       have s0 := (blk_cell Hb6.out 0).trans rfl
       have s1 := (blk_cell Hb6.out 1).trans rfl
       have s2 := (blk_cell Hb6.out 2).trans rfl
       have s3 := (blk_cell Hb6.out 3).trans rfl
       have s4 := (blk_cell Hb6.out 4).trans rfl
       have s5 := (blk_cell Hb6.out 5).trans rfl
       have s7 := (blk_cell Hb7.out 0).trans rfl
       have s8 := (blk_cell Hb8.out 0).trans rfl
       refine ⟨_, results_cells3 (x := .agg #[.int .i64 0, .bool false, .int .i64 0, .string ByteArray.empty, .slice none 0 0, .slice none 0 0]) (y := .int .i64 0) (z := .int .i64 3) rfl _ _ rfl rfl rfl (by go_simp) (by go_simp) (by go_simp), ?_⟩
       exact ⟨⟨_, rfl, zJX _ _⟩, HK.out.trans HKa.out (fun i hi e => by have := Hg6.out; have := Hg7.out; have := Hg8.out; omega)⟩
   · have hr1 : (c :: q).length ≤ T.size := by
      have h1 := ((read_ok _).1 40 _ _ _ (by decide) hv).1
      have h2 := blanksB_le r1
      rw [hb] at h2
      omega
     have hR : readW T = (zJ, ((T.size - (q.length + 1) : Nat) : Int), 4) := by
      unfold readW readJ
      rw [if_neg hTn, hv]
      simp only [hb, hbT]
     rw [hR]
     have Hbl := Lib.hid hb
     obtain ⟨a, ha⟩ : ∃ a, T.size - (q.length + 1) = a := ⟨_, rfl⟩
     have haT : (a : Int) < T.size := by simp only [List.length_cons] at hr1; omega
     have Hn := Lib.hid (show q.length + 1 ≤ T.size from hr1)
     have Ha := Lib.hid ha
     rw [ha]
     clear ht hT hTn hbb hbT hv hR ha hb hsz hr1
     go_enter_defers Tryd.func18, Tryd.ntmps18
     go_upto_region 7 with (first
      | ((with_reducible refine at_dst (N := 2) rfl ?_); go_must (refine ev_alloc rfl rfl zero25 rfl ?_; intro g6 w1 hg6 hl6 hb6 hk1); have Hb6 := Lib.hid hb6; have HK := Lib.hid hk1; have Hg6 := Lib.hid hg6; clear hb6 hk1 hg6 hl6; (try simp only [PU]))
      | ((with_reducible refine at_dst (N := 3) rfl ?_); go_must (refine ev_alloc rfl rfl zeroS3 rfl ?_; intro g7 w2 hg7 hl7 hb7 hk2); have Hg7 := Lib.hid (show w.heap.size ≤ g7 ∧ g6 < g7 from ⟨Nat.le_trans HK.out.size hg7, Nat.lt_of_lt_of_le (blk_lt Hb6.out) hg7⟩); have Hb6 := Lib.hid (hk2.blk Hb6.out id); have Hb7 := Lib.hid hb7; have HK := Lib.hid (HK.out.trans hk2 (fun _ _ h => h)); clear hb7 hk2 hg7 hl7; (try simp only [PU]))
      | ((with_reducible refine at_dst (N := 4) rfl ?_); go_must (refine ev_alloc rfl rfl zero28 rfl ?_; intro g8 w3 hg8 hl8 hb8 hk3); have Hg8 := Lib.hid (show w.heap.size ≤ g8 ∧ g7 < g8 from ⟨Nat.le_trans HK.out.size hg8, Nat.lt_of_lt_of_le (blk_lt Hb7.out) hg8⟩); have Hb6 := Lib.hid (hk3.blk Hb6.out id); have Hb7 := Lib.hid (hk3.blk Hb7.out id); have Hb8 := Lib.hid hb8; have HK := Lib.hid (HK.out.trans hk3 (fun _ _ h => h)); clear hb8 hk3 hg8 hl8; (try simp only [PU]))
      | ((with_reducible refine at_dst (N := 13) rfl ?_); go_must (refine ev_box (cs := #[.string T, .int .i64 0]) rfl rfl rfl ?_; intro g5 w4 hg5 hl5 hb5 hk5)
         have Hg5 := Lib.hid (show w.heap.size ≤ g5 ∧ g8 < g5 from ⟨Nat.le_trans HK.out.size hg5, Nat.lt_of_lt_of_le (blk_lt Hb8.out) hg5⟩)
         have Hr := Lib.hid (show Rd w4 g5 T (bl T) from ⟨by rw [bl_len, Nat.sub_self]; exact hb5, ⟨[], rfl⟩, HTs.out⟩)
         have Hb6 := Lib.hid (hk5.blk Hb6.out id)
         have Hb7 := Lib.hid (hk5.blk Hb7.out id)
         have Hb8 := Lib.hid (hk5.blk Hb8.out id)
         have HK := Lib.hid (HK.out.trans hk5 (fun _ _ h => h))
         clear hb5 hk5 hg5 hl5
         (try simp only [PU]))
      | (go_at_call 45; go_must (refine (blanks45 Hr.out).mono ?_; rintro e w5 ⟨⟨y5, rfl⟩, hr5, hk5⟩)
         have Hr := Lib.hid hr5
         (try have HV := Lib.hid (HV.out.keep (X' := fun b => g5 < b) hk5 (fun b _ hb e => by omega) (fun _ _ h => h)))
         have Hb6 := Lib.hid (hk5.blk Hb6.out (fun e : g6 = g5 => by have := Hg7.out; have := Hg8.out; have := Hg5.out; omega))
         have Hb7 := Lib.hid (hk5.blk Hb7.out (fun e : g7 = g5 => by have := Hg8.out; have := Hg5.out; omega))
         have Hb8 := Lib.hid (hk5.blk Hb8.out (fun e : g8 = g5 => by have := Hg5.out; omega))
         have HK := Lib.hid (show Keeps Nob w w5 from HK.out.trans hk5 (fun i hi e => by have := Hg5.out; omega))
         clear hr5 hk5
         (try simp only [PU]))
      | (go_at_call 46; go_must (refine (HVal.out _ _ Hr.out).mono ?_; rintro e w6 ⟨⟨v1, rfl, hv1⟩, hr1, hk1⟩; obtain ⟨jk, jb, jn, jt, jks, jvs, jkv, jvv, hjj, rfl, hjk, hjv⟩ := hv1.open; obtain ⟨kA, kc, rfl, -, -⟩ := hjk; obtain ⟨jA, jc, ju, rfl, -, -, -⟩ := hjv)
         have hl5 := Hr.out.lt
         have HV := Lib.hid (hv1.keep (X' := fun b => g5 < b) (Keeps.refl Nob _) (fun _ _ _ => id) (fun b hb hx => Nat.lt_of_lt_of_le hl5 hx))
         have Hr := Lib.hid hr1
         have Hb6 := Lib.hid (hk1.blk Hb6.out (fun e : g6 = g5 => by have := Hg7.out; have := Hg8.out; have := Hg5.out; omega))
         have Hb7 := Lib.hid (hk1.blk Hb7.out (fun e : g7 = g5 => by have := Hg8.out; have := Hg5.out; omega))
         have Hb8 := Lib.hid (hk1.blk Hb8.out (fun e : g8 = g5 => by have := Hg5.out; omega))
         have HK := Lib.hid (show Keeps Nob w w6 from HK.out.trans hk1 (fun i hi e => by have := Hg5.out; omega))
         clear hv1 hr1 hk1 hjj hl5
         generalize jks.length = kl at *
         generalize jvs.length = vl at *
         (try simp only [PU]))
      | ((with_reducible refine at_store (t := 25) rfl ?_); go_must (refine ev_store (cs' := #[.int .i64 jk, .bool jb, .int .i64 jn, .string jt, .slice kA kl kc, .slice jA vl jc]) rfl rfl rfl rfl rfl rfl HI.out.1.1 HI.out.1.2 rfl Hb6.out (Nat.le_of_ble_eq_true rfl) rfl ?_; intro w7 hb7 hk7)
         have HV := Lib.hid (HV.out.keep (X' := fun b => g5 < b) hk7 (fun b _ hb e => by have := Hg7.out; have := Hg8.out; have := Hg5.out; omega) (fun _ _ h => h))
         have Hr := Lib.hid (Hr.out.keep hk7 (fun e : g5 = g6 => by have := Hg7.out; have := Hg8.out; have := Hg5.out; omega))
         have Hb7 := Lib.hid (hk7.blk Hb7.out (fun e : g7 = g6 => by have := Hg7.out; omega))
         have Hb8 := Lib.hid (hk7.blk Hb8.out (fun e : g8 = g6 => by have := Hg7.out; have := Hg8.out; omega))
         have HK := Lib.hid (show Keeps Nob w w7 from HK.out.trans hk7 (fun i hi e => by have := Hg6.out; omega))
         have Hb6 := Lib.hid hb7
         clear hb7 hk7
         (try simp only [PU]))
     )
     go_upto_region 8 with (first
      | (go_at_call 45; go_must (refine (blanks45 Hr.out).mono ?_; rintro e w5 ⟨⟨y5, rfl⟩, hr5, hk5⟩)
         have Hr := Lib.hid hr5
         (try have HV := Lib.hid (HV.out.keep (X' := fun b => g5 < b) hk5 (fun b _ hb e => by omega) (fun _ _ h => h)))
         have Hb6 := Lib.hid (hk5.blk Hb6.out (fun e : g6 = g5 => by have := Hg7.out; have := Hg8.out; have := Hg5.out; omega))
         have Hb7 := Lib.hid (hk5.blk Hb7.out (fun e : g7 = g5 => by have := Hg8.out; have := Hg5.out; omega))
         have Hb8 := Lib.hid (hk5.blk Hb8.out (fun e : g8 = g5 => by have := Hg5.out; omega))
         have HK := Lib.hid (show Keeps Nob w w5 from HK.out.trans hk5 (fun i hi e => by have := Hg5.out; omega))
         clear hr5 hk5
         (try simp only [PU]))
     )
     rw [Hbl.out] at Hr
     have q1 := (blk_cell Hr.out.blk 1).trans rfl
     have s0 := (blk_cell Hb6.out 0).trans rfl
     have s1 := (blk_cell Hb6.out 1).trans rfl
     have s2 := (blk_cell Hb6.out 2).trans rfl
     have s3 := (blk_cell Hb6.out 3).trans rfl
     have s4 := (blk_cell Hb6.out 4).trans rfl
     have s5 := (blk_cell Hb6.out 5).trans rfl
     rw [show (c :: q).length = q.length + 1 from rfl, Ha.out] at q1
     go_wp2_with fail
     have hf := fail47 Hr.out (q.length + 1) Hn.out
     rw [Ha.out] at hf
     refine hf.mono ?_
     rintro e w8 ⟨rfl, rfl⟩
     unfold stopAt
     rw [Ha.out]
     clear s0 s1 s2 s3 s4 s5 hf
     refine leaves_cons (f := 44) (args := #[.pointer (some ⟨g6, 0, none⟩), .pointer (some ⟨g7, 0, none⟩), .pointer (some ⟨g8, 0, none⟩)]) (by simp) (by simp [go_sem]) ?_
     refine (Read_catch g6 g7 g8 (a : Nat) _ _ _ _ _ _ _ _ _ Hb6.out Hb7.out Hb8.out (by have := Hg7.out; omega) (by have := Hg7.out; have := Hg8.out; omega) (by have := Hg8.out; omega)).mono ?_
     rintro e u' w9 ⟨rfl, rfl, hk9, hb6, hb7, hb8⟩
     have s0 := (blk_cell hb6 0).trans rfl
     have s1 := (blk_cell hb6 1).trans rfl
     have s2 := (blk_cell hb6 2).trans rfl
     have s3 := (blk_cell hb6 3).trans rfl
     have s4 := (blk_cell hb6 4).trans rfl
     have s5 := (blk_cell hb6 5).trans rfl
     have s7 := (blk_cell hb7 0).trans rfl
     have s8 := (blk_cell hb8 0).trans rfl
     simp only [settle, Leaves]
     refine ⟨_, results_cells3 (x := .agg #[.int .i64 0, .bool false, .int .i64 0, .string ByteArray.empty, .slice none 0 0, .slice none 0 0]) (y := .int .i64 (a : Nat)) (z := .int .i64 4) rfl _ _ rfl rfl rfl (by go_simp) (by go_simp) (by go_simp), ?_⟩
     exact ⟨⟨_, rfl, zJX _ _⟩, HK.out.trans hk9 (fun i hi e => by have := Hg6.out; have := Hg7.out; have := Hg8.out; omega)⟩
theorem Read_any {w : World} {T : ByteArray} (ht : Tab w w.heap.size) : Calls Tryd.prog 18 #[.string T] w (ReadEnd w (readW T)) := by
 by_cases hT : T.size ≤ 1000000
 · exact Read_short ht hT
 · have hR : readW T = (zJ, 0, 3) := by unfold readW; rw [if_pos (by omega)]
   rw [hR]
   exact Read_long (by omega)
end Go.Proofs.WV

namespace Go.Proofs.WV
open Go.RowKit Go.Proofs.KL Go.Proofs.WM
set_option maxRecDepth 100000
set_option linter.unusedSimpArgs false
set_option linter.unusedVariables false

theorem head52 {W : World} {X : Nat → Prop} {A : Option Addr} {n c : Nat} {s : Bs} (hb : BytesX W X (.slice A n c) s) (hl : n ≤ 2000000000) : Calls Tryd.prog 52 #[.slice A n c] W (HeadEnd W (headH s)) := by
 by_cases h : s.take 8 = beginB.take s.length
 · exact head_yes hb hl h
 · have e : headH s = (0, 0, false, false) := by unfold headH; rw [if_neg h]
   rw [e]
   exact head_no hb h
def growRen : Go.Shelf.Ren := ⟨fun | 4 => 88 | n => n, fun | 22 => 38 | 25 => 5 | n => n, fun | n => n⟩
theorem laysGrow : Go.Proofs.Lays8.n4 Tryd.prog growRen := {
 mixed := by kernel_rfl
 f4 := ⟨Tryd.f88.name, by decide, Tryd.func88.trans (congrArg some (by kernel_rfl))⟩
 t0 := Tryd.underlying0
 a0 := Tryd.isAgg0
 z0 := Tryd.sizeOf0
 v0 := Tryd.zeroValue0
 t3 := Tryd.underlying3
 a3 := Tryd.isAgg3
 z3 := Tryd.sizeOf3
 v3 := Tryd.zeroValue3
 t4 := Tryd.underlying4
 a4 := Tryd.isAgg4
 z4 := Tryd.sizeOf4
 v4 := Tryd.zeroValue4
 t9 := Tryd.underlying9
 a9 := Tryd.isAgg9
 z9 := Tryd.sizeOf9
 v9 := Tryd.zeroValue9
 t20 := Tryd.underlying20
 a20 := Tryd.isAgg20
 z20 := Tryd.sizeOf20
 v20 := Tryd.zeroValue20
 t22 := Tryd.underlying38
 a22 := Tryd.isAgg38
 z22 := Tryd.sizeOf38
 v22 := Tryd.zeroValue38 }
def NewB (w : World) (bs : Bs) : Ending → World → Prop := fun e w' => (∃ v, e = .returned v ∧ OwnB w' w.heap.size v bs) ∧ Keeps Nob w w'
theorem grow88 (n : Nat) (hn : n ≤ 4000000000) (w : World) : Calls Tryd.prog 88 #[.slice none 0 0, .int .i64 n] w (NewB w []) := by
 by_cases h0 : n = 0
 · subst h0
   refine (Any8.slices_Grow_room laysGrow none 0 0 0 w (Nat.le_refl _) (by decide) (by decide) (Nat.le_refl _)).mono ?_
   rintro e w' ⟨rfl, rfl⟩
   exact ⟨⟨_, rfl, .inl ⟨rfl, rfl⟩⟩, Keeps.refl _ _⟩
 · obtain ⟨i, hi, hz⟩ := Option.map_eq_some_iff.1 byteT38.info
   simp only [Prod.mk.injEq] at hz
   obtain ⟨hz1, hz2, hz3⟩ := hz
   refine (Any8.slices_Grow_grow laysGrow i (.int .u8 0) hi hz1 (by omega) none 0 0 n [] w (Nat.le_refl _) (by omega) (by rw [hz3]; omega) (by omega) (by simp) (fun _ => rfl) (fun a h => by cases h)).mono ?_
   rintro e w' ⟨rfl, rfl⟩
   have hge := grownCap_ge w n 0 5
   have hle := grownCap_le_maxLen w n 0 5 (by unfold maxLen; omega)
   refine ⟨⟨_, rfl, .inr ⟨w.heap.size, grownCap w n 0 5, _, (0, 0), by rw [Nat.zero_add]; rfl, Nat.le_refl _, blk_new w.drew _, .inl (Nat.zero_le _), Nat.zero_le _, hle, ?_, by simp⟩⟩, grown_keeps _⟩
   have hzc : ∀ m, (Builtin.zeroCells (Value.int .u8 0).cells m).size = m := fun m => by simp [Builtin.zeroCells, Value.cells]
   rw [Nat.zero_add, Nat.sub_zero]
   simp only [Array.size_append, List.size_toArray, List.length_nil, hzc]
   show 0 + n + (grownCap w n 0 5 - n) = _
   omega
end Go.Proofs.WV

namespace Go.Proofs.WV
open Go.RowKit Go.Proofs.KL Go.Proofs.WM
set_option maxRecDepth 100000
set_option linter.unusedSimpArgs false
set_option linter.unusedVariables false

theorem sl_nil (n c : Nat) (w : World) : (binOp .eql 38 (.slice none n c) (.slice none 0 0)).run Tryd.prog w = .ok (.bool true) w := by kernel_rfl
theorem sl_some (b o : Nat) (sp : Option Nat) (n c : Nat) (w : World) : (binOp .eql 38 (.slice (some ⟨b, o, sp⟩) n c) (.slice none 0 0)).run Tryd.prog w = .ok (.bool false) w := by kernel_rfl
theorem OwnB.weaken {w : World} {b b' : Nat} {v : Value} {bs : Bs} (h : OwnB w b v bs) (hb : b' ≤ b) : OwnB w b' v bs := by
 rcases h with h | ⟨g, cap, cur, fz, e, hg, h⟩
 · exact .inl h
 · exact .inr ⟨g, cap, cur, fz, e, Nat.le_trans hb hg, h⟩
set_option maxHeartbeats 2000000 in
theorem clone53 {W : World} {X : Nat → Prop} {A : Option Addr} {n c : Nat} {s : Bs} (hb : BytesX W X (.slice A n c) s) (hl : n ≤ 2000000000) : Calls Tryd.prog 53 #[.slice A n c] W (NewB W s) := by
 obtain ⟨hn, hc⟩ := hb.len
 have HB := Lib.hid hb
 have Hn := Lib.hid hn
 cases A with
 | none =>
   have hs : s = [] := by
    rcases Nat.eq_zero_or_pos n with h0 | h0
    · exact List.eq_nil_of_length_eq_zero (by omega)
    · obtain ⟨b, o, e, -⟩ := hb.at h0; cases e
   have Hs := Lib.hid hs
   have hnil := sl_nil n c
   clear hb hn hs
   go_enter Tryd.func53, Tryd.ntmps53
   go_wp2
   go_ret
   exact ⟨⟨_, rfl, .inl ⟨rfl, Hs.out⟩⟩, Keeps.refl _ _⟩
 | some ad =>
   obtain ⟨b, o, sp⟩ := ad
   have hnil := sl_some b o sp n c
   clear hb hn
   go_enter Tryd.func53, Tryd.ntmps53
   go_wp2_with (first
    | ((with_reducible refine at_dst (N := 5) rfl ?_); go_must (refine ev_slice (cs := #[]) (t := 5) (n := 0) (c := 0) rfl (by first | (go_simp; done) | (go_simp; rfl)) ?_; intro g w1 hg hlg hbg hkg)
       have Hbg := Lib.hid hbg
       have Hkg := Lib.hid hkg
       have Hg := Lib.hid hg
       clear hbg hkg hg hlg
       (try simp only [PU]))
    | ((with_reducible refine at_dst (N := 7) rfl ?_); go_must (refine ev_app_sl rfl rfl byteT38 (base := W.heap.size) (bs := []) rfl (.inr ⟨g, 0, #[], (0, 0), rfl, Hg.out, Hbg.out, .inl (Nat.zero_le _), Nat.zero_le _, by decide, rfl, rfl⟩) rfl (news := s) Hn.out.symm (HB.out.keep (X' := X) Hkg.out (fun _ _ _ => id) (fun _ _ h => h)).news (by simp only [List.length_nil]; omega) Hkg.out.size ?_; intro v' w2 ho2 ha2; obtain ⟨nA, nc, hv'⟩ := ho2.slice; subst hv')
       have Ho2 := Lib.hid ho2
       have Ha2 := Lib.hid ha2
       clear ho2 ha2
       (try simp only [PU]))
   )
   go_ret
   refine ⟨⟨_, rfl, Ho2.out⟩, ?_⟩
   exact Hkg.out.trans Ha2.out.keep (fun i hi e => by have := Hg.out; have e' : i = g := Option.some.inj e; omega)
def catTo (s t : Bs) (i : Nat) : Bs := if i = 0 then [] else if i = 1 then s else s ++ t
set_option maxHeartbeats 4000000 in
theorem concat51 {W : World} {X Y : Nat → Prop} {A B : Option Addr} {n c m d g : Nat} {s t : Bs} (hg : W.heap[g]? = some (.cells #[.slice A n c, .slice B m d] 38 (0, 0))) (hs : BytesX W X (.slice A n c) s) (ht : BytesX W Y (.slice B m d) t) (hl : n ≤ 1000000000) (hl2 : m ≤ 1000000000) :
  Calls Tryd.prog 51 #[.slice (some ⟨g, 0, none⟩) 2 2] W (NewB W (s ++ t)) := by
 have h0 : W.cell? ⟨g, 0, none⟩ = some (.slice A n c) := (blk_cell hg 0).trans rfl
 have h1 : W.cell? ⟨g, 1, none⟩ = some (.slice B m d) := (blk_cell hg 1).trans rfl
 have Hg := Lib.hid hg
 have HS := Lib.hid hs
 have HT := Lib.hid ht
 have Hns := Lib.hid hs.len.1
 have Hnt := Lib.hid ht.len.1
 have H88 := Lib.hid (fun (k : Nat) (hk : k ≤ 4000000000) w => grow88 k hk w)
 clear hg hs ht
 go_enter Tryd.func51, Tryd.ntmps51
 go_upto_region 3 with fail
 go_loopg [11, 3] 2 (fun K iv sv wr => ∃ i : Nat, iv = .int .i64 i ∧ i + K = 2 ∧ sv = .int .i64 ((if i = 0 then 0 else if i = 1 then n else n + m : Nat) : Int) ∧ Hid (wr = W))
 case atStart => exact ⟨0, rfl, rfl, rfl, Lib.hid rfl⟩
 case round =>
  obtain ⟨i, rfl, hik, rfl, Hw⟩ := hrel
  have hw : W = wr := Hw.out.symm
  subst hw
  rcases (show i = 0 ∨ i = 1 ∨ i = 2 by omega) with e | e | e
  · subst e
    simp only [if_true, Int.natCast_zero] at *
    go_wp2
    go_roundg 1
    case measure => omega
    case rel => exact ⟨1, rfl, rfl, by simp, Lib.hid rfl⟩
  · subst e
    simp only [if_neg (show ¬ (1 : Nat) = 0 by decide), if_true] at *
    go_wp2
    go_roundg 0
    case measure => omega
    case rel => exact ⟨2, rfl, rfl, by simp, Lib.hid rfl⟩
  · subst e
    simp only [if_neg (show ¬ (2 : Nat) = 0 by decide), if_neg (show ¬ (2 : Nat) = 1 by decide)] at *
    have hcast : ((n + m : Nat) : Int) = (n : Int) + m := by omega
    obtain ⟨k, hk⟩ : ∃ k, n + m = k := ⟨_, rfl⟩
    have Hk := Lib.hid (show k ≤ 4000000000 by omega)
    rw [hk]
    clear hcast hk
    go_upto_region 11 with (first
     | (go_at_call 88; go_must (refine (H88.out k Hk.out _).mono ?_; rintro e w1 ⟨⟨v1, rfl, ho1⟩, hk1⟩; obtain ⟨vA, vc, hv1⟩ := ho1.slice; subst hv1)
        have Ho1 := Lib.hid ho1
        have Hk1 := Lib.hid hk1
        clear ho1 hk1
        (try simp only [PU]))
    )
    clear h0 h1
    go_loopg [27, 6] 2 (fun K iv rv wr => ∃ (i : Nat) (R : Option Addr) (rn rc : Nat), iv = .int .i64 i ∧ i + K = 2 ∧ rv = .slice R rn rc ∧ Hid (OwnB wr W.heap.size (.slice R rn rc) (catTo s t i)) ∧ Hid (Keeps Nob W wr))
    case atStart => exact ⟨0, vA, 0, vc, rfl, rfl, rfl, Ho1, Hk1⟩
    case round =>
     obtain ⟨i, R, rn, rc, rfl, hik, rfl, HO, HK⟩ := hrel
     have h0 : wr.cell? ⟨g, 0, none⟩ = some (.slice A n c) := (blk_cell (HK.out.blk Hg.out id) 0).trans rfl
     have h1 : wr.cell? ⟨g, 1, none⟩ = some (.slice B m d) := (blk_cell (HK.out.blk Hg.out id) 1).trans rfl
     have HS2 := Lib.hid (HS.out.keep (X' := X) HK.out (fun _ _ _ => id) (fun _ _ h => h))
     have HT2 := Lib.hid (HT.out.keep (X' := Y) HK.out (fun _ _ _ => id) (fun _ _ h => h))
     rcases (show i = 0 ∨ i = 1 ∨ i = 2 by omega) with e | e | e
     · subst e
       go_wp2_with (first
        | ((with_reducible refine at_dst (N := 33) rfl ?_); go_must (refine ev_app_sl rfl rfl byteT38 (base := W.heap.size) (bs := []) rfl HO.out rfl (news := s) Hns.out.symm HS2.out.news (by simp only [List.length_nil]; omega) HK.out.size ?_; intro v' w3 ho2 ha2; obtain ⟨nA, nc, hv'⟩ := ho2.slice; subst hv')
           have Ho2 := Lib.hid ho2
           have Hk2 := Lib.hid (HK.out.trans ha2.keep (fun i hi e => by have := (HO.out.lt i e.symm).1; omega))
           clear ho2 ha2
           (try simp only [PU]))
       )
       go_roundg 1
       case measure => omega
       case rel => exact ⟨1, _, _, _, rfl, rfl, rfl, Ho2, Hk2⟩
     · subst e
       go_wp2_with (first
        | ((with_reducible refine at_dst (N := 33) rfl ?_); go_must (refine ev_app_sl rfl rfl byteT38 (base := W.heap.size) (bs := s) rfl HO.out rfl (news := t) Hnt.out.symm HT2.out.news (by have := Hns.out; omega) HK.out.size ?_; intro v' w3 ho2 ha2; obtain ⟨nA, nc, hv'⟩ := ho2.slice; subst hv')
           have Ho2 := Lib.hid ho2
           have Hk2 := Lib.hid (HK.out.trans ha2.keep (fun i hi e => by have := (HO.out.lt i e.symm).1; omega))
           clear ho2 ha2
           (try simp only [PU]))
       )
       go_roundg 0
       case measure => omega
       case rel => exact ⟨2, _, _, _, rfl, rfl, rfl, Ho2, Hk2⟩
     · subst e
       go_wp2
       go_ret
       exact ⟨⟨_, rfl, HO.out⟩, HK.out⟩
end Go.Proofs.WV

namespace Go.Proofs.WV
open Go.RowKit Go.Proofs.KL Go.Proofs.WM
set_option linter.unusedVariables false

abbrev lz : Value := .slice none 0 0
def OwnL (W : World) (lo : Nat) (v : Value) (ls : List Bs) : Prop :=
 ∃ xs : List Value, W.ownsRow lo 38 1 v ls.length xs ∧ ∀ i, i < ls.length → ∃ A n c, xs.getD i lz = .slice A n c ∧ BytesX W (fun b => lo ≤ b ∧ b < W.heap.size ∧ some b ≠ v.ownBlock) (.slice A n c) (ls.getD i [])
theorem OwnL.nil (W : World) (lo : Nat) : OwnL W lo (.slice none 0 0) [] := ⟨[], ⟨rfl, .inl ⟨rfl, rfl⟩⟩, fun i h => absurd h (Nat.not_lt_zero _)⟩
theorem ownsRow_lt {W : World} {lo n sz : Nat} {t : TypeId} {v : Value} {xs : List Value} (h : W.ownsRow lo t sz v n xs) : ∀ k, v.ownBlock = some k → lo ≤ k ∧ k < W.heap.size := fun k hk => by
 rcases h.2 with ⟨rfl, _⟩ | ⟨g, cap, cur, rfl, hb, hg, _⟩
 · cases hk
 · simp only [Value.ownBlock, Option.some.injEq] at hk; subst hk; exact ⟨hb, blk_lt hg⟩
theorem ownsRow_keep {M : Nat → Prop} {W W' : World} {lo n sz : Nat} {t : TypeId} {v : Value} {xs : List Value} (h : W.ownsRow lo t sz v n xs) (hk : Keeps M W W') (hn : ∀ k, v.ownBlock = some k → ¬ M k) : W'.ownsRow lo t sz v n xs := by
 obtain ⟨hl, h⟩ := h
 refine ⟨hl, ?_⟩
 rcases h with h | ⟨g, cap, cur, rfl, hb, hg, h⟩
 · exact .inl h
 · exact .inr ⟨g, cap, cur, rfl, hb, hk.blk hg (hn g rfl), h⟩
theorem OwnL.lt {W : World} {lo : Nat} {v : Value} {ls : List Bs} (h : OwnL W lo v ls) : ∀ k, v.ownBlock = some k → lo ≤ k ∧ k < W.heap.size := by
 obtain ⟨xs, hr, -⟩ := h
 exact ownsRow_lt hr
theorem OwnL.keep {M : Nat → Prop} {W W' : World} {lo : Nat} {v : Value} {ls : List Bs} (h : OwnL W lo v ls) (hk : Keeps M W W') (hM : ∀ b, b < W.heap.size → M b → b < lo) : OwnL W' lo v ls := by
 obtain ⟨xs, hr, hp⟩ := h
 refine ⟨xs, ownsRow_keep hr hk (fun k hk' hm => by have := ownsRow_lt hr k hk'; have := hM k this.2 hm; omega), fun i hi => ?_⟩
 obtain ⟨A, n, c, e, hb⟩ := hp i hi
 exact ⟨A, n, c, e, hb.keep hk (fun b hl hx hm => by have := hM b hl hm; have := hx.1; omega) (fun b hl hx => ⟨hx.1, Nat.lt_of_lt_of_le hl hk.size, hx.2.2⟩)⟩
theorem OwnL.slice {W : World} {lo : Nat} {v : Value} {ls : List Bs} (h : OwnL W lo v ls) : ∃ A c, v = .slice A ls.length c ∧ ls.length ≤ c := by
 obtain ⟨xs, hr, -⟩ := h
 rcases hr.2 with ⟨rfl, h0⟩ | ⟨g, cap, cur, rfl, _, _, hc, _⟩
 · exact ⟨none, 0, by rw [h0], by omega⟩
 · exact ⟨_, cap, rfl, hc⟩
theorem OwnL.push {W w1 : World} {lo : Nat} {v v' : Value} {ls : List Bs} {xs : List Value} (hr : W.ownsRow lo 38 1 v ls.length xs) (hp : ∀ i, i < ls.length → ∃ A n c, xs.getD i lz = .slice A n c ∧ BytesX W (fun b => lo ≤ b ∧ b < W.heap.size ∧ some b ≠ v.ownBlock) (.slice A n c) (ls.getD i []))
  {A : Option Addr} {n c : Nat} {x : Bs} (hx : BytesX W (fun b => lo ≤ b ∧ b < W.heap.size ∧ some b ≠ v.ownBlock) (.slice A n c) x) (hr1 : w1.ownsRow lo 38 1 v' (ls.length + 1) (xs ++ [.slice A n c])) (hk : Keeps (fun k => some k = v.ownBlock) W w1)
  (hrow : v'.ownBlock = v.ownBlock ∨ ∃ b, v'.ownBlock = some b ∧ W.heap.size ≤ b) : OwnL w1 lo v' (ls ++ [x]) := by
 have hxl : xs.length = ls.length := by have := hr.1; omega
 have keep : ∀ {A n c y}, BytesX W (fun b => lo ≤ b ∧ b < W.heap.size ∧ some b ≠ v.ownBlock) (.slice A n c) y → BytesX w1 (fun b => lo ≤ b ∧ b < w1.heap.size ∧ some b ≠ v'.ownBlock) (.slice A n c) y := fun h =>
  h.keep hk (fun b _ hb hm => hb.2.2 hm) (fun b hl hb => ⟨hb.1, Nat.lt_of_lt_of_le hl hk.size, fun e => by
   rcases hrow with e' | ⟨b', e', hb'⟩
   · exact hb.2.2 (by rw [e, e'])
   · rw [e'] at e; injection e with e; omega⟩)
 refine ⟨xs ++ [.slice A n c], by rw [List.length_append]; exact hr1, fun i hi => ?_⟩
 rw [List.length_append] at hi
 simp only [List.length_cons, List.length_nil] at hi
 by_cases hl : i < ls.length
 · obtain ⟨A', n', c', e, hb⟩ := hp i hl
   refine ⟨A', n', c', ?_, ?_⟩
   · rw [List.getD_eq_getElem?_getD, List.getElem?_append_left (by omega), ← List.getD_eq_getElem?_getD]; exact e
   · rw [List.getD_eq_getElem?_getD, List.getElem?_append_left hl, ← List.getD_eq_getElem?_getD]; exact keep hb
 · have e : i = ls.length := by omega
   subst e
   refine ⟨A, n, c, ?_, ?_⟩
   · rw [List.getD_eq_getElem?_getD, List.getElem?_append_right (by omega), hxl, Nat.sub_self]; rfl
   · rw [List.getD_eq_getElem?_getD, List.getElem?_append_right (Nat.le_refl _), Nat.sub_self]; exact keep hx
def FdX (W : World) (rb : Nat) (kb : Option Nat) (waits : Bs) (dead : Bool) : Prop :=
 ∃ A n c, W.heap[rb]? = some (.cells #[.slice A n c, .bool true, .bool dead] 41 (0, 0)) ∧ BytesX W (fun b => some b = kb) (.slice A n c) waits
theorem FdX.keep {M : Nat → Prop} {W W' : World} {rb : Nat} {kb : Option Nat} {waits : Bs} {dead : Bool} (h : FdX W rb kb waits dead) (hk : Keeps M W W') (hr : ¬ M rb) (hb : ∀ b, some b = kb → ¬ M b) : FdX W' rb kb waits dead := by
 obtain ⟨A, n, c, hblk, hx⟩ := h
 exact ⟨A, n, c, hk.blk hblk hr, hx.keep hk (fun b _ hx => hb b hx) (fun _ _ h => h)⟩
theorem headH_le (s : Bs) : (headH s).1 ≤ s.length + 4 ∧ (headH s).2.1 ≤ 1000000 := by
 unfold headH
 split
 · rcases hn : numH false 0 (s.drop 8) with _ | ⟨any, n, r⟩
   · exact ⟨Nat.zero_le _, Nat.zero_le _⟩
   · have h := (numH_suf hn (by omega)).1
     simp only [tailH]
     split
     · exact ⟨Nat.zero_le _, Nat.zero_le _⟩
     split
     · exact ⟨Nat.zero_le _, Nat.zero_le _⟩
     · exact ⟨by show s.length - r.length + 4 ≤ _; omega, h⟩
 · exact ⟨Nat.zero_le _, Nat.zero_le _⟩
theorem feedF_step (f : Nat) (out : List Bs) (w : Bs) : feedF (f + 1) out w = match frOf w (headH w) with
  | .bad => ⟨out, [], true⟩
  | .part => ⟨out, w, false⟩
  | .whole x r => feedF f (out ++ [x]) r := by
 rw [← frame_head]
 (conv => lhs; unfold feedF) <;> (cases frameB w <;> rfl)
end Go.Proofs.WV

namespace Go.Proofs.WV
open Go.RowKit Go.Proofs.KL Go.Proofs.WM
set_option maxRecDepth 100000
set_option linter.unusedSimpArgs false
set_option linter.unusedVariables false

theorem info38b : (Tryd.prog.info? 38).map (fun i => (i.zero, i.size, i.bytes)) = some (some (.slice none 0 0), 1, 24) := by kernel_rfl
theorem infoS38 : ∃ i, Tryd.prog.info? 38 = some i ∧ i.size = 1 := by
 have h : (Tryd.prog.info? 38).map (·.size) = some 1 := by kernel_rfl
 obtain ⟨i, hi, hs⟩ := Option.map_eq_some_iff.1 h
 exact ⟨i, hi, hs⟩
theorem infoS4 : ∃ i, Tryd.prog.info? 4 = some i ∧ i.size = 1 := by
 have h : (Tryd.prog.info? 4).map (·.size) = some 1 := by kernel_rfl
 obtain ⟨i, hi, hs⟩ := Option.map_eq_some_iff.1 h
 exact ⟨i, hi, hs⟩
theorem ptr39_s (g : Nat) (w : World) : (binOp .eql 39 (.pointer (some ⟨g, 0, none⟩)) (.pointer none)).run Tryd.prog w = .ok (.bool false) w := by kernel_rfl
def FeedEnd (W0 : World) (rb : Nat) (F : Fed) (e : Ending) (w' : World) : Prop :=
 (∃ ov, e = .returned (.tuple #[ov, .int .i64 (if F.dead = true then 4 else 0)]) ∧ OwnL w' W0.heap.size ov F.out) ∧ (∃ kb, (∀ b, kb = some b → W0.heap.size ≤ b ∧ b < w'.heap.size) ∧ FdX w' rb kb F.waits F.dead) ∧ Keeps (· = rb) W0 w'
set_option maxHeartbeats 8000000 in
theorem feed21 {W : World} {rb : Nat} {kb : Option Nat} {ws bs : Bs} {X : Nat → Prop} {B : Option Addr} {m d : Nat} (h : FdX W rb kb ws false) (hb : BytesX W X (.slice B m d) bs) (hw : ws.length ≤ 999000000) (hm : m ≤ 1000000) :
  Calls Tryd.prog 21 #[.pointer (some ⟨rb, 0, none⟩), .slice B m d] W (FeedEnd W rb (feedB ws bs)) := by
 obtain ⟨A, n, c, hblk, hx⟩ := h
 obtain ⟨i38, hi38, hs38⟩ := infoS38
 obtain ⟨i4, hi4, hs4⟩ := infoS4
 have HI := Lib.hid (And.intro (And.intro hi38 hs38) (And.intro hi4 hs4))
 have hnil := ptr39_s rb
 have hmi : (m : Int) ≤ 1000000 := by omega
 have Hn := Lib.hid hx.len.1
 have Hm := Lib.hid hb.len.1
 have Hblk := Lib.hid hblk
 have HX := Lib.hid hx
 have HB := Lib.hid hb
 have Hrb := Lib.hid (blk_lt hblk)
 have Hw := Lib.hid hw
 have Hmm := Lib.hid hm
 have c0 : W.cell? ⟨rb, 0, none⟩ = some (.slice A n c) := (blk_cell hblk 0).trans rfl
 have c1 : W.cell? ⟨rb, 1, none⟩ = some (.bool true) := (blk_cell hblk 1).trans rfl
 have c2 : W.cell? ⟨rb, 2, none⟩ = some (.bool false) := (blk_cell hblk 2).trans rfl
 obtain ⟨R, hR⟩ : ∃ x, feedB ws bs = x := ⟨_, rfl⟩
 have HR := Lib.hid hR
 rw [hR]
 clear hblk hx hb hi38 hs38 hi4 hs4 hw hm hR
 go_enter Tryd.func21, Tryd.ntmps21
 go_wp2_with (first
  | ((with_reducible refine at_dst (N := 36) rfl ?_); go_must (refine ev_slice (cs := #[.slice A n c, .slice B m d]) (t := 38) (n := 2) (c := 2) rfl (by first | (go_simp; done) | (go_simp; rfl)) ?_; intro gt w1 hgt hlt hbt hkt)
     have Hbt := Lib.hid hbt
     have Hk1 := Lib.hid hkt
     clear hbt hkt hgt hlt c0 c1 c2
     (try simp only [PU]))
  | (go_at_call 51; go_must (refine (concat51 Hbt.out (HX.out.keep (X' := fun b => some b = kb) Hk1.out (fun _ _ _ => id) (fun _ _ h => h)) (HB.out.keep (X' := X) Hk1.out (fun _ _ _ => id) (fun _ _ h => h)) (by have := Hn.out; have := Hw.out; omega) (by have := Hmm.out; omega)).mono ?_; rintro e w2 ⟨⟨v2, rfl, ho2⟩, hk2⟩; obtain ⟨cA, cc, hv2⟩ := ho2.slice; subst hv2)
     have Ho2 := Lib.hid (OwnB.weaken ho2 Hk1.out.size)
     have Hk2 := Lib.hid (Hk1.out.trans hk2 (fun _ _ h => h))
     have Hbr := Lib.hid (Hk2.out.blk Hblk.out id)
     clear ho2 hk2
     generalize hL0 : (ws ++ bs).length = L0 at *
     have HL0 := Lib.hid hL0
     clear hL0
     (try simp only [PU]))
  | ((with_reducible refine at_store (t := 38) rfl ?_); go_must (refine ev_store (cs' := #[.slice cA L0 cc, .bool true, .bool false]) rfl rfl rfl rfl rfl rfl HI.out.1.1 HI.out.1.2 rfl Hbr.out (Nat.le_of_ble_eq_true rfl) rfl ?_; intro w3 hb3 hk3)
     have Hbr3 := Lib.hid hb3
     have Ho3 := Lib.hid (Ho2.out.keep hk3 (fun k hk e => by have := (Ho2.out.lt k hk).1; have := Hrb.out; omega))
     have Hk3 := Lib.hid (show Keeps (· = rb) W w3 from Hk2.out.any.trans hk3 (fun _ _ h => h))
     clear hb3 hk3
     (try simp only [PU]))
 )
 obtain ⟨ws0, hws0⟩ : ∃ x, ws ++ bs = x := ⟨_, rfl⟩
 have HR0 := Lib.hid (show feedF (ws0.length + 1) [] ws0 = R by rw [← hws0]; exact HR.out)
 have hl0 : ws0.length ≤ 1000000000 := by rw [← hws0, List.length_append]; have := Hw.out; have := Hm.out; have := Hmm.out; omega
 rw [hws0] at Ho3
 have hL : L0 = ws0.length := by rw [← hws0, HL0.out]
 have Hbr3 := Lib.hid (hL ▸ Hbr3.out : w3.heap[rb]? = some (.cells #[.slice cA ws0.length cc, .bool true, .bool false] 41 (0, 0)))
 have Ho3 := Lib.hid (hL ▸ Ho3.out : OwnB w3 W.heap.size (.slice cA ws0.length cc) ws0)
 clear hL
 obtain ⟨kc, hkc⟩ : ∃ x, (Value.slice cA ws0.length cc).ownBlock = x := ⟨_, rfl⟩
 have HX3 := Lib.hid (show BytesX w3 (fun b => some b = kc) (.slice cA ws0.length cc) ws0 from (hkc ▸ Ho3.out.bytes.keep (X' := fun b => some b = (Value.slice cA ws0.length cc).ownBlock) (Keeps.refl Nob w3) (fun _ _ _ => id) (fun b _ e => e.symm)))
 have Hkc := Lib.hid (show ∀ b, kc = some b → W.heap.size ≤ b ∧ b < w3.heap.size from fun b e => Ho3.out.lt b (hkc.trans e))
 clear hws0 hkc HR
 go_loopg [6] ws0.length (fun K ov wr => ∃ (oA : Option Addr) (oc : Nat) (A' : Option Addr) (c' f : Nat) (out : List Bs) (r : Bs), ov = .slice oA out.length oc ∧ r.length ≤ K ∧ r.length ≤ 1000000000 ∧ out.length + r.length ≤ 1000000000 ∧ Hid (r.length < f) ∧ Hid (OwnL wr W.heap.size (.slice oA out.length oc) out) ∧ Hid (wr.heap[rb]? = some (.cells #[.slice A' r.length c', .bool true, .bool false] 41 (0, 0))) ∧ Hid (BytesX wr (fun b => some b = kc) (.slice A' r.length c') r) ∧ Hid (w3.heap.size ≤ wr.heap.size) ∧ Hid (∀ b, (Value.slice oA out.length oc).ownBlock = some b → kc ≠ some b) ∧ Hid (Keeps (· = rb) W wr) ∧ Hid (feedF f out r = R))
 case atStart => exact ⟨none, 0, cA, cc, ws0.length + 1, [], ws0, rfl, Nat.le_refl _, hl0, by simpa using hl0, Lib.hid (Nat.lt_succ_self _), Lib.hid (OwnL.nil _ _), Hbr3, HX3, Lib.hid (Nat.le_refl _), Lib.hid (fun b e => by cases e), Hk3, HR0⟩
 case round =>
  obtain ⟨oA, oc, A', c', f, out, r, rfl, hlK, hlr, hlo, Hf, HO, Hbr, HX', Hsz, Hap, HK, HE⟩ := hrel
  obtain ⟨f, rfl⟩ : ∃ f', f = f' + 1 := ⟨f - 1, by have := Hf.out; omega⟩
  have hst := feedF_step f out r
  have hhd := head52 HX'.out (by omega)
  have hle := headH_le r
  have hfr := frame_head r
  have HsW := Lib.hid HK.out.size
  rcases hH : headH r with ⟨size, k, whole, may⟩
  rw [hH] at hst hhd hle hfr
  rw [HE.out] at hst
  simp only [frOf] at hst hfr
  simp only at hle
  have H52 := Lib.hid hhd
  have c0 : wr.cell? ⟨rb, 0, none⟩ = some (.slice A' r.length c') := (blk_cell Hbr.out 0).trans rfl
  obtain ⟨e, he⟩ : ∃ e, size + k = e := ⟨_, rfl⟩
  have hcast : (size : Int) + (k : Int) = (e : Int) := by omega
  rw [he] at hst hfr
  have hsz9 : (size : Int) ≤ 2000000000 := by omega
  have hk9 : (k : Int) ≤ 1000000 := by omega
  have Hek := Lib.hid (show size ≤ e ∧ e - size = k by omega)
  clear hhd hle hH HE he
  rcases may with _ | _
  · have HRR := Lib.hid (show R = ⟨out, [], true⟩ from hst)
    obtain ⟨N, hN⟩ : ∃ N, r.length = N := ⟨_, rfl⟩
    have HN := Lib.hid hN
    rw [hN] at c0 Hbr HX' H52
    clear hst hN hfr
    go_wp2_with (first
     | (go_at_call 52; go_must (refine H52.out.mono ?_; rintro e4 w4 ⟨rfl, hk4⟩)
        have HK4 := Lib.hid hk4
        have Hbr4 := Lib.hid (hk4.blk Hbr.out id)
        clear hk4 c0
        have c0 := (blk_cell Hbr4.out 0).trans rfl
        (try simp only [PU]))
     | ((with_reducible refine at_store (t := 4) rfl ?_); go_must (refine ev_store (off := 2) (cs' := #[.slice A' N c', .bool true, .bool true]) rfl rfl rfl rfl rfl rfl HI.out.2.1 HI.out.2.2 rfl Hbr4.out (Nat.le_of_ble_eq_true rfl) rfl ?_; intro w5 hb5 hk5)
        have Hb5 := Lib.hid hb5
        have Hk5 := Lib.hid (HK4.out.any.trans hk5 (fun _ _ h => h))
        clear hb5 hk5
        (try simp only [PU]))
     | ((with_reducible refine at_store (t := 38) rfl ?_); go_must (refine ev_store (cs' := #[.slice none 0 0, .bool true, .bool true]) rfl rfl rfl rfl rfl rfl HI.out.1.1 HI.out.1.2 rfl Hb5.out (Nat.le_of_ble_eq_true rfl) rfl ?_; intro w6 hb6 hk6)
        have Hb6 := Lib.hid hb6
        have Hk6 := Lib.hid (Hk5.out.trans hk6 (fun _ _ h => h))
        clear hb6 hk6
        (try simp only [PU]))
    )
    go_ret2
    rw [HRR.out]
    exact ⟨⟨_, rfl, HO.out.keep Hk6.out (fun b _ e => by rw [e]; exact Hrb.out)⟩, ⟨none, (fun b e => by cases e), none, 0, 0, Hb6.out, BytesX.nil _ _⟩, HK.out.trans Hk6.out (fun _ _ h => h)⟩
  · rcases whole with _ | _
    · have HRR := Lib.hid (show R = ⟨out, r, false⟩ from hst)
      obtain ⟨N, hN⟩ : ∃ N, r.length = N := ⟨_, rfl⟩
      have HN := Lib.hid hN
      (try rw [hN] at hlti)
      rw [hN] at c0 Hbr H52
      clear hst hN hfr
      (try clear hlt)
      go_wp2_with (first
       | (go_at_call 52; go_must (refine H52.out.mono ?_; rintro e4 w4 ⟨rfl, hk4⟩)
          have HK4 := Lib.hid hk4
          have Hbr4 := Lib.hid (hk4.blk Hbr.out id)
          clear hk4 c0
          have c0 := (blk_cell Hbr4.out 0).trans rfl
          (try simp only [PU]))
      )
      go_ret2
      rw [HRR.out]
      exact ⟨⟨_, rfl, HO.out.keep HK4.out (fun b _ h => h.elim)⟩, ⟨kc, (fun b e => ⟨(Hkc.out b e).1, Nat.lt_of_lt_of_le (Hkc.out b e).2 (Nat.le_trans Hsz.out HK4.out.size)⟩), A', N, c', Hbr4.out, by rw [← HN.out]; exact HX'.out.keep HK4.out (fun _ _ _ => id) (fun _ _ h => h)⟩, HK.out.trans HK4.out (fun _ _ h => h.elim)⟩
    · by_cases hlt : r.length < e
      · have HRR := Lib.hid (show R = ⟨out, r, false⟩ by simpa [hlt] using hst)
        have hlti : (r.length : Int) < (e : Int) := by omega
        obtain ⟨N, hN⟩ : ∃ N, r.length = N := ⟨_, rfl⟩
        have HN := Lib.hid hN
        (try rw [hN] at hlti)
        rw [hN] at c0 Hbr H52
        clear hst hN hfr
        (try clear hlt)
        go_wp2_with (first
         | (go_at_call 52; go_must (refine H52.out.mono ?_; rintro e4 w4 ⟨rfl, hk4⟩)
            have HK4 := Lib.hid hk4
            have Hbr4 := Lib.hid (hk4.blk Hbr.out id)
            clear hk4 c0
            have c0 := (blk_cell Hbr4.out 0).trans rfl
            (try simp only [PU]))
        )
        go_ret2
        rw [HRR.out]
        exact ⟨⟨_, rfl, HO.out.keep HK4.out (fun b _ h => h.elim)⟩, ⟨kc, (fun b e => ⟨(Hkc.out b e).1, Nat.lt_of_lt_of_le (Hkc.out b e).2 (Nat.le_trans Hsz.out HK4.out.size)⟩), A', N, c', Hbr4.out, by rw [← HN.out]; exact HX'.out.keep HK4.out (fun _ _ _ => id) (fun _ _ h => h)⟩, HK.out.trans HK4.out (fun _ _ h => h.elim)⟩
      · have HRR := Lib.hid (show R = feedF f (out ++ [(r.drop size).take k]) (r.drop e) by simpa [hlt] using hst)
        have Hfr := Lib.hid (show frameB r = .whole ((r.drop size).take k) (r.drop e) by simpa [hlt] using hfr)
        have hlti : ¬ (r.length : Int) < (e : Int) := by omega
        have Hdl := Lib.hid (show (r.drop e).length + 1 ≤ r.length by have := headF_len (show headF beginB r = .whole _ _ from Hfr.out); omega)
        have Hle := Lib.hid (show e ≤ r.length ∧ r.length ≤ c' by have := HX'.out.len; omega)
        have hsub := HX'.out.sub (l := size) (h := e) (by have := Hek.out; omega) (by have := Hle.out; omega)
        rw [Hek.out.2] at hsub
        have hsub2 := HX'.out.sub (l := e) (h := r.length) (by have := Hle.out; omega) (Nat.le_refl _)
        rw [List.take_of_length_le (by rw [List.length_drop]; exact Nat.le_refl _)] at hsub2
        have Hsub := Lib.hid hsub
        have Hsub2 := Lib.hid hsub2
        obtain ⟨N, hN⟩ : ∃ N, r.length = N := ⟨_, rfl⟩
        have HN := Lib.hid hN
        obtain ⟨on, hon⟩ : ∃ N, out.length = N := ⟨_, rfl⟩
        have Hon := Lib.hid hon
        rw [hN] at c0 Hbr H52 hlti Hle Hsub2
        rw [hon] at HO Hap ⊢
        rw [hN, hon] at hlo
        have hoi : (on : Int) ≤ 1000000000 := by omega
        clear hst hN hon hfr hsub hsub2 hlt
        go_wp2_with (first
         | (go_at_call 52; go_must (refine H52.out.mono ?_; rintro e4 w4 ⟨rfl, hk4⟩)
            have HK4 := Lib.hid hk4
            have Hbr4 := Lib.hid (hk4.blk Hbr.out id)
            clear hk4 c0
            have c0 := (blk_cell Hbr4.out 0).trans rfl
            (try simp only [PU]))
         | ((with_reducible refine at_dst (N := 84) rfl ?_); go_must (refine ev_sub (l := size) (h := e) rfl rfl byteT38 rfl rfl rfl Hek.out.1 (by have := Hle.out; omega) ?_; rw [Hek.out.2]); (try simp only [PU]))
         | (go_at_call 53; go_must (refine (clone53 (Hsub.out.keep (X' := fun b => some b = kc) HK4.out (fun _ _ _ => id) (fun _ _ h => h)) (by omega)).mono ?_; rintro e5 w5 ⟨⟨v5, rfl, ho5⟩, hk5⟩; obtain ⟨xA, xc, hv5⟩ := ho5.slice; subst hv5)
            have Ho5 := Lib.hid ho5
            have HK5 := Lib.hid (HK4.out.trans hk5 (fun _ _ h => h))
            have Hs4 := Lib.hid HK4.out.size
            clear ho5 hk5 c0
            (try simp only [PU]))
         | ((with_reducible refine at_dst (N := 86) rfl ?_); go_must (refine ev_slice (cs := #[.slice xA ((r.drop size).take k).length xc]) (t := 38) (n := 1) (c := 1) rfl (by first | (go_simp; done) | (go_simp; rfl)) ?_; intro gx w6 hgx hlx hbx hkx)
            have Hbx := Lib.hid hbx
            have Ho6 := Lib.hid (Ho5.out.keep hkx (fun _ _ => id))
            have HK6 := Lib.hid (HK5.out.trans hkx (fun _ _ h => h))
            clear hbx hkx hgx hlx
            (try simp only [PU]))
         | ((with_reducible refine at_dst (N := 87) rfl ?_)
            obtain ⟨xs, hrow, hp⟩ := HO.out.keep HK6.out (fun b _ h => h.elim)
            have Hp := Lib.hid hp
            have Hrow := Lib.hid hrow
            rw [Hon.out] at hrow
            have Hrn := Lib.hid hrow
            clear hp hrow
            go_must (refine ev_append rfl rfl Tryd.underlying43 info38b rfl (by decide) (base := W.heap.size) rfl Hrn.out rfl (news := [.slice xA ((r.drop size).take k).length xc]) rfl (fun _ => ⟨_, rfl, World.news_of_block Hbx.out⟩) (by simp [Value.oneCell']) (by omega) (by decide) (Nat.le_trans HsW.out HK6.out.size) ?_; intro v7 w7 hown7 hk7 hr7 hf7; obtain ⟨gr, cap, rfl⟩ := hf7 (by decide))
            have Hrow7 := Lib.hid (show (Value.slice (some ⟨gr, 0, none⟩) (on + 1) cap).ownBlock = (Value.slice oA on oc).ownBlock ∨ ∃ b, (Value.slice (some ⟨gr, 0, none⟩) (on + 1) cap).ownBlock = some b ∧ w6.heap.size ≤ b from hr7)
            have Hpush := Lib.hid (OwnL.push Hrow.out Hp.out (Ho6.out.bytes.keep (X' := fun b => W.heap.size ≤ b ∧ b < w6.heap.size ∧ some b ≠ (Value.slice oA on oc).ownBlock) (Keeps.refl Nob w6) (fun _ _ _ => id) (fun b _ hb => by
              have h1 := Ho6.out.lt b hb
              have h2 := HsW.out
              have h3 := Hs4.out
              exact ⟨by omega, h1.2, fun e => by have := (HO.out.lt b e.symm).2; omega⟩)) (by rw [Hon.out]; exact hown7) hk7 hr7)
            have Hk7 := Lib.hid hk7
            have Hbr7 := Lib.hid (hk7.blk (HK6.out.blk Hbr.out id) (fun e => by have := (HO.out.lt rb e.symm).1; have := Hrb.out; omega))
            have c07 : w7.cell? ⟨rb, 0, none⟩ = some (.slice A' N c') := (blk_cell Hbr7.out 0).trans rfl
            have Hs67 := Lib.hid (hk7.size)
            have Hw7 := Lib.hid (show Keeps (fun j => some j = (Value.slice oA on oc).ownBlock) wr w7 from HK6.out.any.trans hk7 (fun _ _ h => h))
            clear hown7 hk7 hr7 hf7
            (try simp only [PU]))
         | ((with_reducible refine at_dst (N := 96) rfl ?_); go_must (refine ev_sub_l (l := e) rfl rfl byteT38 rfl rfl Hle.out.1 ?_); (try simp only [PU]))
         | ((with_reducible refine at_store (t := 38) rfl ?_); go_must (refine ev_store (cs' := #[.slice (subA A' e c') (N - e) (c' - e), .bool true, .bool false]) rfl rfl rfl rfl rfl rfl HI.out.1.1 HI.out.1.2 rfl Hbr7.out (Nat.le_of_ble_eq_true rfl) rfl ?_; intro w8 hb8 hk8)
            have Hb8 := Lib.hid hb8
            have Hpush8 := Lib.hid (Hpush.out.keep hk8 (fun b _ e => by rw [e]; exact Hrb.out))
            have Hk8 := Lib.hid hk8
            clear hb8 hk8 c07
            (try simp only [PU]))
        )
        have hdl : (r.drop e).length = N - e := by rw [List.length_drop, HN.out]
        have hol : (out ++ [(r.drop size).take k]).length = on + 1 := by rw [List.length_append, Hon.out]; rfl
        go_roundg (r.drop e).length
        case measure => have := Hdl.out; omega
        case rel => exact ⟨some ⟨gr, 0, none⟩, cap, subA A' e c', c' - e, f, out ++ [(r.drop size).take k], r.drop e, by rw [hol], Nat.le_refl _, by have := Hdl.out; omega, by rw [hol]; have := Hdl.out; have := HN.out; omega, Lib.hid (by have := Hdl.out; have := Hf.out; omega), Lib.hid (by rw [hol]; exact Hpush8.out), Lib.hid (by rw [hdl]; exact Hb8.out), Lib.hid (by rw [hdl]; exact (Hsub2.out.keep (X' := fun b => some b = kc) Hw7.out (fun b _ hb e => Hap.out b e.symm hb.symm) (fun _ _ h => h)).keep Hk8.out (fun b _ hb e => by have := (Hkc.out b hb.symm).1; have := Hrb.out; omega) (fun _ _ h => h)), Lib.hid (Nat.le_trans Hsz.out (Nat.le_trans Hw7.out.size Hk8.out.size)), Lib.hid (fun b e => by
          rcases Hrow7.out with h | ⟨b', h, hb'⟩
          · exact Hap.out b (by rw [← h, ← e, hol])
          · intro e2
            have e3 : (Value.slice (some ⟨gr, 0, none⟩) (on + 1) cap).ownBlock = some b := by rw [← e, hol]
            rw [h] at e3
            injection e3 with e3
            have := (Hkc.out b e2).2
            have := Hsz.out
            have := HK6.out.size
            omega), Lib.hid ((HK.out.trans Hw7.out (fun i hi e => by have := (HO.out.lt i e.symm).1; omega)).trans Hk8.out (fun _ _ h => h)), Lib.hid HRR.out.symm⟩
end Go.Proofs.WV

namespace Go.Proofs.WV
open Go.RowKit Go.Proofs.KL Go.Proofs.WM
set_option maxRecDepth 100000
set_option linter.unusedSimpArgs false
set_option linter.unusedVariables false

theorem left_at {rb : Nat} {W : World} {A : Option Addr} {n c : Nat} {x y : Value} (h : W.heap[rb]? = some (.cells #[.slice A n c, x, y] 41 (0, 0))) : Calls Tryd.prog 22 #[.pointer (some ⟨rb, 0, none⟩)] W fun e w' => e = .returned (.int .i64 n) ∧ w' = W := by
 have hnil := ptr39_s rb
 have c0 : W.cell? ⟨rb, 0, none⟩ = some (.slice A n c) := (blk_cell h 0).trans rfl
 clear h
 go_enter Tryd.func22, Tryd.ntmps22
 go_wp2
 go_ret
 exact ⟨rfl, rfl⟩
theorem left_fd {rb : Nat} {kb : Option Nat} {ws : Bs} {dead : Bool} {W : World} (h : FdX W rb kb ws dead) : Calls Tryd.prog 22 #[.pointer (some ⟨rb, 0, none⟩)] W fun e w' => e = .returned (.int .i64 ws.length) ∧ w' = W := by
 obtain ⟨A, n, c, hb, hx⟩ := h
 rw [← hx.len.1]
 exact left_at hb
theorem new27 (W : World) : Calls Tryd.prog 27 #[] W fun e w' => ∃ rb, e = .returned (.pointer (some ⟨rb, 0, none⟩)) ∧ W.heap.size ≤ rb ∧ rb < w'.heap.size ∧ FdX w' rb none [] false ∧ Keeps Nob W w' := by
 go_enter Tryd.func27, Tryd.ntmps27
 go_wp2_with (first
  | ((with_reducible refine at_dst (N := 2) rfl ?_); go_must (refine ev_box (cs := #[.slice none 0 0, .bool true, .bool false]) rfl rfl rfl ?_; intro g w1 hg hl hb hk)
     have Hb := Lib.hid hb
     have Hk := Lib.hid hk
     clear hb hk
     (try simp only [PU]))
 )
 go_ret
 exact ⟨g, rfl, hg, hl, ⟨none, 0, 0, Hb.out, BytesX.nil _ _⟩, Hk.out⟩
end Go.Proofs.WV

namespace Go.Proofs.WV
open Go.Proofs.WM
set_option linter.unusedVariables false

def exList : J := .mk 5 false 0 ⟨#[]⟩ [] [.mk 2 true 0 ⟨#[]⟩ [] [], .mk 1 false 0 ⟨#[]⟩ [] []]
def exV : J := .mk 6 false 0 ⟨#[]⟩ [⟨#[97]⟩, ⟨#[98]⟩] [.mk 3 false 1 ⟨#[]⟩ [] [], exList]
def exText : Bs := [123, 34, 97, 34, 58, 49, 44, 34, 98, 34, 58, 91, 116, 114, 117, 101, 44, 110, 117, 108, 108, 93, 125]
theorem itoa1 : Lib.itoa 1 = [49] := by
 unfold Lib.itoa
 rw [if_neg (by decide)]
 rw [show (1 : Int).toNat = 1 from rfl]
 rw [Lib.decDigits]
 rfl
theorem exText_is : textJ exV = exText := by
 have e1 : List.flatMap esc (bl ⟨#[97]⟩) = [97] := by rfl
 have e2 : List.flatMap esc (bl ⟨#[98]⟩) = [98] := by rfl
 simp [exV, exList, textJ, textL, itoa1, joinC, quoteB, exText, e1, e2]
theorem exWrite : writeJ exV = (exText, 0) := by
 unfold writeJ
 rw [exText_is]
 have h1 : formedJ exV = true := by decide
 have h2 : levelsJ exV = 3 := by decide
 rw [h1, h2]
 rfl
theorem exBad : readW ⟨#[123, 34, 97, 34, 58, 49, 44, 34, 97, 34, 58, 50, 125]⟩ = (zJ, 9, 4) := by kernel_rfl
theorem exRead : readW ⟨#[32, 123, 34, 97, 34, 32, 58, 32, 49, 44, 32, 34, 98, 34, 58, 32, 91, 116, 114, 117, 101, 44, 110, 117, 108, 108, 93, 125]⟩ = (exV, 0, 0) := by
 have h : readJ (bl ⟨#[32, 123, 34, 97, 34, 32, 58, 32, 49, 44, 32, 34, 98, 34, 58, 32, 91, 116, 114, 117, 101, 44, 110, 117, 108, 108, 93, 125]⟩) = .ok exV := by kernel_rfl
 unfold readW
 rw [if_neg (by decide), h]
 have hc : checkJ exV = 0 := by rw [← writeJ_check, exWrite]
 simp only [hc, if_true]
theorem exFeed : feedB [] [76, 101, 110, 103, 116, 104, 58, 32, 50, 13, 10, 13, 10, 97, 98, 76, 101, 110] = ⟨[[97, 98]], [76, 101, 110], false⟩ := by rfl
end Go.Proofs.WV
