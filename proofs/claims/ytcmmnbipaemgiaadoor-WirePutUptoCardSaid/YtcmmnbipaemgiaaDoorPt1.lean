/-
  The place of a key (slices.Index), copies of rows (slices.Clone), in memory. Condition: at most a million places.
-/
import Derived.Test.YtcmmnbipaemgiaaDoorAl0
import Derived.Deep.DeepCutAuto
namespace Go.Proofs.WV
open Go.RowKit Go.Proofs.KL Go.Proofs.WM
set_option maxRecDepth 100000
set_option linter.unusedSimpArgs false
set_option linter.unusedVariables false

/-- The place of a key. -/
def idxK (key : ByteArray) : List ByteArray → Option Nat
  | [] => none
  | k :: ks => if key = k then some 0 else (idxK key ks).map (· + 1)
def idxI : Option Nat → Int
  | none => -1
  | some i => i
theorem idxK_step {key : ByteArray} {ks : List ByteArray} {i : Nat} (hi : i < ks.length) : (idxK key (ks.drop i)).map (· + i) = if key = ks.getD i ByteArray.empty then some i else (idxK key (ks.drop (i + 1))).map (· + (i + 1)) := by
  rw [List.drop_eq_getElem_cons hi, List.getD_eq_getElem?_getD, List.getElem?_eq_getElem hi]
  simp only [Option.getD_some]
  conv => lhs; unfold idxK
  split
  · simp
  · rw [Option.map_map]
    congr 1
    funext x
    show x + 1 + i = x + (i + 1)
    omega
theorem idxK_some {key : ByteArray} : ∀ {ks : List ByteArray} {i : Nat}, idxK key ks = some i → i < ks.length ∧ ks.getD i ByteArray.empty = key
  | [], i, h => by cases h
  | k :: ks, i, h => by
    unfold idxK at h
    split at h
    · rename_i e
      injection h with h
      subst h
      exact ⟨by simp, by simp [e]⟩
    · obtain ⟨j, hj, rfl⟩ := Option.map_eq_some_iff.1 h
      obtain ⟨h1, h2⟩ := idxK_some hj
      exact ⟨by simpa using h1, by simpa using h2⟩
theorem idxK_none {key : ByteArray} : ∀ {ks : List ByteArray}, idxK key ks = none ↔ key ∉ ks
  | [] => by simp [idxK]
  | k :: ks => by
    unfold idxK
    split
    · rename_i e; simp [e]
    · rename_i e
      rw [Option.map_eq_none_iff, idxK_none, List.mem_cons, not_or]
      exact ⟨fun h => ⟨e, h⟩, fun h => h.2⟩
set_option maxHeartbeats 2000000 in
theorem index58 {W : World} {X : Nat → Prop} {A : Option Addr} {n c : Nat} {ks : List ByteArray} {key : ByteArray} (hs : StrsX W X (.slice A n c) ks) (hl : n ≤ 1000000000) :
    Calls Tryd.prog 58 #[.slice A n c, .string key] W fun e w' => e = .returned (.int .i64 (idxI (idxK key ks))) ∧ w' = W := by
  obtain ⟨A', c', e, hc, hx⟩ := hs
  injection e with e1 e2 e3
  subst e1; subst e3
  have HX := Lib.hid hx
  have HN := Lib.hid e2
  have hni : (n : Int) ≤ 1000000000 := by omega
  obtain ⟨R, hR⟩ : ∃ R, idxK key ks = R := ⟨_, rfl⟩
  rw [hR]
  have HR := Lib.hid (show (idxK key (ks.drop 0)).map (· + 0) = R by rw [← hR, List.drop_zero]; cases idxK key ks <;> rfl)
  clear hx e2 hR hc
  go_enter Tryd.func58, Tryd.ntmps58
  go_wp2
  go_loopg [8] n (fun K iv wr => ∃ i : Nat, iv = .int .i64 i ∧ i + K = n ∧ Hid ((idxK key (ks.drop i)).map (· + i) = R) ∧ Hid (W = wr))
  case atStart => exact ⟨0, rfl, by omega, HR, Lib.hid rfl⟩
  case round =>
    obtain ⟨i, rfl, hiK, HE, Hw⟩ := hrel
    have hw : W = wr := Hw.out
    subst hw
    by_cases hlt : i < n
    · obtain ⟨b, o, rfl, -, hcell⟩ := HX.out i (by rw [← HN.out]; exact hlt)
      have hE := HE.out
      rw [idxK_step (by rw [← HN.out]; exact hlt)] at hE
      obtain ⟨k, hk⟩ : ∃ k, ks.getD i ByteArray.empty = k := ⟨_, rfl⟩
      rw [hk] at hcell hE
      by_cases hkk : key = k
      · have HF := Lib.hid (show some i = R by rw [← hE, if_pos hkk])
        subst hkk
        clear hE hk HE
        go_wp2
        go_ret
        rw [← HF.out]
        exact ⟨rfl, rfl⟩
      · have HF := Lib.hid (show (idxK key (ks.drop (i + 1))).map (· + (i + 1)) = R by rw [← hE, if_neg hkk])
        have hkb : (key.toList == k.toList) = false := by simpa using str_ne hkk
        clear hE hk HE
        go_wp2
        go_roundg (n - i - 1)
        case measure => omega
        case rel => exact ⟨i + 1, by rfl, by omega, HF, by first | exact Lib.hid rfl | exact Lib.hid trivial⟩
    · have HF := Lib.hid (show none = R by rw [← HE.out, List.drop_of_length_le (by rw [← HN.out]; omega)]; rfl)
      clear HE
      go_wp2
      go_ret
      rw [← HF.out]
      exact ⟨rfl, rfl⟩
theorem sl22_nil (n c : Nat) (w : World) : (binOp .eql 22 (.slice none n c) (.slice none 0 0)).run Tryd.prog w = .ok (.bool true) w := by kernel_rfl
theorem sl22_some (b o : Nat) (sp : Option Nat) (n c : Nat) (w : World) : (binOp .eql 22 (.slice (some ⟨b, o, sp⟩) n c) (.slice none 0 0)).run Tryd.prog w = .ok (.bool false) w := by kernel_rfl
theorem sl23_nil (n c : Nat) (w : World) : (binOp .eql 23 (.slice none n c) (.slice none 0 0)).run Tryd.prog w = .ok (.bool true) w := by kernel_rfl
theorem sl23_some (b o : Nat) (sp : Option Nat) (n c : Nat) (w : World) : (binOp .eql 23 (.slice (some ⟨b, o, sp⟩) n c) (.slice none 0 0)).run Tryd.prog w = .ok (.bool false) w := by kernel_rfl
/-- What a row of texts holds, as the appended cells. -/
theorem strs_news {W : World} {X : Nat → Prop} {A : Option Addr} {n c : Nat} {ks : List ByteArray} (h : StrsX W X (.slice A n c) ks) : 0 < n → ∃ ad, A = some ad ∧ ∀ j u, (ks.map Value.string)[j]? = some u → W.cell? (ad.add j) = some u := fun hn => by
  obtain ⟨A', c', e, hc, hx⟩ := h
  injection e with e1 e2 e3
  subst e1
  obtain ⟨b, o, e4, -, -⟩ := hx 0 (by omega)
  refine ⟨⟨b, o, none⟩, e4, fun j u hj => ?_⟩
  rw [List.getElem?_map] at hj
  obtain ⟨k, hk, rfl⟩ := Option.map_eq_some_iff.1 hj
  obtain ⟨hjl, hk2⟩ := List.getElem?_eq_some_iff.1 hk
  obtain ⟨b', o', e5, -, hcell⟩ := hx j hjl
  rw [e4] at e5
  injection e5 with e5
  injection e5 with e6 e7
  subst e6; subst e7
  rw [show (⟨b, o, none⟩ : Addr).add j = ⟨b, o + j, none⟩ by unfold Addr.add; split <;> simp_all]
  rw [hcell, List.getD_eq_getElem?_getD, hk]
  rfl
theorem strs_len {W : World} {X : Nat → Prop} {A : Option Addr} {n c : Nat} {ks : List ByteArray} (h : StrsX W X (.slice A n c) ks) : n = ks.length := by
  obtain ⟨A', c', e, -⟩ := h
  injection e
theorem strs_none {W : World} {X : Nat → Prop} {n c : Nat} {ks : List ByteArray} (h : StrsX W X (.slice none n c) ks) : ks = [] := by
  rcases ks with _ | ⟨k, ks⟩
  · rfl
  · obtain ⟨A', c', e, hc, hx⟩ := h
    injection e with e1 e2 e3
    subst e1
    obtain ⟨b, o, e4, -⟩ := hx 0 (by simp)
    cases e4
set_option maxHeartbeats 2000000 in
theorem clone91 {W : World} {X : Nat → Prop} {A : Option Addr} {n c : Nat} {ks : List ByteArray} (hs : StrsX W X (.slice A n c) ks) (hl : n ≤ 1000000000) :
    Calls Tryd.prog 91 #[.slice A n c] W fun e w' => (∃ v, e = .returned v ∧ OwnS w' W.heap.size v ks) ∧ Keeps Nob W w' := by
  have HN := Lib.hid (strs_len hs)
  have HB := Lib.hid hs
  cases A with
  | none =>
    have Hs := Lib.hid (strs_none hs)
    have hnil := sl22_nil n c
    clear hs
    go_enter Tryd.func91, Tryd.ntmps91
    go_wp2
    go_ret
    refine ⟨⟨_, rfl, ?_⟩, Keeps.refl _ _⟩
    rw [Hs.out]
    exact OwnS.nil _ _
  | some ad =>
    obtain ⟨b, o, sp⟩ := ad
    have hnil := sl22_some b o sp n c
    clear hs
    go_enter Tryd.func91, Tryd.ntmps91
    go_wp2_with (first
      | ((with_reducible refine at_dst (N := 5) rfl ?_); go_must (refine ev_slice (cs := #[]) (t := 9) (n := 0) (c := 0) rfl (by first | (go_simp; done) | (go_simp; rfl)) ?_; intro g w1 hg hlg hbg hkg)
         have Hbg := Lib.hid hbg
         have Hkg := Lib.hid hkg
         have Hg := Lib.hid hg
         clear hbg hkg hg hlg
         (try simp only [PU]))
      | ((with_reducible refine at_dst (N := 7) rfl ?_)
         go_must (refine ev_append rfl rfl Tryd.underlying22 info9b rfl (by decide) (base := W.heap.size) (v := .slice (some ⟨g, 0, none⟩) 0 0) (n := 0) (xs := []) rfl ⟨rfl, .inr ⟨g, 0, #[], rfl, Hg.out, Hbg.out, Nat.zero_le _, by decide, rfl, rfl⟩⟩ rfl (news := ks.map Value.string) (by rw [List.length_map, Nat.mul_one]; exact HN.out.symm) (strs_news (HB.out.keep (X' := X) Hkg.out (fun _ _ _ => id) (fun _ _ h => h))) (fun u hu => by obtain ⟨k, -, rfl⟩ := List.mem_map.1 hu; rfl) (by omega) (by decide) Hkg.out.size ?_; intro v' w2 ho2 hk2 hr2 hf2)
         have Ho2 := Lib.hid (show OwnS w2 W.heap.size v' ks from (show w2.ownsRow W.heap.size 9 1 v' ks.length (ks.map Value.string) by have h := ho2; rw [Nat.zero_add, HN.out] at h; exact h))
         have Ha2 := Lib.hid (show Keeps Nob W w2 from Hkg.out.trans hk2 (fun i hi e => by have := Hg.out; have e' : i = g := Option.some.inj e; omega))
         clear ho2 hk2 hr2 hf2
         (try simp only [PU]))
    )
    go_ret
    exact ⟨⟨_, rfl, Ho2.out⟩, Ha2.out⟩
/-- The cells of so many values. -/
def flat6 (u : Nat → Nat → Value) : Nat → List Value
  | 0 => []
  | n + 1 => flat6 u n ++ [u n 0, u n 1, u n 2, u n 3, u n 4, u n 5]
theorem flat6_len (u : Nat → Nat → Value) : ∀ n, (flat6 u n).length = n * 6
  | 0 => rfl
  | n + 1 => by unfold flat6; rw [List.length_append, flat6_len u n]; simp only [List.length_cons, List.length_nil]; omega
theorem flat6_six (u : Nat → Nat → Value) : ∀ {n i : Nat}, i < n → sixAt (flat6 u n) i = .agg #[u i 0, u i 1, u i 2, u i 3, u i 4, u i 5]
  | n + 1, i, h => by
    unfold flat6
    by_cases e : i < n
    · rw [sixAt_append (flat6_len u n) e]; exact flat6_six u e
    · obtain rfl : i = n := by omega
      exact sixAt_last (flat6_len u i)
theorem flat6_get (u : Nat → Nat → Value) : ∀ {n j : Nat} {v : Value}, (flat6 u n)[j]? = some v → ∃ i k, i < n ∧ k < 6 ∧ j = i * 6 + k ∧ v = u i k
  | 0, j, v, h => by simp [flat6] at h
  | n + 1, j, v, h => by
    unfold flat6 at h
    by_cases hj : j < n * 6
    · rw [List.getElem?_append_left (by rw [flat6_len]; exact hj)] at h
      obtain ⟨i, k, hi, hk, e, hv⟩ := flat6_get u h
      exact ⟨i, k, by omega, hk, e, hv⟩
    · rw [List.getElem?_append_right (by rw [flat6_len]; omega), flat6_len] at h
      refine ⟨n, j - n * 6, by omega, ?_, by omega, ?_⟩
      · have := (List.getElem?_eq_some_iff.1 h).1
        simpa using this
      · match j - n * 6, h with
        | 0, h => simpa using h.symm
        | 1, h => simpa using h.symm
        | 2, h => simpa using h.symm
        | 3, h => simpa using h.symm
        | 4, h => simpa using h.symm
        | 5, h => simpa using h.symm
        | k + 6, h => simp at h
theorem six_get {w : World} {b o : Nat} {u : Nat → Value} (h : Six w b o (u 0) (u 1) (u 2) (u 3) (u 4) (u 5)) {k : Nat} (hk : k < 6) : w.cell? ⟨b, o + k, none⟩ = some (u k) := by
  obtain ⟨⟨h0, h1, h2⟩, h3, h4, h5⟩ := h
  match k, hk with
  | 0, _ => exact h0
  | 1, _ => exact h1
  | 2, _ => exact h2
  | 3, _ => exact h3
  | 4, _ => exact h4
  | 5, _ => exact h5
theorem flat6_news {W : World} {X : Nat → Prop} {A : Option Addr} {n : Nat} {u : Nat → Nat → Value} (hA : ∀ i, i < n → ∃ b o, A = some ⟨b, o, none⟩ ∧ X b ∧ Six W b (o + i * 6) (u i 0) (u i 1) (u i 2) (u i 3) (u i 4) (u i 5)) : 0 < n → ∃ ad, A = some ad ∧ ∀ j x, (flat6 u n)[j]? = some x → W.cell? (ad.add j) = some x := fun hn => by
  obtain ⟨b, o, e4, -, -⟩ := hA 0 hn
  refine ⟨⟨b, o, none⟩, e4, fun j x hj => ?_⟩
  obtain ⟨i, k, hi, hk, rfl, rfl⟩ := flat6_get u hj
  obtain ⟨b', o', e5, -, h6⟩ := hA i hi
  rw [e4] at e5
  injection e5 with e5
  injection e5 with e6 e7
  subst e6; subst e7
  rw [show (⟨b, o, none⟩ : Addr).add (i * 6 + k) = ⟨b, o + i * 6 + k, none⟩ by unfold Addr.add; split <;> simp_all <;> omega]
  exact six_get (u := u i) h6 hk
theorem flat6_one {W : World} {X : Nat → Prop} {n : Nat} {u : Nat → Nat → Value} {vs : List J} (hv : ∀ i, i < n → JX W X (.agg #[u i 0, u i 1, u i 2, u i 3, u i 4, u i 5]) (vs.getD i default)) : ∀ x ∈ flat6 u n, x.oneCell' = true := fun x hx => by
  obtain ⟨j, hj⟩ := List.mem_iff_getElem?.1 hx
  obtain ⟨i, k, hi, hk, -, rfl⟩ := flat6_get u hj
  obtain ⟨k', b', n', t', A', nk, c', B', nv, d', ⟨h0, h1, h2⟩, h3, h4, h5⟩ := (hv i hi).six
  match k, hk with
  | 0, _ => rw [h0]; rfl
  | 1, _ => rw [h1]; rfl
  | 2, _ => rw [h2]; rfl
  | 3, _ => rw [h3]; rfl
  | 4, _ => rw [h4]; rfl
  | 5, _ => rw [h5]; rfl
set_option maxHeartbeats 2000000 in
theorem clone92 {W : World} {X : Nat → Prop} {A : Option Addr} {n c : Nat} {u : Nat → Nat → Value} {vs : List J} (hA : ∀ i, i < n → ∃ b o, A = some ⟨b, o, none⟩ ∧ X b ∧ Six W b (o + i * 6) (u i 0) (u i 1) (u i 2) (u i 3) (u i 4) (u i 5))
    (hv : ∀ i, i < n → JX W X (.agg #[u i 0, u i 1, u i 2, u i 3, u i 4, u i 5]) (vs.getD i default)) (hl : n ≤ 1000000000) :
    Calls Tryd.prog 92 #[.slice A n c] W fun e w' => (∃ v, e = .returned v ∧ w'.ownsRow W.heap.size 25 6 v n (flat6 u n)) ∧ Keeps Nob W w' := by
  have HA := Lib.hid hA
  have HV := Lib.hid hv
  cases A with
  | none =>
    have Hs := Lib.hid (show n = 0 by
      rcases Nat.eq_zero_or_pos n with h | h
      · exact h
      · obtain ⟨b, o, e, -⟩ := hA 0 h; cases e)
    have hnil := sl23_nil n c
    clear hA hv
    go_enter Tryd.func92, Tryd.ntmps92
    go_wp2
    go_ret
    refine ⟨⟨_, rfl, ?_⟩, Keeps.refl _ _⟩
    rw [Hs.out]
    exact ⟨rfl, .inl ⟨rfl, rfl⟩⟩
  | some ad =>
    obtain ⟨b, o, sp⟩ := ad
    have hnil := sl23_some b o sp n c
    clear hA hv
    go_enter Tryd.func92, Tryd.ntmps92
    go_wp2_with (first
      | ((with_reducible refine at_dst (N := 5) rfl ?_); go_must (refine ev_slice (cs := #[]) (t := 25) (n := 0) (c := 0) rfl (by first | (go_simp; done) | (go_simp; rfl)) ?_; intro g w1 hg hlg hbg hkg)
         have Hbg := Lib.hid hbg
         have Hkg := Lib.hid hkg
         have Hg := Lib.hid hg
         clear hbg hkg hg hlg
         (try simp only [PU]))
      | ((with_reducible refine at_dst (N := 7) rfl ?_)
         go_must (refine ev_append rfl rfl Tryd.underlying23 info25b rfl (by decide) (base := W.heap.size) (v := .slice (some ⟨g, 0, none⟩) 0 0) (n := 0) (xs := []) rfl ⟨rfl, .inr ⟨g, 0, #[], rfl, Hg.out, Hbg.out, Nat.zero_le _, by decide, rfl, rfl⟩⟩ rfl (news := flat6 u n) (flat6_len u n) (flat6_news (X := X) (fun i hi => by obtain ⟨b, o, e, hb, h6⟩ := HA.out i hi; exact ⟨b, o, e, hb, h6.keep Hkg.out id⟩)) (flat6_one HV.out) (by omega) (by decide) Hkg.out.size ?_; intro v' w2 ho2 hk2 hr2 hf2)
         have Ho2 := Lib.hid (show w2.ownsRow W.heap.size 25 6 v' n (flat6 u n) by have h := ho2; rw [Nat.zero_add] at h; exact h)
         have Ha2 := Lib.hid (show Keeps Nob W w2 from Hkg.out.trans hk2 (fun i hi e => by have := Hg.out; have e' : i = g := Option.some.inj e; omega))
         clear ho2 hk2 hr2 hf2
         (try simp only [PU]))
    )
    go_ret
    exact ⟨⟨_, rfl, Ho2.out⟩, Ha2.out⟩
end Go.Proofs.WV

/-
  A value's own copy (own), in memory. Condition: it is not larger than a thousand million.
-/
namespace Go.Proofs.WV
open Go.RowKit Go.Proofs.KL Go.Proofs.WM
set_option maxRecDepth 100000
set_option linter.unusedSimpArgs false
set_option linter.unusedVariables false

/-- A row's cells, six of them others. -/
def setSix (xs : List Value) (i : Nat) (l : List Value) : List Value := xs.take (i * 6) ++ l ++ xs.drop (i * 6 + 6)
theorem setSix_len {xs l : List Value} {i n : Nat} (hx : xs.length = n * 6) (hi : i < n) (hl : l.length = 6) : (setSix xs i l).length = n * 6 := by
  unfold setSix
  simp only [List.length_append, List.length_take, List.length_drop, hl]
  omega
theorem setSix_get {xs l : List Value} {i n : Nat} (hx : xs.length = n * 6) (hi : i < n) (hl : l.length = 6) (k : Nat) : (setSix xs i l).getD k vz = if i * 6 ≤ k ∧ k < i * 6 + 6 then l.getD (k - i * 6) vz else xs.getD k vz := by
  unfold setSix
  have h1 : (xs.take (i * 6)).length = i * 6 := by rw [List.length_take]; omega
  rw [List.getD_eq_getElem?_getD, List.append_assoc]
  by_cases a : k < i * 6
  · rw [List.getElem?_append_left (by omega), List.getElem?_take, if_pos a, if_neg (by omega), ← List.getD_eq_getElem?_getD]
  · rw [List.getElem?_append_right (by omega), h1]
    by_cases b : k < i * 6 + 6
    · rw [List.getElem?_append_left (by omega), if_pos (by omega), ← List.getD_eq_getElem?_getD]
    · rw [List.getElem?_append_right (by omega), List.getElem?_drop, if_neg (by omega), ← List.getD_eq_getElem?_getD, hl]
      congr 1
      omega
theorem setSix_same {xs : List Value} {i n : Nat} {x0 x1 x2 x3 x4 x5 : Value} (hx : xs.length = n * 6) (hi : i < n) : sixAt (setSix xs i [x0, x1, x2, x3, x4, x5]) i = .agg #[x0, x1, x2, x3, x4, x5] := by
  unfold sixAt
  rw [setSix_get hx hi rfl, setSix_get hx hi rfl, setSix_get hx hi rfl, setSix_get hx hi rfl, setSix_get hx hi rfl, setSix_get hx hi rfl]
  rw [if_pos (by omega), if_pos (by omega), if_pos (by omega), if_pos (by omega), if_pos (by omega), if_pos (by omega)]
  rw [Nat.sub_self, Nat.add_sub_cancel_left, Nat.add_sub_cancel_left, Nat.add_sub_cancel_left, Nat.add_sub_cancel_left, Nat.add_sub_cancel_left]
  rfl
theorem setSix_other {xs l : List Value} {i n k : Nat} (hx : xs.length = n * 6) (hi : i < n) (hl : l.length = 6) (hk : k ≠ i) : sixAt (setSix xs i l) k = sixAt xs k := by
  unfold sixAt
  rw [setSix_get hx hi hl, setSix_get hx hi hl, setSix_get hx hi hl, setSix_get hx hi hl, setSix_get hx hi hl, setSix_get hx hi hl]
  rw [if_neg (by omega), if_neg (by omega), if_neg (by omega), if_neg (by omega), if_neg (by omega), if_neg (by omega)]
/-- A row's block, and the row after six of its cells are laid anew. -/
theorem row_set {W : World} {lo : Nat} {v : Value} {n i : Nat} {xs : List Value} (h : W.ownsRow lo 25 6 v n xs) (hi : i < n) : ∃ g c cur, v = .slice (some ⟨g, 0, none⟩) n c ∧ lo ≤ g ∧ W.heap[g]? = some (.cells cur 25 (0, 0)) ∧ i * 6 + 6 ≤ cur.size ∧
    ∀ (W2 : World) (l : List Value), l.length = 6 → W2.heap[g]? = some (.cells (cur.toList.take (i * 6) ++ l ++ cur.toList.drop (i * 6 + 6)).toArray 25 (0, 0)) → W2.ownsRow lo 25 6 v n (setSix xs i l) := by
  obtain ⟨hl, h⟩ := h
  rcases h with ⟨_, h0⟩ | ⟨g, cap, cur, rfl, hb, hg, hc, hm, hs, ht⟩
  · omega
  · refine ⟨g, cap, cur, rfl, hb, hg, by omega, fun W2 l hl6 h2 => ⟨setSix_len hl hi hl6, .inr ⟨g, cap, _, rfl, hb, h2, hc, hm, ?_, ?_⟩⟩⟩
    · simp only [List.size_toArray, List.length_append, List.length_take, List.length_drop, hl6, Array.length_toList]
      omega
    · show List.take (n * 6) (cur.toList.take (i * 6) ++ l ++ cur.toList.drop (i * 6 + 6)) = setSix xs i l
      unfold setSix
      rw [← ht]
      apply List.ext_getElem?
      intro k
      have hcl : cur.toList.length = cap * 6 := by rw [Array.length_toList]; exact hs
      have e1 : (cur.toList.take (i * 6)).length = i * 6 := by rw [List.length_take]; omega
      have e2 : ((cur.toList.take (n * 6)).take (i * 6)).length = i * 6 := by rw [List.length_take, List.length_take]; omega
      rw [List.getElem?_take]
      simp only [List.append_assoc]
      by_cases a : k < i * 6
      · rw [if_pos (by omega), List.getElem?_append_left (by omega), List.getElem?_append_left (by omega), List.getElem?_take, List.getElem?_take, List.getElem?_take, if_pos a, if_pos a, if_pos (by omega)]
      · rw [List.getElem?_append_right (l₁ := cur.toList.take (i * 6)) (by omega), List.getElem?_append_right (l₁ := (cur.toList.take (n * 6)).take (i * 6)) (by omega), e1, e2]
        by_cases b : k < i * 6 + 6
        · rw [if_pos (by omega), List.getElem?_append_left (by omega), List.getElem?_append_left (by omega)]
        · rw [List.getElem?_append_right (by omega), List.getElem?_append_right (by omega), List.getElem?_drop, List.getElem?_drop, List.getElem?_take, hl6]
          by_cases d : k < n * 6
          · rw [if_pos d, if_pos (by omega)]
          · rw [if_neg d, if_neg (by omega)]
theorem row_weaken {W : World} {lo lo' sz n : Nat} {t : TypeId} {v : Value} {xs : List Value} (h : W.ownsRow lo t sz v n xs) (hl : lo' ≤ lo) : W.ownsRow lo' t sz v n xs := by
  refine ⟨h.1, ?_⟩
  rcases h.2 with h | ⟨g, cap, cur, e, hb, h⟩
  · exact .inl h
  · exact .inr ⟨g, cap, cur, e, Nat.le_trans hl hb, h⟩
/-- A copy that is one's own. -/
def OwnT (W : World) (lo : Nat) (v : Value) : J → Prop
  | .mk k b n t ks vs => ∃ kv vv, v = .agg #[.int .i64 k, .bool b, .int .i64 n, .string t, kv, vv] ∧ OwnS W lo kv ks ∧ OwnJ W lo (fun b => some b = kv.ownBlock) vv vs
theorem OwnT.val {W : World} {lo : Nat} {v : Value} {j : J} (h : OwnT W lo v j) : JX W (fun b => lo ≤ b ∧ b < W.heap.size) v j := by
  obtain ⟨k, b, n, t, ks, vs⟩ := j
  obtain ⟨kv, vv, rfl, h1, h2⟩ := h
  refine JX.keep (M := Nob) (X := fun b => lo ≤ b) ?_ (Keeps.refl Nob W) (fun _ _ _ => id) (fun b h1 h2 => ⟨h2, h1⟩)
  exact JX.close h1.strs h2.js
def OwnEnd (W : World) (j : J) (e : Ending) (w' : World) : Prop := (∃ v, e = .returned v ∧ OwnT w' W.heap.size v j) ∧ Keeps Nob W w'
theorem info22b : ∃ i, Tryd.prog.info? 22 = some i ∧ i.size = 1 := by
  have h : (Tryd.prog.info? 22).map (·.size) = some 1 := by kernel_rfl
  obtain ⟨i, hi, hs⟩ := Option.map_eq_some_iff.1 h
  exact ⟨i, hi, hs⟩
set_option maxHeartbeats 8000000 in
theorem own_step {lv : Nat} (ih : ∀ (W : World) (X : Nat → Prop) (v : Value) (j : J), JX W X v j → levelsJ j < lv → sizeJ j ≤ 1000000000 → Calls Tryd.prog 59 #[v] W (OwnEnd W j)) (W : World) (X : Nat → Prop) (v : Value) (j : J) (h : JX W X v j) (hlv : levelsJ j < lv + 1) (hsz : sizeJ j ≤ 1000000000) : Calls Tryd.prog 59 #[v] W (OwnEnd W j) := by
  obtain ⟨k, b, n, t, ks, vs, kv, vv, rfl, rfl, hks, hvs⟩ := h.open
  obtain ⟨kA, kc, rfl, -⟩ := id hks
  obtain ⟨vA, vc, u, rfl, hvc, hA, hv⟩ := id hvs
  have hkl : ks.length ≤ 1000000000 := by unfold sizeJ at hsz; omega
  have hvl : vs.length ≤ 1000000000 := by have := size_len vs; unfold sizeJ at hsz; omega
  obtain ⟨kl, hkn⟩ : ∃ x, ks.length = x := ⟨_, rfl⟩
  obtain ⟨nv, hnv⟩ : ∃ x, vs.length = x := ⟨_, rfl⟩
  rw [hkn] at hks hkl ⊢
  rw [hnv] at hvl hA hv hvc ⊢
  have Hin := Lib.hid (show ∀ W' p u, p < nv → JX W' (fun b => b < W.heap.size) u (vs.getD p default) → Calls Tryd.prog 59 #[u] W' (OwnEnd W' (vs.getD p default)) from fun W' p u hp hu => ih W' _ u _ hu (by
      have := levels_get (vs := vs) (i := p) (by omega)
      unfold levelsJ at hlv
      omega) (by
      have := size_get (vs := vs) (i := p) (by omega)
      unfold sizeJ at hsz
      omega))
  have HKs := Lib.hid (hks.keep (X' := fun b => b < W.heap.size) (Keeps.refl Nob W) (fun _ _ _ => id) (fun b h _ => h))
  have HA := Lib.hid (show ∀ i, i < nv → ∃ b o, vA = some ⟨b, o, none⟩ ∧ b < W.heap.size ∧ Six W b (o + i * 6) (u i 0) (u i 1) (u i 2) (u i 3) (u i 4) (u i 5) from fun i hi => by
      obtain ⟨b, o, e, _, h6⟩ := hA i hi
      exact ⟨b, o, e, h6.lt, h6⟩)
  have HV := Lib.hid (show ∀ i, i < nv → JX W (fun b => b < W.heap.size) (.agg #[u i 0, u i 1, u i 2, u i 3, u i 4, u i 5]) (vs.getD i default) from fun i hi => (hv i hi).keep (Keeps.refl Nob W) (fun _ _ _ => id) (fun b h _ => h))
  have Hkn := Lib.hid hkn
  have Hnv := Lib.hid hnv
  have hnvi : (nv : Int) ≤ 1000000000 := by omega
  obtain ⟨i25, hi25, hs25⟩ := info25
  obtain ⟨i23, hi23, hs23⟩ := info23
  obtain ⟨i22, hi22, hs22⟩ := info22b
  have HI := Lib.hid (And.intro (And.intro hi25 hs25) (And.intro hi23 hs23))
  have HI22 := Lib.hid (And.intro hi22 hs22)
  have Hkl := Lib.hid hkl
  have Hvl := Lib.hid hvl
  clear hks hvs hA hv ih hlv hsz h hkn hnv hi25 hs25 hi23 hs23 hi22 hs22 hkl hvl hvc
  go_enter Tryd.func59, Tryd.ntmps59
  go_wp2_with (first
    | ((with_reducible refine at_dst (N := 1) rfl ?_); go_must (refine ev_box (cs := #[.int .i64 k, .bool b, .int .i64 n, .string t, .slice kA kl kc, .slice vA nv vc]) rfl rfl rfl ?_; intro g1 w1 hg1 hl1 hb1 hk1)
       have Hb1 := Lib.hid hb1
       have Hg1 := Lib.hid (And.intro hg1 hl1)
       have HK := Lib.hid hk1
       clear hg1 hl1 hb1 hk1
       (try simp only [PU]))
    | ((with_reducible refine at_dst (N := 2) rfl ?_); go_must (refine ev_alloc rfl rfl zero25 rfl ?_; intro g2 w2 hg2 hl2 hb2 hk2)
       have Hb1 := Lib.hid (hk2.blk Hb1.out id)
       have Hb2 := Lib.hid (show ∃ cs, w2.drew.heap[g2]? = some (.cells cs 25 (0, 0)) ∧ cs.size = 6 from ⟨_, hb2, rfl⟩)
       have Hg2 := Lib.hid (show W.heap.size ≤ g1 ∧ W.heap.size ≤ g2 ∧ g1 < g2 ∧ g2 < w2.heap.size from ⟨Hg1.out.1, Nat.le_trans HK.out.size hg2, Nat.lt_of_lt_of_le Hg1.out.2 hg2, hl2⟩)
       have HK := Lib.hid ((HK.out.trans hk2 (fun _ _ h => h)).trans (Keeps.refl Nob w2).drew (fun _ _ h => h))
       have Hb1 := Lib.hid ((Keeps.refl Nob w2).drew.blk Hb1.out id)
       have Hl2 := Lib.hid (show g1 < w2.drew.heap.size ∧ g2 < w2.drew.heap.size from ⟨Nat.lt_trans Hg2.out.2.2.1 hl2, hl2⟩)
       clear hg2 hl2 hb2 hk2 Hg1
       (try simp only [PU]))
  )
  refine wp_region_tree (.q 0 (.q 3 (.br [1, 4] (fun k => bif Nat.beq k 1 then .br [2, 4] (fun k => bif Nat.beq k 2 then .br [4] (fun k => .q 6 (.br [5] (fun k => .br [7] (fun k => .q 8 (.br [9] (fun k => .done)))))) else .br [2] (fun k => .q 6 (.br [5] (fun k => .br [7] (fun k => .q 8 (.br [9] (fun k => .done))))))) else .br [1] (fun k => .br [2] (fun k => .q 6 (.br [5] (fun k => .br [7] (fun k => .q 8 (.br [9] (fun k => .done))))))))))) (fun w' => True) rfl (by kernel_rfl) (by kernel_rfl) (fun c a d v w h => by cases d <;> exact h) trivial ?_
  refine tree_q (v := ?v1_12) (some 4) rfl rfl rfl ?q1_12 ?h1_12; (case q1_12 => (intro w' hS; skip; first | (go_simp; done) | (go_simp; rfl))); (try simp only [PU])
  refine tree_q (v := ?v1_11) (some 7) rfl rfl rfl ?q1_11 ?h1_11; (case q1_11 => (intro w' hS; skip; first | (go_simp; done) | (go_simp; rfl))); (try simp only [PU])
  refine tree_b rfl rfl ?b1_7 ?nb1_7
  case' b1_7 =>
    have c4 := (blk_cell Hb1.out 4).trans rfl
    go_wp2_with fail
    clear c4
    refine ⟨trivial, ?_⟩
    refine tree_b rfl rfl ?b1_3 ?nb1_3
    case' b1_3 =>
      go_wp2_with (go_at_call 91; go_must (refine (clone91 (HKs.out.keep (X' := fun b => b < W.heap.size) HK.out (fun _ _ _ => id) (fun _ _ h => h)) Hkl.out).mono ?_; rintro e w3 ⟨⟨v3, rfl, ho3⟩, hk3⟩; obtain ⟨oA, oc, hv3, -⟩ := ho3.slice; rw [Hkn.out] at hv3; subst hv3))
      have HKS := Lib.hid (show OwnS w3 W.heap.size (.slice oA kl oc) ks from row_weaken ho3 HK.out.size)
      have Hdk := Lib.hid (show ∀ b, (Value.slice oA kl oc).ownBlock = some b → g1 ≠ b ∧ g2 ≠ b ∧ b < w3.heap.size from fun b e => by have h1 := ho3.lt b e; have h2 := Hl2.out; omega)
      have Hl3 := Lib.hid (show g1 < w3.heap.size ∧ g2 < w3.heap.size from ⟨Nat.lt_of_lt_of_le Hl2.out.1 hk3.size, Nat.lt_of_lt_of_le Hl2.out.2 hk3.size⟩)
      have Hb1 := Lib.hid (hk3.blk Hb1.out id)
      have Hb2 := Lib.hid (show ∃ cs, w3.heap[g2]? = some (.cells cs 25 (0, 0)) ∧ cs.size = 6 from by obtain ⟨cs, h1, h2⟩ := Hb2.out; exact ⟨cs, hk3.blk h1 id, h2⟩)
      have HK := Lib.hid (HK.out.trans hk3 (fun _ _ h => h))
      clear ho3 hk3
      (try simp only [PU])
      refine ⟨trivial, ?_⟩
      refine tree_e rfl rfl ?_
      have c5 := (blk_cell Hb1.out 5).trans rfl
      go_wp2_with fail
      clear c5
      refine ⟨trivial, ?_⟩
      refine tree_q (v := ?v1_2) (some 10) rfl rfl rfl ?q1_2 ?h1_2; (case q1_2 => (intro w' hS; skip; first | (go_simp; done) | (go_simp; rfl))); (try simp only [PU])
      refine tree_e rfl rfl ?_
      go_wp2_with (go_at_call 92; go_must (refine (clone92 (X := fun b => b < W.heap.size) (fun i hi => by obtain ⟨b, o, e, hb, h6⟩ := HA.out i hi; exact ⟨b, o, e, hb, h6.keep HK.out id⟩) (fun i hi => (HV.out i hi).keep HK.out (fun _ _ _ => id) (fun _ _ h => h)) Hvl.out).mono ?_; rintro e w4 ⟨⟨v4, rfl, ho4⟩, hk4⟩; obtain ⟨rA, rc, hv4, -⟩ := row_slice ho4; subst hv4))
      have HRW := Lib.hid (row_weaken ho4 HK.out.size)
      have Hdr := Lib.hid (show ∀ b, (Value.slice rA nv rc).ownBlock = some b → g1 ≠ b ∧ g2 ≠ b ∧ (Value.slice oA kl oc).ownBlock ≠ some b from fun b e => by
        have h1 := row_lt ho4 b e
        have h2 := Hl3.out
        exact ⟨by omega, by omega, fun e2 => by have := (Hdk.out b e2).2.2; omega⟩)
      have HKS := Lib.hid (HKS.out.keep hk4 (fun _ _ => id))
      have Hb1 := Lib.hid (hk4.blk Hb1.out id)
      have Hb2 := Lib.hid (show ∃ cs, w4.heap[g2]? = some (.cells cs 25 (0, 0)) ∧ cs.size = 6 from by obtain ⟨cs, h1, h2⟩ := Hb2.out; exact ⟨cs, hk4.blk h1 id, h2⟩)
      have HK := Lib.hid (HK.out.trans hk4 (fun _ _ h => h))
      clear ho4 hk4
      (try simp only [PU])
      refine ⟨trivial, ?_⟩
      refine tree_e rfl rfl ?_
      go_must (refine ev_store (off := 4) (cs' := #[.int .i64 k, .bool b, .int .i64 n, .string t, .slice oA kl oc, .slice vA nv vc]) rfl rfl rfl rfl rfl rfl HI22.out.1 HI22.out.2 rfl Hb1.out (Nat.le_of_ble_eq_true rfl) rfl ?_; intro w5 hb5 hk5)
      (try simp only [PU])
      have HKS := Lib.hid (HKS.out.keep hk5 (fun q e h => (Hdk.out q e).1 h.symm))
      have HRW := Lib.hid (row_keep HRW.out hk5 (fun q e h => (Hdr.out q e).1 h.symm))
      have Hb1 := Lib.hid hb5
      have Hb2 := Lib.hid (show ∃ cs, w5.heap[g2]? = some (.cells cs 25 (0, 0)) ∧ cs.size = 6 from by obtain ⟨cs, h1, h2⟩ := Hb2.out; exact ⟨cs, hk5.blk h1 (fun e : g2 = g1 => by have := Hg2.out; omega), h2⟩)
      have HK := Lib.hid (show Keeps Nob W w5 from HK.out.trans hk5 (fun i hi e => by have := Hg2.out; omega))
      clear hb5 hk5
      refine wpList_nil ⟨trivial, ?_⟩
      refine tree_q (v := ?v1_1) (some 11) rfl rfl rfl ?q1_1 ?h1_1; (case q1_1 => (intro w' hS; skip; first | (go_simp; done) | (go_simp; rfl))); (try simp only [PU])
      refine tree_e rfl rfl ?_
      go_must (refine ev_store (off := 5) (cs' := #[.int .i64 k, .bool b, .int .i64 n, .string t, .slice oA kl oc, .slice rA nv rc]) rfl rfl rfl rfl rfl rfl HI.out.2.1 HI.out.2.2 rfl Hb1.out (Nat.le_of_ble_eq_true rfl) rfl ?_; intro w5 hb5 hk5)
      (try simp only [PU])
      have HKS := Lib.hid (HKS.out.keep hk5 (fun q e h => (Hdk.out q e).1 h.symm))
      have HRW := Lib.hid (row_keep HRW.out hk5 (fun q e h => (Hdr.out q e).1 h.symm))
      have Hb1 := Lib.hid hb5
      have Hb2 := Lib.hid (show ∃ cs, w5.heap[g2]? = some (.cells cs 25 (0, 0)) ∧ cs.size = 6 from by obtain ⟨cs, h1, h2⟩ := Hb2.out; exact ⟨cs, hk5.blk h1 (fun e : g2 = g1 => by have := Hg2.out; omega), h2⟩)
      have HK := Lib.hid (show Keeps Nob W w5 from HK.out.trans hk5 (fun i hi e => by have := Hg2.out; omega))
      clear hb5 hk5
      refine wpList_nil ⟨trivial, ?_⟩
      refine tree_nil ?_
    case' nb1_3 =>
      refine tree_e rfl rfl ?b1_6
      case' b1_6 =>
        have c5 := (blk_cell Hb1.out 5).trans rfl
        go_wp2_with fail
        clear c5
        refine ⟨trivial, ?_⟩
        refine tree_e rfl rfl ?_
        go_wp2_with (go_at_call 91; go_must (refine (clone91 (HKs.out.keep (X' := fun b => b < W.heap.size) HK.out (fun _ _ _ => id) (fun _ _ h => h)) Hkl.out).mono ?_; rintro e w3 ⟨⟨v3, rfl, ho3⟩, hk3⟩; obtain ⟨oA, oc, hv3, -⟩ := ho3.slice; rw [Hkn.out] at hv3; subst hv3))
        have HKS := Lib.hid (show OwnS w3 W.heap.size (.slice oA kl oc) ks from row_weaken ho3 HK.out.size)
        have Hdk := Lib.hid (show ∀ b, (Value.slice oA kl oc).ownBlock = some b → g1 ≠ b ∧ g2 ≠ b ∧ b < w3.heap.size from fun b e => by have h1 := ho3.lt b e; have h2 := Hl2.out; omega)
        have Hl3 := Lib.hid (show g1 < w3.heap.size ∧ g2 < w3.heap.size from ⟨Nat.lt_of_lt_of_le Hl2.out.1 hk3.size, Nat.lt_of_lt_of_le Hl2.out.2 hk3.size⟩)
        have Hb1 := Lib.hid (hk3.blk Hb1.out id)
        have Hb2 := Lib.hid (show ∃ cs, w3.heap[g2]? = some (.cells cs 25 (0, 0)) ∧ cs.size = 6 from by obtain ⟨cs, h1, h2⟩ := Hb2.out; exact ⟨cs, hk3.blk h1 id, h2⟩)
        have HK := Lib.hid (HK.out.trans hk3 (fun _ _ h => h))
        clear ho3 hk3
        (try simp only [PU])
        refine ⟨trivial, ?_⟩
        refine tree_q (v := ?v1_5) (some 10) rfl rfl rfl ?q1_5 ?h1_5; (case q1_5 => (intro w' hS; skip; first | (go_simp; done) | (go_simp; rfl))); (try simp only [PU])
        refine tree_e rfl rfl ?_
        go_wp2_with (go_at_call 92; go_must (refine (clone92 (X := fun b => b < W.heap.size) (fun i hi => by obtain ⟨b, o, e, hb, h6⟩ := HA.out i hi; exact ⟨b, o, e, hb, h6.keep HK.out id⟩) (fun i hi => (HV.out i hi).keep HK.out (fun _ _ _ => id) (fun _ _ h => h)) Hvl.out).mono ?_; rintro e w4 ⟨⟨v4, rfl, ho4⟩, hk4⟩; obtain ⟨rA, rc, hv4, -⟩ := row_slice ho4; subst hv4))
        have HRW := Lib.hid (row_weaken ho4 HK.out.size)
        have Hdr := Lib.hid (show ∀ b, (Value.slice rA nv rc).ownBlock = some b → g1 ≠ b ∧ g2 ≠ b ∧ (Value.slice oA kl oc).ownBlock ≠ some b from fun b e => by
          have h1 := row_lt ho4 b e
          have h2 := Hl3.out
          exact ⟨by omega, by omega, fun e2 => by have := (Hdk.out b e2).2.2; omega⟩)
        have HKS := Lib.hid (HKS.out.keep hk4 (fun _ _ => id))
        have Hb1 := Lib.hid (hk4.blk Hb1.out id)
        have Hb2 := Lib.hid (show ∃ cs, w4.heap[g2]? = some (.cells cs 25 (0, 0)) ∧ cs.size = 6 from by obtain ⟨cs, h1, h2⟩ := Hb2.out; exact ⟨cs, hk4.blk h1 id, h2⟩)
        have HK := Lib.hid (HK.out.trans hk4 (fun _ _ h => h))
        clear ho4 hk4
        (try simp only [PU])
        refine ⟨trivial, ?_⟩
        refine tree_e rfl rfl ?_
        go_must (refine ev_store (off := 4) (cs' := #[.int .i64 k, .bool b, .int .i64 n, .string t, .slice oA kl oc, .slice vA nv vc]) rfl rfl rfl rfl rfl rfl HI22.out.1 HI22.out.2 rfl Hb1.out (Nat.le_of_ble_eq_true rfl) rfl ?_; intro w5 hb5 hk5)
        (try simp only [PU])
        have HKS := Lib.hid (HKS.out.keep hk5 (fun q e h => (Hdk.out q e).1 h.symm))
        have HRW := Lib.hid (row_keep HRW.out hk5 (fun q e h => (Hdr.out q e).1 h.symm))
        have Hb1 := Lib.hid hb5
        have Hb2 := Lib.hid (show ∃ cs, w5.heap[g2]? = some (.cells cs 25 (0, 0)) ∧ cs.size = 6 from by obtain ⟨cs, h1, h2⟩ := Hb2.out; exact ⟨cs, hk5.blk h1 (fun e : g2 = g1 => by have := Hg2.out; omega), h2⟩)
        have HK := Lib.hid (show Keeps Nob W w5 from HK.out.trans hk5 (fun i hi e => by have := Hg2.out; omega))
        clear hb5 hk5
        refine wpList_nil ⟨trivial, ?_⟩
        refine tree_q (v := ?v1_4) (some 11) rfl rfl rfl ?q1_4 ?h1_4; (case q1_4 => (intro w' hS; skip; first | (go_simp; done) | (go_simp; rfl))); (try simp only [PU])
        refine tree_e rfl rfl ?_
        go_must (refine ev_store (off := 5) (cs' := #[.int .i64 k, .bool b, .int .i64 n, .string t, .slice oA kl oc, .slice rA nv rc]) rfl rfl rfl rfl rfl rfl HI.out.2.1 HI.out.2.2 rfl Hb1.out (Nat.le_of_ble_eq_true rfl) rfl ?_; intro w5 hb5 hk5)
        (try simp only [PU])
        have HKS := Lib.hid (HKS.out.keep hk5 (fun q e h => (Hdk.out q e).1 h.symm))
        have HRW := Lib.hid (row_keep HRW.out hk5 (fun q e h => (Hdr.out q e).1 h.symm))
        have Hb1 := Lib.hid hb5
        have Hb2 := Lib.hid (show ∃ cs, w5.heap[g2]? = some (.cells cs 25 (0, 0)) ∧ cs.size = 6 from by obtain ⟨cs, h1, h2⟩ := Hb2.out; exact ⟨cs, hk5.blk h1 (fun e : g2 = g1 => by have := Hg2.out; omega), h2⟩)
        have HK := Lib.hid (show Keeps Nob W w5 from HK.out.trans hk5 (fun i hi e => by have := Hg2.out; omega))
        clear hb5 hk5
        refine wpList_nil ⟨trivial, ?_⟩
        refine tree_nil ?_
  case' nb1_7 =>
    refine tree_e rfl rfl ?b1_10
    case' b1_10 =>
      have c5 := (blk_cell Hb1.out 5).trans rfl
      go_wp2_with fail
      clear c5
      refine ⟨trivial, ?_⟩
      refine tree_e rfl rfl ?_
      have c4 := (blk_cell Hb1.out 4).trans rfl
      go_wp2_with fail
      clear c4
      refine ⟨trivial, ?_⟩
      refine tree_e rfl rfl ?_
      go_wp2_with (go_at_call 91; go_must (refine (clone91 (HKs.out.keep (X' := fun b => b < W.heap.size) HK.out (fun _ _ _ => id) (fun _ _ h => h)) Hkl.out).mono ?_; rintro e w3 ⟨⟨v3, rfl, ho3⟩, hk3⟩; obtain ⟨oA, oc, hv3, -⟩ := ho3.slice; rw [Hkn.out] at hv3; subst hv3))
      have HKS := Lib.hid (show OwnS w3 W.heap.size (.slice oA kl oc) ks from row_weaken ho3 HK.out.size)
      have Hdk := Lib.hid (show ∀ b, (Value.slice oA kl oc).ownBlock = some b → g1 ≠ b ∧ g2 ≠ b ∧ b < w3.heap.size from fun b e => by have h1 := ho3.lt b e; have h2 := Hl2.out; omega)
      have Hl3 := Lib.hid (show g1 < w3.heap.size ∧ g2 < w3.heap.size from ⟨Nat.lt_of_lt_of_le Hl2.out.1 hk3.size, Nat.lt_of_lt_of_le Hl2.out.2 hk3.size⟩)
      have Hb1 := Lib.hid (hk3.blk Hb1.out id)
      have Hb2 := Lib.hid (show ∃ cs, w3.heap[g2]? = some (.cells cs 25 (0, 0)) ∧ cs.size = 6 from by obtain ⟨cs, h1, h2⟩ := Hb2.out; exact ⟨cs, hk3.blk h1 id, h2⟩)
      have HK := Lib.hid (HK.out.trans hk3 (fun _ _ h => h))
      clear ho3 hk3
      (try simp only [PU])
      refine ⟨trivial, ?_⟩
      refine tree_q (v := ?v1_9) (some 10) rfl rfl rfl ?q1_9 ?h1_9; (case q1_9 => (intro w' hS; skip; first | (go_simp; done) | (go_simp; rfl))); (try simp only [PU])
      refine tree_e rfl rfl ?_
      go_wp2_with (go_at_call 92; go_must (refine (clone92 (X := fun b => b < W.heap.size) (fun i hi => by obtain ⟨b, o, e, hb, h6⟩ := HA.out i hi; exact ⟨b, o, e, hb, h6.keep HK.out id⟩) (fun i hi => (HV.out i hi).keep HK.out (fun _ _ _ => id) (fun _ _ h => h)) Hvl.out).mono ?_; rintro e w4 ⟨⟨v4, rfl, ho4⟩, hk4⟩; obtain ⟨rA, rc, hv4, -⟩ := row_slice ho4; subst hv4))
      have HRW := Lib.hid (row_weaken ho4 HK.out.size)
      have Hdr := Lib.hid (show ∀ b, (Value.slice rA nv rc).ownBlock = some b → g1 ≠ b ∧ g2 ≠ b ∧ (Value.slice oA kl oc).ownBlock ≠ some b from fun b e => by
        have h1 := row_lt ho4 b e
        have h2 := Hl3.out
        exact ⟨by omega, by omega, fun e2 => by have := (Hdk.out b e2).2.2; omega⟩)
      have HKS := Lib.hid (HKS.out.keep hk4 (fun _ _ => id))
      have Hb1 := Lib.hid (hk4.blk Hb1.out id)
      have Hb2 := Lib.hid (show ∃ cs, w4.heap[g2]? = some (.cells cs 25 (0, 0)) ∧ cs.size = 6 from by obtain ⟨cs, h1, h2⟩ := Hb2.out; exact ⟨cs, hk4.blk h1 id, h2⟩)
      have HK := Lib.hid (HK.out.trans hk4 (fun _ _ h => h))
      clear ho4 hk4
      (try simp only [PU])
      refine ⟨trivial, ?_⟩
      refine tree_e rfl rfl ?_
      go_must (refine ev_store (off := 4) (cs' := #[.int .i64 k, .bool b, .int .i64 n, .string t, .slice oA kl oc, .slice vA nv vc]) rfl rfl rfl rfl rfl rfl HI22.out.1 HI22.out.2 rfl Hb1.out (Nat.le_of_ble_eq_true rfl) rfl ?_; intro w5 hb5 hk5)
      (try simp only [PU])
      have HKS := Lib.hid (HKS.out.keep hk5 (fun q e h => (Hdk.out q e).1 h.symm))
      have HRW := Lib.hid (row_keep HRW.out hk5 (fun q e h => (Hdr.out q e).1 h.symm))
      have Hb1 := Lib.hid hb5
      have Hb2 := Lib.hid (show ∃ cs, w5.heap[g2]? = some (.cells cs 25 (0, 0)) ∧ cs.size = 6 from by obtain ⟨cs, h1, h2⟩ := Hb2.out; exact ⟨cs, hk5.blk h1 (fun e : g2 = g1 => by have := Hg2.out; omega), h2⟩)
      have HK := Lib.hid (show Keeps Nob W w5 from HK.out.trans hk5 (fun i hi e => by have := Hg2.out; omega))
      clear hb5 hk5
      refine wpList_nil ⟨trivial, ?_⟩
      refine tree_q (v := ?v1_8) (some 11) rfl rfl rfl ?q1_8 ?h1_8; (case q1_8 => (intro w' hS; skip; first | (go_simp; done) | (go_simp; rfl))); (try simp only [PU])
      refine tree_e rfl rfl ?_
      go_must (refine ev_store (off := 5) (cs' := #[.int .i64 k, .bool b, .int .i64 n, .string t, .slice oA kl oc, .slice rA nv rc]) rfl rfl rfl rfl rfl rfl HI.out.2.1 HI.out.2.2 rfl Hb1.out (Nat.le_of_ble_eq_true rfl) rfl ?_; intro w5 hb5 hk5)
      (try simp only [PU])
      have HKS := Lib.hid (HKS.out.keep hk5 (fun q e h => (Hdk.out q e).1 h.symm))
      have HRW := Lib.hid (row_keep HRW.out hk5 (fun q e h => (Hdr.out q e).1 h.symm))
      have Hb1 := Lib.hid hb5
      have Hb2 := Lib.hid (show ∃ cs, w5.heap[g2]? = some (.cells cs 25 (0, 0)) ∧ cs.size = 6 from by obtain ⟨cs, h1, h2⟩ := Hb2.out; exact ⟨cs, hk5.blk h1 (fun e : g2 = g1 => by have := Hg2.out; omega), h2⟩)
      have HK := Lib.hid (show Keeps Nob W w5 from HK.out.trans hk5 (fun i hi e => by have := Hg2.out; omega))
      clear hb5 hk5
      refine wpList_nil ⟨trivial, ?_⟩
      refine tree_nil ?_
  · skip
    clear HI22 HKs Hkl Hl2 Hl3
    have c5 := (blk_cell Hb1.out 5).trans rfl
    go_wp2
    rename World => w0
    go_loopg [15] nv (fun K iv wr => ∃ (i : Nat) (xs : List Value) (Xn : Nat → Prop), iv = .int .i64 i ∧ i + K = nv ∧ Hid (wr.heap[g1]? = some (.cells #[.int .i64 k, .bool b, .int .i64 n, .string t, .slice oA kl oc, .slice rA nv rc] 25 (0, 0))) ∧ Hid (∃ cs, wr.heap[g2]? = some (.cells cs 25 (0, 0)) ∧ cs.size = 6) ∧ Hid (OwnS wr W.heap.size (.slice oA kl oc) ks) ∧ Hid (wr.ownsRow W.heap.size 25 6 (.slice rA nv rc) nv xs) ∧ Hid (∀ p, p < i → JX wr Xn (sixAt xs p) (vs.getD p default)) ∧ Hid (∀ p, i ≤ p → p < nv → sixAt xs p = .agg #[u p 0, u p 1, u p 2, u p 3, u p 4, u p 5]) ∧ Hid (∀ b, Xn b → W.heap.size ≤ b ∧ some b ≠ (Value.slice oA kl oc).ownBlock ∧ some b ≠ (Value.slice rA nv rc).ownBlock ∧ b < wr.heap.size ∧ b ≠ g1 ∧ b ≠ g2) ∧ Hid (w0.heap.size ≤ wr.heap.size) ∧ Hid (Keeps Nob W wr))
    case atStart => exact ⟨0, flat6 u nv, fun _ => False, rfl, by omega, Hb1, Hb2, HKS, HRW, Lib.hid (fun p h => absurd h (Nat.not_lt_zero _)), Lib.hid (fun p _ h => flat6_six u h), Lib.hid (fun b h => h.elim), Lib.hid (Nat.le_refl _), HK⟩
    case round =>
      obtain ⟨i, xs, Xn, rfl, hiK, Hb1, Hb2, HKS, HRW, Hnew, Hold, Hlow, Hsz, HK⟩ := hrel
      by_cases hlt : i < nv
      · obtain ⟨gr, rc', cur, he, hgr, hcur, hfit, hset⟩ := row_set HRW.out hlt
        injection he with he1 he2 he3
        subst he1; subst he3
        have hs6 := Hold.out i (Nat.le_refl _) hlt
        have hjx := (HV.out i hlt).keep HK.out (X' := fun b => b < W.heap.size) (fun _ _ _ => id) (fun _ _ h => h)
        have hsix := hjx.six
        have hcell : ∀ q, q < nv * 6 → wr.cell? ⟨gr, q, none⟩ = some (xs.getD q vz) := fun q hq => by
          obtain ⟨g', c', e, _, hc⟩ := row_cell HRW.out (k := q) hq
          injection e with e1
          injection e1 with e1
          injection e1 with e1
          subst e1
          exact hc
        have q0 := hcell (i * 6) (by omega)
        have q1 := hcell (i * 6 + 1) (by omega)
        have q2 := hcell (i * 6 + 2) (by omega)
        have q3 := hcell (i * 6 + 3) (by omega)
        have q4 := hcell (i * 6 + 4) (by omega)
        have q5 := hcell (i * 6 + 5) (by omega)
        unfold sixAt at hs6
        injection hs6 with hs6
        have t0 := congrArg (fun a : Array Value => a[0]?) hs6
        have t1 := congrArg (fun a : Array Value => a[1]?) hs6
        have t2 := congrArg (fun a : Array Value => a[2]?) hs6
        have t3 := congrArg (fun a : Array Value => a[3]?) hs6
        have t4 := congrArg (fun a : Array Value => a[4]?) hs6
        have t5 := congrArg (fun a : Array Value => a[5]?) hs6
        simp at t0 t1 t2 t3 t4 t5
        simp only [List.getD_eq_getElem?_getD] at q0 q1 q2 q3 q4 q5
        rw [t0] at q0
        rw [t1] at q1
        rw [t2] at q2
        rw [t3] at q3
        rw [t4] at q4
        rw [t5] at q5
        have Hjx := Lib.hid hjx
        clear hs6 t0 t1 t2 t3 t4 t5 hcell hjx
        generalize u i 0 = x0 at *
        generalize u i 1 = x1 at *
        generalize u i 2 = x2 at *
        generalize u i 3 = x3 at *
        generalize u i 4 = x4 at *
        generalize u i 5 = x5 at *
        obtain ⟨y0, y1, y2, y3, yA, yn, yc, yB, ym, yd, ⟨rfl, rfl, rfl⟩, rfl, rfl, rfl⟩ := hsix
        have Hcur := Lib.hid hcur
        have Hfit := Lib.hid hfit
        have Hset := Lib.hid hset
        have Hgr := Lib.hid hgr
        have c5 : wr.drew.cell? ⟨g1, 5, none⟩ = some (.slice (some ⟨gr, 0, none⟩) nv rc) := (blk_cell ((Keeps.refl Nob wr).drew.blk Hb1.out id) 5).trans rfl
        have HKd := Lib.hid (Keeps.refl Nob wr).drew
        clear hcur hfit hset hgr
        go_wp2_with fail
        refine wp_region_tree (.q 0 (.q 1 (.q 2 (.q 3 (.q 4 (.q 5 (.q 6 (.br [7] (fun k => .br [8] (fun k => .q 9 (.br [10] (fun k => .done)))))))))))) (fun w' => w'.cell? ⟨g1, 5, none⟩ = some (.slice (some ⟨gr, 0, none⟩) nv rc)) rfl (by kernel_rfl) (by kernel_rfl) (fun c a d v w h => by cases d <;> exact h) c5 ?_
        refine tree_q (v := ?v2_8) (some 18) rfl rfl rfl ?q2_8 ?h2_8; (case q2_8 => (intro w' hS; skip; first | (go_simp; done) | (go_simp; rfl))); (try simp only [PU])
        refine tree_q (v := ?v2_7) (some 19) rfl rfl rfl ?q2_7 ?h2_7; (case q2_7 => (intro w' hS; skip; first | (go_simp; done) | (go_simp; rfl))); (try simp only [PU])
        refine tree_q (v := ?v2_6) (some 20) rfl rfl rfl ?q2_6 ?h2_6; (case q2_6 => (intro w' hS; skip; first | (go_simp; done) | (go_simp; rfl))); (try simp only [PU])
        refine tree_q (v := ?v2_5) (some 21) rfl rfl rfl ?q2_5 ?h2_5; (case q2_5 => (intro w' hS; skip; first | (go_simp; done) | (go_simp; rfl))); (try simp only [PU])
        refine tree_q (v := ?v2_4) (some 22) rfl rfl rfl ?q2_4 ?h2_4; (case q2_4 => (intro w' hS; skip; first | (go_simp; done) | (go_simp; rfl))); (try simp only [PU])
        refine tree_q (v := ?v2_3) (some 23) rfl rfl rfl ?q2_3 ?h2_3; (case q2_3 => (intro w' hS; skip; first | (go_simp; done) | (go_simp; rfl))); (try simp only [PU])
        refine tree_q (v := ?v2_2) (some 24) rfl rfl rfl ?q2_2 ?h2_2; (case q2_2 => (intro w' hS; skip; first | (go_simp; done) | (go_simp; rfl))); (try simp only [PU])
        refine tree_e rfl rfl ?_
        have r0 := HKd.out.cell q0 id
        have r1 := HKd.out.cell q1 id
        have r2 := HKd.out.cell q2 id
        have r3 := HKd.out.cell q3 id
        have r4 := HKd.out.cell q4 id
        have r5 := HKd.out.cell q5 id
        go_wp2_with fail
        clear r0 r1 r2 r3 r4 r5
        refine ⟨c5, ?_⟩
        refine tree_e rfl rfl ?_
        go_wp2_with (go_at_call 59; go_must (refine (Hin.out _ i _ hlt (Hjx.out.keep HKd.out (fun _ _ _ => id) (fun _ _ h => h))).mono ?_; rintro e w7 ⟨⟨v7, rfl, ho7⟩, hk7⟩; have hv7 := ho7.val; obtain ⟨jk, jb, jn, jt, jks, jvs, jkv, jvv, hjj, rfl, hjk, hjv⟩ := hv7.open; obtain ⟨jA, jc, rfl, -⟩ := hjk; obtain ⟨jB, jd, ju, rfl, -⟩ := hjv))
        have HV7 := Lib.hid (show JX w7 (fun b => wr.heap.size ≤ b ∧ b < w7.heap.size) _ (vs.getD i default) from hv7)
        have HK7 := Lib.hid (show Keeps Nob wr w7 from HKd.out.trans hk7 (fun _ _ h => h))
        have c7 := (blk_cell (HK7.out.blk Hb1.out id) 5).trans rfl
        clear ho7 hv7 hk7 hjj
        generalize jks.length = jkl at *
        generalize jvs.length = jvl at *
        (try simp only [PU])
        refine ⟨c7, ?_⟩
        refine tree_q (v := ?v2_1) (some 27) rfl rfl rfl ?q2_1 ?h2_1; (case q2_1 => (intro w' hS; skip; first | (go_simp; done) | (go_simp; rfl))); (try simp only [PU])
        refine tree_e rfl rfl ?_
        go_must (refine ev_store (x := .agg #[.int .i64 jk, .bool jb, .int .i64 jn, .string jt, .slice jA jkl jc, .slice jB jvl jd]) (vs := [.int .i64 jk, .bool jb, .int .i64 jn, .string jt, .slice jA jkl jc, .slice jB jvl jd]) (off := i * 6) (cs' := List.toArray (cur.toList.take (i * 6) ++ ([Value.int .i64 jk, Value.bool jb, Value.int .i64 jn, Value.string jt, Value.slice jA jkl jc, Value.slice jB jvl jd] : List Value) ++ cur.toList.drop (i * 6 + 6))) rfl rfl rfl rfl rfl rfl HI.out.1.1 HI.out.1.2 rfl (HK7.out.blk Hcur.out id) Hfit.out rfl ?_; intro w8 hb8 hk8)
        (try simp only [PU])
        have Hb8 := Lib.hid hb8
        have Hk8 := Lib.hid hk8
        have Hg1r := Lib.hid (show g1 ≠ gr ∧ g2 ≠ gr ∧ (Value.slice oA kl oc).ownBlock ≠ some gr from Hdr.out gr rfl)
        have c8 := (blk_cell (hk8.blk (HK7.out.blk Hb1.out id) (Hdr.out gr rfl).1) 5).trans rfl
        clear hb8 hk8
        refine wpList_nil ⟨c8, ?_⟩
        refine tree_nil ?_
        go_wp2
        go_roundg (nv - i - 1)
        case measure => omega
        case rel => exact ⟨i + 1, setSix xs i [.int .i64 jk, .bool jb, .int .i64 jn, .string jt, .slice jA jkl jc, .slice jB jvl jd], fun b => Xn b ∨ (wr.heap.size ≤ b ∧ b < w7.heap.size), by rfl, by omega,
          Lib.hid (Hk8.out.blk (HK7.out.blk Hb1.out id) Hg1r.out.1),
          Lib.hid (by obtain ⟨cs, h1, h2⟩ := Hb2.out; exact ⟨cs, Hk8.out.blk (HK7.out.blk h1 id) Hg1r.out.2.1, h2⟩),
          Lib.hid ((HKS.out.keep HK7.out (fun _ _ => id)).keep Hk8.out (fun q e h => Hg1r.out.2.2 (by rw [e, h]))),
          Lib.hid (Hset.out w8 _ rfl Hb8.out),
          Lib.hid (fun p hp => by
            have hgl := blk_lt Hcur.out
            by_cases e : p = i
            · subst e
              rw [setSix_same HRW.out.1 hlt]
              exact HV7.out.keep Hk8.out (fun b _ hb e => by omega) (fun b _ hb => .inr hb)
            · rw [setSix_other HRW.out.1 hlt rfl e]
              exact ((Hnew.out p (by omega)).keep (X' := Xn) HK7.out (fun _ _ _ => id) (fun _ _ h => h)).keep Hk8.out (fun b _ hb e => (Hlow.out b hb).2.2.1 (by rw [e]; rfl)) (fun b _ hb => .inl hb)),
          Lib.hid (fun p hp hp2 => by
            rw [setSix_other HRW.out.1 hlt rfl (by omega)]
            exact Hold.out p (by omega) hp2),
          Lib.hid (fun b hb => by
            have h7 := HK7.out.size
            have h8 := Hk8.out.size
            have hw := HK.out.size
            rcases hb with hb | hb
            · have := Hlow.out b hb
              exact ⟨this.1, this.2.1, this.2.2.1, by omega, this.2.2.2.2.1, this.2.2.2.2.2⟩
            · have a1 := blk_lt Hcur.out
              have a2 := blk_lt Hb1.out
              obtain ⟨cs, h1, -⟩ := Hb2.out
              have a3 := blk_lt h1
              exact ⟨by omega, fun e => by have := (HKS.out.lt b e.symm).2; omega, fun e => by have e2 : b = gr := Option.some.inj e; omega, by omega, by omega, by omega⟩),
          Lib.hid (by have h7 := HK7.out.size; have h8 := Hk8.out.size; have := Hsz.out; omega),
          Lib.hid (show Keeps Nob W w8 from (HK.out.trans HK7.out (fun _ _ h => h)).trans Hk8.out (fun q hq e => by have := Hgr.out; omega))⟩
      · have hi' : nv = i := by omega
        subst hi'
        obtain ⟨cs2, hc2, hs2⟩ := id Hb2.out
        have Hc2 := Lib.hid hc2
        have Hs2 := Lib.hid hs2
        have c0 := (blk_cell Hb1.out 0).trans rfl
        have c1 := (blk_cell Hb1.out 1).trans rfl
        have c2 := (blk_cell Hb1.out 2).trans rfl
        have c3 := (blk_cell Hb1.out 3).trans rfl
        have c4 := (blk_cell Hb1.out 4).trans rfl
        have c5 := (blk_cell Hb1.out 5).trans rfl
        clear hc2 hs2
        go_wp2_with (first
          | ((with_reducible refine at_store (t := 25) rfl ?_); go_must (refine ev_store (x := .agg #[.int .i64 k, .bool b, .int .i64 n, .string t, .slice oA kl oc, .slice rA nv rc]) (vs := [.int .i64 k, .bool b, .int .i64 n, .string t, .slice oA kl oc, .slice rA nv rc]) (cs' := List.toArray (cs2.toList.take 0 ++ ([Value.int .i64 k, Value.bool b, Value.int .i64 n, Value.string t, Value.slice oA kl oc, Value.slice rA nv rc] : List Value) ++ cs2.toList.drop (0 + 6))) rfl rfl rfl rfl rfl rfl HI.out.1.1 HI.out.1.2 rfl Hc2.out (by rw [Hs2.out]; exact Nat.le_refl _) rfl ?_; intro w9 hb9 hk9)
             have Hb9 := Lib.hid hb9
             have Hk9 := Lib.hid hk9
             clear hb9 hk9
             (try simp only [PU]))
        )
        have hcs9 : List.toArray (cs2.toList.take 0 ++ ([Value.int .i64 k, Value.bool b, Value.int .i64 n, Value.string t, Value.slice oA kl oc, Value.slice rA nv rc] : List Value) ++ cs2.toList.drop (0 + 6)) = #[Value.int .i64 k, Value.bool b, Value.int .i64 n, Value.string t, Value.slice oA kl oc, Value.slice rA nv rc] := by
          rw [List.take_zero, List.drop_of_length_le (by rw [Array.length_toList, Hs2.out]; exact Nat.le_refl _)]
          rfl
        have hb9 := Hb9.out
        rw [hcs9] at hb9
        clear c0 c1 c2 c3 c4 c5
        have c0 := (blk_cell hb9 0).trans rfl
        have c1 := (blk_cell hb9 1).trans rfl
        have c2 := (blk_cell hb9 2).trans rfl
        have c3 := (blk_cell hb9 3).trans rfl
        have c4 := (blk_cell hb9 4).trans rfl
        have c5 := (blk_cell hb9 5).trans rfl
        refine bodyPost_ret (v := .agg #[.int .i64 k, .bool b, .int .i64 n, .string t, .slice oA kl oc, .slice rA nv rc]) (by rw [results_cell1 rfl]; go_simp) rfl ?_
        refine ⟨⟨_, rfl, ⟨_, _, rfl, HKS.out.keep Hk9.out (fun q e h => (Hdk.out q e).2.1 h.symm), fun b => Xn b, xs, ⟨?_, fun b hb => ?_, fun q e => (fun e2 => (Hdr.out q e).2.2 e2.symm), fun p hp => ?_⟩⟩⟩, HK.out.trans Hk9.out (fun q hq e => by have := Hg2.out; omega)⟩
        · rw [Hnv.out]
          exact row_keep HRW.out Hk9.out (fun q e h => (Hdr.out q e).2.1 h.symm)
        · have := Hlow.out b hb
          exact ⟨this.1, this.2.1, this.2.2.1, Nat.lt_of_lt_of_le this.2.2.2.1 Hk9.out.size⟩
        · rw [Hnv.out] at hp
          exact (Hnew.out p hp).keep Hk9.out (fun b _ hb e => (Hlow.out b hb).2.2.2.2.2 e) (fun _ _ h => h)
  · skip
    clear HI22 HKs Hkl Hl2 Hl3
    have c5 := (blk_cell Hb1.out 5).trans rfl
    go_wp2
    rename World => w0
    go_loopg [15] nv (fun K iv wr => ∃ (i : Nat) (xs : List Value) (Xn : Nat → Prop), iv = .int .i64 i ∧ i + K = nv ∧ Hid (wr.heap[g1]? = some (.cells #[.int .i64 k, .bool b, .int .i64 n, .string t, .slice oA kl oc, .slice rA nv rc] 25 (0, 0))) ∧ Hid (∃ cs, wr.heap[g2]? = some (.cells cs 25 (0, 0)) ∧ cs.size = 6) ∧ Hid (OwnS wr W.heap.size (.slice oA kl oc) ks) ∧ Hid (wr.ownsRow W.heap.size 25 6 (.slice rA nv rc) nv xs) ∧ Hid (∀ p, p < i → JX wr Xn (sixAt xs p) (vs.getD p default)) ∧ Hid (∀ p, i ≤ p → p < nv → sixAt xs p = .agg #[u p 0, u p 1, u p 2, u p 3, u p 4, u p 5]) ∧ Hid (∀ b, Xn b → W.heap.size ≤ b ∧ some b ≠ (Value.slice oA kl oc).ownBlock ∧ some b ≠ (Value.slice rA nv rc).ownBlock ∧ b < wr.heap.size ∧ b ≠ g1 ∧ b ≠ g2) ∧ Hid (w0.heap.size ≤ wr.heap.size) ∧ Hid (Keeps Nob W wr))
    case atStart => exact ⟨0, flat6 u nv, fun _ => False, rfl, by omega, Hb1, Hb2, HKS, HRW, Lib.hid (fun p h => absurd h (Nat.not_lt_zero _)), Lib.hid (fun p _ h => flat6_six u h), Lib.hid (fun b h => h.elim), Lib.hid (Nat.le_refl _), HK⟩
    case round =>
      obtain ⟨i, xs, Xn, rfl, hiK, Hb1, Hb2, HKS, HRW, Hnew, Hold, Hlow, Hsz, HK⟩ := hrel
      by_cases hlt : i < nv
      · obtain ⟨gr, rc', cur, he, hgr, hcur, hfit, hset⟩ := row_set HRW.out hlt
        injection he with he1 he2 he3
        subst he1; subst he3
        have hs6 := Hold.out i (Nat.le_refl _) hlt
        have hjx := (HV.out i hlt).keep HK.out (X' := fun b => b < W.heap.size) (fun _ _ _ => id) (fun _ _ h => h)
        have hsix := hjx.six
        have hcell : ∀ q, q < nv * 6 → wr.cell? ⟨gr, q, none⟩ = some (xs.getD q vz) := fun q hq => by
          obtain ⟨g', c', e, _, hc⟩ := row_cell HRW.out (k := q) hq
          injection e with e1
          injection e1 with e1
          injection e1 with e1
          subst e1
          exact hc
        have q0 := hcell (i * 6) (by omega)
        have q1 := hcell (i * 6 + 1) (by omega)
        have q2 := hcell (i * 6 + 2) (by omega)
        have q3 := hcell (i * 6 + 3) (by omega)
        have q4 := hcell (i * 6 + 4) (by omega)
        have q5 := hcell (i * 6 + 5) (by omega)
        unfold sixAt at hs6
        injection hs6 with hs6
        have t0 := congrArg (fun a : Array Value => a[0]?) hs6
        have t1 := congrArg (fun a : Array Value => a[1]?) hs6
        have t2 := congrArg (fun a : Array Value => a[2]?) hs6
        have t3 := congrArg (fun a : Array Value => a[3]?) hs6
        have t4 := congrArg (fun a : Array Value => a[4]?) hs6
        have t5 := congrArg (fun a : Array Value => a[5]?) hs6
        simp at t0 t1 t2 t3 t4 t5
        simp only [List.getD_eq_getElem?_getD] at q0 q1 q2 q3 q4 q5
        rw [t0] at q0
        rw [t1] at q1
        rw [t2] at q2
        rw [t3] at q3
        rw [t4] at q4
        rw [t5] at q5
        have Hjx := Lib.hid hjx
        clear hs6 t0 t1 t2 t3 t4 t5 hcell hjx
        generalize u i 0 = x0 at *
        generalize u i 1 = x1 at *
        generalize u i 2 = x2 at *
        generalize u i 3 = x3 at *
        generalize u i 4 = x4 at *
        generalize u i 5 = x5 at *
        obtain ⟨y0, y1, y2, y3, yA, yn, yc, yB, ym, yd, ⟨rfl, rfl, rfl⟩, rfl, rfl, rfl⟩ := hsix
        have Hcur := Lib.hid hcur
        have Hfit := Lib.hid hfit
        have Hset := Lib.hid hset
        have Hgr := Lib.hid hgr
        have c5 : wr.drew.cell? ⟨g1, 5, none⟩ = some (.slice (some ⟨gr, 0, none⟩) nv rc) := (blk_cell ((Keeps.refl Nob wr).drew.blk Hb1.out id) 5).trans rfl
        have HKd := Lib.hid (Keeps.refl Nob wr).drew
        clear hcur hfit hset hgr
        go_wp2_with fail
        refine wp_region_tree (.q 0 (.q 1 (.q 2 (.q 3 (.q 4 (.q 5 (.q 6 (.br [7] (fun k => .br [8] (fun k => .q 9 (.br [10] (fun k => .done)))))))))))) (fun w' => w'.cell? ⟨g1, 5, none⟩ = some (.slice (some ⟨gr, 0, none⟩) nv rc)) rfl (by kernel_rfl) (by kernel_rfl) (fun c a d v w h => by cases d <;> exact h) c5 ?_
        refine tree_q (v := ?v3_8) (some 18) rfl rfl rfl ?q3_8 ?h3_8; (case q3_8 => (intro w' hS; skip; first | (go_simp; done) | (go_simp; rfl))); (try simp only [PU])
        refine tree_q (v := ?v3_7) (some 19) rfl rfl rfl ?q3_7 ?h3_7; (case q3_7 => (intro w' hS; skip; first | (go_simp; done) | (go_simp; rfl))); (try simp only [PU])
        refine tree_q (v := ?v3_6) (some 20) rfl rfl rfl ?q3_6 ?h3_6; (case q3_6 => (intro w' hS; skip; first | (go_simp; done) | (go_simp; rfl))); (try simp only [PU])
        refine tree_q (v := ?v3_5) (some 21) rfl rfl rfl ?q3_5 ?h3_5; (case q3_5 => (intro w' hS; skip; first | (go_simp; done) | (go_simp; rfl))); (try simp only [PU])
        refine tree_q (v := ?v3_4) (some 22) rfl rfl rfl ?q3_4 ?h3_4; (case q3_4 => (intro w' hS; skip; first | (go_simp; done) | (go_simp; rfl))); (try simp only [PU])
        refine tree_q (v := ?v3_3) (some 23) rfl rfl rfl ?q3_3 ?h3_3; (case q3_3 => (intro w' hS; skip; first | (go_simp; done) | (go_simp; rfl))); (try simp only [PU])
        refine tree_q (v := ?v3_2) (some 24) rfl rfl rfl ?q3_2 ?h3_2; (case q3_2 => (intro w' hS; skip; first | (go_simp; done) | (go_simp; rfl))); (try simp only [PU])
        refine tree_e rfl rfl ?_
        have r0 := HKd.out.cell q0 id
        have r1 := HKd.out.cell q1 id
        have r2 := HKd.out.cell q2 id
        have r3 := HKd.out.cell q3 id
        have r4 := HKd.out.cell q4 id
        have r5 := HKd.out.cell q5 id
        go_wp2_with fail
        clear r0 r1 r2 r3 r4 r5
        refine ⟨c5, ?_⟩
        refine tree_e rfl rfl ?_
        go_wp2_with (go_at_call 59; go_must (refine (Hin.out _ i _ hlt (Hjx.out.keep HKd.out (fun _ _ _ => id) (fun _ _ h => h))).mono ?_; rintro e w7 ⟨⟨v7, rfl, ho7⟩, hk7⟩; have hv7 := ho7.val; obtain ⟨jk, jb, jn, jt, jks, jvs, jkv, jvv, hjj, rfl, hjk, hjv⟩ := hv7.open; obtain ⟨jA, jc, rfl, -⟩ := hjk; obtain ⟨jB, jd, ju, rfl, -⟩ := hjv))
        have HV7 := Lib.hid (show JX w7 (fun b => wr.heap.size ≤ b ∧ b < w7.heap.size) _ (vs.getD i default) from hv7)
        have HK7 := Lib.hid (show Keeps Nob wr w7 from HKd.out.trans hk7 (fun _ _ h => h))
        have c7 := (blk_cell (HK7.out.blk Hb1.out id) 5).trans rfl
        clear ho7 hv7 hk7 hjj
        generalize jks.length = jkl at *
        generalize jvs.length = jvl at *
        (try simp only [PU])
        refine ⟨c7, ?_⟩
        refine tree_q (v := ?v3_1) (some 27) rfl rfl rfl ?q3_1 ?h3_1; (case q3_1 => (intro w' hS; skip; first | (go_simp; done) | (go_simp; rfl))); (try simp only [PU])
        refine tree_e rfl rfl ?_
        go_must (refine ev_store (x := .agg #[.int .i64 jk, .bool jb, .int .i64 jn, .string jt, .slice jA jkl jc, .slice jB jvl jd]) (vs := [.int .i64 jk, .bool jb, .int .i64 jn, .string jt, .slice jA jkl jc, .slice jB jvl jd]) (off := i * 6) (cs' := List.toArray (cur.toList.take (i * 6) ++ ([Value.int .i64 jk, Value.bool jb, Value.int .i64 jn, Value.string jt, Value.slice jA jkl jc, Value.slice jB jvl jd] : List Value) ++ cur.toList.drop (i * 6 + 6))) rfl rfl rfl rfl rfl rfl HI.out.1.1 HI.out.1.2 rfl (HK7.out.blk Hcur.out id) Hfit.out rfl ?_; intro w8 hb8 hk8)
        (try simp only [PU])
        have Hb8 := Lib.hid hb8
        have Hk8 := Lib.hid hk8
        have Hg1r := Lib.hid (show g1 ≠ gr ∧ g2 ≠ gr ∧ (Value.slice oA kl oc).ownBlock ≠ some gr from Hdr.out gr rfl)
        have c8 := (blk_cell (hk8.blk (HK7.out.blk Hb1.out id) (Hdr.out gr rfl).1) 5).trans rfl
        clear hb8 hk8
        refine wpList_nil ⟨c8, ?_⟩
        refine tree_nil ?_
        go_wp2
        go_roundg (nv - i - 1)
        case measure => omega
        case rel => exact ⟨i + 1, setSix xs i [.int .i64 jk, .bool jb, .int .i64 jn, .string jt, .slice jA jkl jc, .slice jB jvl jd], fun b => Xn b ∨ (wr.heap.size ≤ b ∧ b < w7.heap.size), by rfl, by omega,
          Lib.hid (Hk8.out.blk (HK7.out.blk Hb1.out id) Hg1r.out.1),
          Lib.hid (by obtain ⟨cs, h1, h2⟩ := Hb2.out; exact ⟨cs, Hk8.out.blk (HK7.out.blk h1 id) Hg1r.out.2.1, h2⟩),
          Lib.hid ((HKS.out.keep HK7.out (fun _ _ => id)).keep Hk8.out (fun q e h => Hg1r.out.2.2 (by rw [e, h]))),
          Lib.hid (Hset.out w8 _ rfl Hb8.out),
          Lib.hid (fun p hp => by
            have hgl := blk_lt Hcur.out
            by_cases e : p = i
            · subst e
              rw [setSix_same HRW.out.1 hlt]
              exact HV7.out.keep Hk8.out (fun b _ hb e => by omega) (fun b _ hb => .inr hb)
            · rw [setSix_other HRW.out.1 hlt rfl e]
              exact ((Hnew.out p (by omega)).keep (X' := Xn) HK7.out (fun _ _ _ => id) (fun _ _ h => h)).keep Hk8.out (fun b _ hb e => (Hlow.out b hb).2.2.1 (by rw [e]; rfl)) (fun b _ hb => .inl hb)),
          Lib.hid (fun p hp hp2 => by
            rw [setSix_other HRW.out.1 hlt rfl (by omega)]
            exact Hold.out p (by omega) hp2),
          Lib.hid (fun b hb => by
            have h7 := HK7.out.size
            have h8 := Hk8.out.size
            have hw := HK.out.size
            rcases hb with hb | hb
            · have := Hlow.out b hb
              exact ⟨this.1, this.2.1, this.2.2.1, by omega, this.2.2.2.2.1, this.2.2.2.2.2⟩
            · have a1 := blk_lt Hcur.out
              have a2 := blk_lt Hb1.out
              obtain ⟨cs, h1, -⟩ := Hb2.out
              have a3 := blk_lt h1
              exact ⟨by omega, fun e => by have := (HKS.out.lt b e.symm).2; omega, fun e => by have e2 : b = gr := Option.some.inj e; omega, by omega, by omega, by omega⟩),
          Lib.hid (by have h7 := HK7.out.size; have h8 := Hk8.out.size; have := Hsz.out; omega),
          Lib.hid (show Keeps Nob W w8 from (HK.out.trans HK7.out (fun _ _ h => h)).trans Hk8.out (fun q hq e => by have := Hgr.out; omega))⟩
      · have hi' : nv = i := by omega
        subst hi'
        obtain ⟨cs2, hc2, hs2⟩ := id Hb2.out
        have Hc2 := Lib.hid hc2
        have Hs2 := Lib.hid hs2
        have c0 := (blk_cell Hb1.out 0).trans rfl
        have c1 := (blk_cell Hb1.out 1).trans rfl
        have c2 := (blk_cell Hb1.out 2).trans rfl
        have c3 := (blk_cell Hb1.out 3).trans rfl
        have c4 := (blk_cell Hb1.out 4).trans rfl
        have c5 := (blk_cell Hb1.out 5).trans rfl
        clear hc2 hs2
        go_wp2_with (first
          | ((with_reducible refine at_store (t := 25) rfl ?_); go_must (refine ev_store (x := .agg #[.int .i64 k, .bool b, .int .i64 n, .string t, .slice oA kl oc, .slice rA nv rc]) (vs := [.int .i64 k, .bool b, .int .i64 n, .string t, .slice oA kl oc, .slice rA nv rc]) (cs' := List.toArray (cs2.toList.take 0 ++ ([Value.int .i64 k, Value.bool b, Value.int .i64 n, Value.string t, Value.slice oA kl oc, Value.slice rA nv rc] : List Value) ++ cs2.toList.drop (0 + 6))) rfl rfl rfl rfl rfl rfl HI.out.1.1 HI.out.1.2 rfl Hc2.out (by rw [Hs2.out]; exact Nat.le_refl _) rfl ?_; intro w9 hb9 hk9)
             have Hb9 := Lib.hid hb9
             have Hk9 := Lib.hid hk9
             clear hb9 hk9
             (try simp only [PU]))
        )
        have hcs9 : List.toArray (cs2.toList.take 0 ++ ([Value.int .i64 k, Value.bool b, Value.int .i64 n, Value.string t, Value.slice oA kl oc, Value.slice rA nv rc] : List Value) ++ cs2.toList.drop (0 + 6)) = #[Value.int .i64 k, Value.bool b, Value.int .i64 n, Value.string t, Value.slice oA kl oc, Value.slice rA nv rc] := by
          rw [List.take_zero, List.drop_of_length_le (by rw [Array.length_toList, Hs2.out]; exact Nat.le_refl _)]
          rfl
        have hb9 := Hb9.out
        rw [hcs9] at hb9
        clear c0 c1 c2 c3 c4 c5
        have c0 := (blk_cell hb9 0).trans rfl
        have c1 := (blk_cell hb9 1).trans rfl
        have c2 := (blk_cell hb9 2).trans rfl
        have c3 := (blk_cell hb9 3).trans rfl
        have c4 := (blk_cell hb9 4).trans rfl
        have c5 := (blk_cell hb9 5).trans rfl
        refine bodyPost_ret (v := .agg #[.int .i64 k, .bool b, .int .i64 n, .string t, .slice oA kl oc, .slice rA nv rc]) (by rw [results_cell1 rfl]; go_simp) rfl ?_
        refine ⟨⟨_, rfl, ⟨_, _, rfl, HKS.out.keep Hk9.out (fun q e h => (Hdk.out q e).2.1 h.symm), fun b => Xn b, xs, ⟨?_, fun b hb => ?_, fun q e => (fun e2 => (Hdr.out q e).2.2 e2.symm), fun p hp => ?_⟩⟩⟩, HK.out.trans Hk9.out (fun q hq e => by have := Hg2.out; omega)⟩
        · rw [Hnv.out]
          exact row_keep HRW.out Hk9.out (fun q e h => (Hdr.out q e).2.1 h.symm)
        · have := Hlow.out b hb
          exact ⟨this.1, this.2.1, this.2.2.1, Nat.lt_of_lt_of_le this.2.2.2.1 Hk9.out.size⟩
        · rw [Hnv.out] at hp
          exact (Hnew.out p hp).keep Hk9.out (fun b _ hb e => (Hlow.out b hb).2.2.2.2.2 e) (fun _ _ h => h)
  · skip
    clear HI22 HKs Hkl Hl2 Hl3
    have c5 := (blk_cell Hb1.out 5).trans rfl
    go_wp2
    rename World => w0
    go_loopg [15] nv (fun K iv wr => ∃ (i : Nat) (xs : List Value) (Xn : Nat → Prop), iv = .int .i64 i ∧ i + K = nv ∧ Hid (wr.heap[g1]? = some (.cells #[.int .i64 k, .bool b, .int .i64 n, .string t, .slice oA kl oc, .slice rA nv rc] 25 (0, 0))) ∧ Hid (∃ cs, wr.heap[g2]? = some (.cells cs 25 (0, 0)) ∧ cs.size = 6) ∧ Hid (OwnS wr W.heap.size (.slice oA kl oc) ks) ∧ Hid (wr.ownsRow W.heap.size 25 6 (.slice rA nv rc) nv xs) ∧ Hid (∀ p, p < i → JX wr Xn (sixAt xs p) (vs.getD p default)) ∧ Hid (∀ p, i ≤ p → p < nv → sixAt xs p = .agg #[u p 0, u p 1, u p 2, u p 3, u p 4, u p 5]) ∧ Hid (∀ b, Xn b → W.heap.size ≤ b ∧ some b ≠ (Value.slice oA kl oc).ownBlock ∧ some b ≠ (Value.slice rA nv rc).ownBlock ∧ b < wr.heap.size ∧ b ≠ g1 ∧ b ≠ g2) ∧ Hid (w0.heap.size ≤ wr.heap.size) ∧ Hid (Keeps Nob W wr))
    case atStart => exact ⟨0, flat6 u nv, fun _ => False, rfl, by omega, Hb1, Hb2, HKS, HRW, Lib.hid (fun p h => absurd h (Nat.not_lt_zero _)), Lib.hid (fun p _ h => flat6_six u h), Lib.hid (fun b h => h.elim), Lib.hid (Nat.le_refl _), HK⟩
    case round =>
      obtain ⟨i, xs, Xn, rfl, hiK, Hb1, Hb2, HKS, HRW, Hnew, Hold, Hlow, Hsz, HK⟩ := hrel
      by_cases hlt : i < nv
      · obtain ⟨gr, rc', cur, he, hgr, hcur, hfit, hset⟩ := row_set HRW.out hlt
        injection he with he1 he2 he3
        subst he1; subst he3
        have hs6 := Hold.out i (Nat.le_refl _) hlt
        have hjx := (HV.out i hlt).keep HK.out (X' := fun b => b < W.heap.size) (fun _ _ _ => id) (fun _ _ h => h)
        have hsix := hjx.six
        have hcell : ∀ q, q < nv * 6 → wr.cell? ⟨gr, q, none⟩ = some (xs.getD q vz) := fun q hq => by
          obtain ⟨g', c', e, _, hc⟩ := row_cell HRW.out (k := q) hq
          injection e with e1
          injection e1 with e1
          injection e1 with e1
          subst e1
          exact hc
        have q0 := hcell (i * 6) (by omega)
        have q1 := hcell (i * 6 + 1) (by omega)
        have q2 := hcell (i * 6 + 2) (by omega)
        have q3 := hcell (i * 6 + 3) (by omega)
        have q4 := hcell (i * 6 + 4) (by omega)
        have q5 := hcell (i * 6 + 5) (by omega)
        unfold sixAt at hs6
        injection hs6 with hs6
        have t0 := congrArg (fun a : Array Value => a[0]?) hs6
        have t1 := congrArg (fun a : Array Value => a[1]?) hs6
        have t2 := congrArg (fun a : Array Value => a[2]?) hs6
        have t3 := congrArg (fun a : Array Value => a[3]?) hs6
        have t4 := congrArg (fun a : Array Value => a[4]?) hs6
        have t5 := congrArg (fun a : Array Value => a[5]?) hs6
        simp at t0 t1 t2 t3 t4 t5
        simp only [List.getD_eq_getElem?_getD] at q0 q1 q2 q3 q4 q5
        rw [t0] at q0
        rw [t1] at q1
        rw [t2] at q2
        rw [t3] at q3
        rw [t4] at q4
        rw [t5] at q5
        have Hjx := Lib.hid hjx
        clear hs6 t0 t1 t2 t3 t4 t5 hcell hjx
        generalize u i 0 = x0 at *
        generalize u i 1 = x1 at *
        generalize u i 2 = x2 at *
        generalize u i 3 = x3 at *
        generalize u i 4 = x4 at *
        generalize u i 5 = x5 at *
        obtain ⟨y0, y1, y2, y3, yA, yn, yc, yB, ym, yd, ⟨rfl, rfl, rfl⟩, rfl, rfl, rfl⟩ := hsix
        have Hcur := Lib.hid hcur
        have Hfit := Lib.hid hfit
        have Hset := Lib.hid hset
        have Hgr := Lib.hid hgr
        have c5 : wr.drew.cell? ⟨g1, 5, none⟩ = some (.slice (some ⟨gr, 0, none⟩) nv rc) := (blk_cell ((Keeps.refl Nob wr).drew.blk Hb1.out id) 5).trans rfl
        have HKd := Lib.hid (Keeps.refl Nob wr).drew
        clear hcur hfit hset hgr
        go_wp2_with fail
        refine wp_region_tree (.q 0 (.q 1 (.q 2 (.q 3 (.q 4 (.q 5 (.q 6 (.br [7] (fun k => .br [8] (fun k => .q 9 (.br [10] (fun k => .done)))))))))))) (fun w' => w'.cell? ⟨g1, 5, none⟩ = some (.slice (some ⟨gr, 0, none⟩) nv rc)) rfl (by kernel_rfl) (by kernel_rfl) (fun c a d v w h => by cases d <;> exact h) c5 ?_
        refine tree_q (v := ?v4_8) (some 18) rfl rfl rfl ?q4_8 ?h4_8; (case q4_8 => (intro w' hS; skip; first | (go_simp; done) | (go_simp; rfl))); (try simp only [PU])
        refine tree_q (v := ?v4_7) (some 19) rfl rfl rfl ?q4_7 ?h4_7; (case q4_7 => (intro w' hS; skip; first | (go_simp; done) | (go_simp; rfl))); (try simp only [PU])
        refine tree_q (v := ?v4_6) (some 20) rfl rfl rfl ?q4_6 ?h4_6; (case q4_6 => (intro w' hS; skip; first | (go_simp; done) | (go_simp; rfl))); (try simp only [PU])
        refine tree_q (v := ?v4_5) (some 21) rfl rfl rfl ?q4_5 ?h4_5; (case q4_5 => (intro w' hS; skip; first | (go_simp; done) | (go_simp; rfl))); (try simp only [PU])
        refine tree_q (v := ?v4_4) (some 22) rfl rfl rfl ?q4_4 ?h4_4; (case q4_4 => (intro w' hS; skip; first | (go_simp; done) | (go_simp; rfl))); (try simp only [PU])
        refine tree_q (v := ?v4_3) (some 23) rfl rfl rfl ?q4_3 ?h4_3; (case q4_3 => (intro w' hS; skip; first | (go_simp; done) | (go_simp; rfl))); (try simp only [PU])
        refine tree_q (v := ?v4_2) (some 24) rfl rfl rfl ?q4_2 ?h4_2; (case q4_2 => (intro w' hS; skip; first | (go_simp; done) | (go_simp; rfl))); (try simp only [PU])
        refine tree_e rfl rfl ?_
        have r0 := HKd.out.cell q0 id
        have r1 := HKd.out.cell q1 id
        have r2 := HKd.out.cell q2 id
        have r3 := HKd.out.cell q3 id
        have r4 := HKd.out.cell q4 id
        have r5 := HKd.out.cell q5 id
        go_wp2_with fail
        clear r0 r1 r2 r3 r4 r5
        refine ⟨c5, ?_⟩
        refine tree_e rfl rfl ?_
        go_wp2_with (go_at_call 59; go_must (refine (Hin.out _ i _ hlt (Hjx.out.keep HKd.out (fun _ _ _ => id) (fun _ _ h => h))).mono ?_; rintro e w7 ⟨⟨v7, rfl, ho7⟩, hk7⟩; have hv7 := ho7.val; obtain ⟨jk, jb, jn, jt, jks, jvs, jkv, jvv, hjj, rfl, hjk, hjv⟩ := hv7.open; obtain ⟨jA, jc, rfl, -⟩ := hjk; obtain ⟨jB, jd, ju, rfl, -⟩ := hjv))
        have HV7 := Lib.hid (show JX w7 (fun b => wr.heap.size ≤ b ∧ b < w7.heap.size) _ (vs.getD i default) from hv7)
        have HK7 := Lib.hid (show Keeps Nob wr w7 from HKd.out.trans hk7 (fun _ _ h => h))
        have c7 := (blk_cell (HK7.out.blk Hb1.out id) 5).trans rfl
        clear ho7 hv7 hk7 hjj
        generalize jks.length = jkl at *
        generalize jvs.length = jvl at *
        (try simp only [PU])
        refine ⟨c7, ?_⟩
        refine tree_q (v := ?v4_1) (some 27) rfl rfl rfl ?q4_1 ?h4_1; (case q4_1 => (intro w' hS; skip; first | (go_simp; done) | (go_simp; rfl))); (try simp only [PU])
        refine tree_e rfl rfl ?_
        go_must (refine ev_store (x := .agg #[.int .i64 jk, .bool jb, .int .i64 jn, .string jt, .slice jA jkl jc, .slice jB jvl jd]) (vs := [.int .i64 jk, .bool jb, .int .i64 jn, .string jt, .slice jA jkl jc, .slice jB jvl jd]) (off := i * 6) (cs' := List.toArray (cur.toList.take (i * 6) ++ ([Value.int .i64 jk, Value.bool jb, Value.int .i64 jn, Value.string jt, Value.slice jA jkl jc, Value.slice jB jvl jd] : List Value) ++ cur.toList.drop (i * 6 + 6))) rfl rfl rfl rfl rfl rfl HI.out.1.1 HI.out.1.2 rfl (HK7.out.blk Hcur.out id) Hfit.out rfl ?_; intro w8 hb8 hk8)
        (try simp only [PU])
        have Hb8 := Lib.hid hb8
        have Hk8 := Lib.hid hk8
        have Hg1r := Lib.hid (show g1 ≠ gr ∧ g2 ≠ gr ∧ (Value.slice oA kl oc).ownBlock ≠ some gr from Hdr.out gr rfl)
        have c8 := (blk_cell (hk8.blk (HK7.out.blk Hb1.out id) (Hdr.out gr rfl).1) 5).trans rfl
        clear hb8 hk8
        refine wpList_nil ⟨c8, ?_⟩
        refine tree_nil ?_
        go_wp2
        go_roundg (nv - i - 1)
        case measure => omega
        case rel => exact ⟨i + 1, setSix xs i [.int .i64 jk, .bool jb, .int .i64 jn, .string jt, .slice jA jkl jc, .slice jB jvl jd], fun b => Xn b ∨ (wr.heap.size ≤ b ∧ b < w7.heap.size), by rfl, by omega,
          Lib.hid (Hk8.out.blk (HK7.out.blk Hb1.out id) Hg1r.out.1),
          Lib.hid (by obtain ⟨cs, h1, h2⟩ := Hb2.out; exact ⟨cs, Hk8.out.blk (HK7.out.blk h1 id) Hg1r.out.2.1, h2⟩),
          Lib.hid ((HKS.out.keep HK7.out (fun _ _ => id)).keep Hk8.out (fun q e h => Hg1r.out.2.2 (by rw [e, h]))),
          Lib.hid (Hset.out w8 _ rfl Hb8.out),
          Lib.hid (fun p hp => by
            have hgl := blk_lt Hcur.out
            by_cases e : p = i
            · subst e
              rw [setSix_same HRW.out.1 hlt]
              exact HV7.out.keep Hk8.out (fun b _ hb e => by omega) (fun b _ hb => .inr hb)
            · rw [setSix_other HRW.out.1 hlt rfl e]
              exact ((Hnew.out p (by omega)).keep (X' := Xn) HK7.out (fun _ _ _ => id) (fun _ _ h => h)).keep Hk8.out (fun b _ hb e => (Hlow.out b hb).2.2.1 (by rw [e]; rfl)) (fun b _ hb => .inl hb)),
          Lib.hid (fun p hp hp2 => by
            rw [setSix_other HRW.out.1 hlt rfl (by omega)]
            exact Hold.out p (by omega) hp2),
          Lib.hid (fun b hb => by
            have h7 := HK7.out.size
            have h8 := Hk8.out.size
            have hw := HK.out.size
            rcases hb with hb | hb
            · have := Hlow.out b hb
              exact ⟨this.1, this.2.1, this.2.2.1, by omega, this.2.2.2.2.1, this.2.2.2.2.2⟩
            · have a1 := blk_lt Hcur.out
              have a2 := blk_lt Hb1.out
              obtain ⟨cs, h1, -⟩ := Hb2.out
              have a3 := blk_lt h1
              exact ⟨by omega, fun e => by have := (HKS.out.lt b e.symm).2; omega, fun e => by have e2 : b = gr := Option.some.inj e; omega, by omega, by omega, by omega⟩),
          Lib.hid (by have h7 := HK7.out.size; have h8 := Hk8.out.size; have := Hsz.out; omega),
          Lib.hid (show Keeps Nob W w8 from (HK.out.trans HK7.out (fun _ _ h => h)).trans Hk8.out (fun q hq e => by have := Hgr.out; omega))⟩
      · have hi' : nv = i := by omega
        subst hi'
        obtain ⟨cs2, hc2, hs2⟩ := id Hb2.out
        have Hc2 := Lib.hid hc2
        have Hs2 := Lib.hid hs2
        have c0 := (blk_cell Hb1.out 0).trans rfl
        have c1 := (blk_cell Hb1.out 1).trans rfl
        have c2 := (blk_cell Hb1.out 2).trans rfl
        have c3 := (blk_cell Hb1.out 3).trans rfl
        have c4 := (blk_cell Hb1.out 4).trans rfl
        have c5 := (blk_cell Hb1.out 5).trans rfl
        clear hc2 hs2
        go_wp2_with (first
          | ((with_reducible refine at_store (t := 25) rfl ?_); go_must (refine ev_store (x := .agg #[.int .i64 k, .bool b, .int .i64 n, .string t, .slice oA kl oc, .slice rA nv rc]) (vs := [.int .i64 k, .bool b, .int .i64 n, .string t, .slice oA kl oc, .slice rA nv rc]) (cs' := List.toArray (cs2.toList.take 0 ++ ([Value.int .i64 k, Value.bool b, Value.int .i64 n, Value.string t, Value.slice oA kl oc, Value.slice rA nv rc] : List Value) ++ cs2.toList.drop (0 + 6))) rfl rfl rfl rfl rfl rfl HI.out.1.1 HI.out.1.2 rfl Hc2.out (by rw [Hs2.out]; exact Nat.le_refl _) rfl ?_; intro w9 hb9 hk9)
             have Hb9 := Lib.hid hb9
             have Hk9 := Lib.hid hk9
             clear hb9 hk9
             (try simp only [PU]))
        )
        have hcs9 : List.toArray (cs2.toList.take 0 ++ ([Value.int .i64 k, Value.bool b, Value.int .i64 n, Value.string t, Value.slice oA kl oc, Value.slice rA nv rc] : List Value) ++ cs2.toList.drop (0 + 6)) = #[Value.int .i64 k, Value.bool b, Value.int .i64 n, Value.string t, Value.slice oA kl oc, Value.slice rA nv rc] := by
          rw [List.take_zero, List.drop_of_length_le (by rw [Array.length_toList, Hs2.out]; exact Nat.le_refl _)]
          rfl
        have hb9 := Hb9.out
        rw [hcs9] at hb9
        clear c0 c1 c2 c3 c4 c5
        have c0 := (blk_cell hb9 0).trans rfl
        have c1 := (blk_cell hb9 1).trans rfl
        have c2 := (blk_cell hb9 2).trans rfl
        have c3 := (blk_cell hb9 3).trans rfl
        have c4 := (blk_cell hb9 4).trans rfl
        have c5 := (blk_cell hb9 5).trans rfl
        refine bodyPost_ret (v := .agg #[.int .i64 k, .bool b, .int .i64 n, .string t, .slice oA kl oc, .slice rA nv rc]) (by rw [results_cell1 rfl]; go_simp) rfl ?_
        refine ⟨⟨_, rfl, ⟨_, _, rfl, HKS.out.keep Hk9.out (fun q e h => (Hdk.out q e).2.1 h.symm), fun b => Xn b, xs, ⟨?_, fun b hb => ?_, fun q e => (fun e2 => (Hdr.out q e).2.2 e2.symm), fun p hp => ?_⟩⟩⟩, HK.out.trans Hk9.out (fun q hq e => by have := Hg2.out; omega)⟩
        · rw [Hnv.out]
          exact row_keep HRW.out Hk9.out (fun q e h => (Hdr.out q e).2.1 h.symm)
        · have := Hlow.out b hb
          exact ⟨this.1, this.2.1, this.2.2.1, Nat.lt_of_lt_of_le this.2.2.2.1 Hk9.out.size⟩
        · rw [Hnv.out] at hp
          exact (Hnew.out p hp).keep Hk9.out (fun b _ hb e => (Hlow.out b hb).2.2.2.2.2 e) (fun _ _ h => h)
theorem own59 (W : World) (X : Nat → Prop) (v : Value) (j : J) (h : JX W X v j) (hsz : sizeJ j ≤ 1000000000) : Calls Tryd.prog 59 #[v] W (OwnEnd W j) := by
  have all : ∀ lv (W : World) (X : Nat → Prop) (v : Value) (j : J), JX W X v j → levelsJ j < lv → sizeJ j ≤ 1000000000 → Calls Tryd.prog 59 #[v] W (OwnEnd W j) := by
    intro lv
    induction lv with
    | zero => intro W X v j _ h; omega
    | succ lv ih => exact own_step ih
  exact all (levelsJ j + 1) W X v j h (Nat.lt_succ_self _) hsz
end Go.Proofs.WV

/-
  Get, by the program, in memory. Condition: the value is not larger than a thousand million; the standard library's table of powers lies.
-/
namespace Go.Proofs.WV
open Go.RowKit Go.Proofs.KL Go.Proofs.WM
set_option maxRecDepth 100000
set_option linter.unusedSimpArgs false
set_option linter.unusedVariables false

/-- What Get comes to. -/
def getJ : J → ByteArray → J × Int
  | .mk k b n t ks vs, key => if checkJ (.mk k b n t ks vs) ≠ 0 then (zJ, checkJ (.mk k b n t ks vs)) else if k ≠ 6 then (zJ, 2) else match idxK key ks with
    | none => (zJ, 5)
    | some i => (vs.getD i default, 0)
def GetEnd (W : World) (R : J × Int) (e : Ending) (w' : World) : Prop := (∃ v, e = .returned (.tuple #[v, .int .i64 R.2]) ∧ JX w' (fun b => W.heap.size ≤ b ∧ b < w'.heap.size) v R.1) ∧ Keeps Nob W w'
theorem results_ct {fn : Func} {p q : Tmp} {t : TypeId} (h : fn.results = #[.cell p t, .tmp q]) (tmps : Array Value) {P : Program} (w : World) {x y : Value} {a : Addr} (ha : tmps[p]?.getD undef = .pointer (some a)) (hp : (loadVar t a).run P w = .ok x w) (hq : tmps[q]?.getD undef = y) :
    (results fn tmps).run P w = .ok (.tuple #[x, y]) w := by
  have e : ∀ (a : Addr) (w : World), (asAddr (.pointer (some a))).run P w = .ok a w := fun _ _ => rfl
  simp [results, h, ha, hq, e, hp, Result.andThen]
theorem zval {W : World} {X : Nat → Prop} : JX W X (.agg #[.int .i64 0, .bool false, .int .i64 0, .string ByteArray.empty, .slice none 0 0, .slice none 0 0]) zJ := JX.close (strs_nil _ _) (js_nil _ _)
theorem check_formed {j : J} (h : checkJ j = 0) : formedJ j = true := by
  unfold checkJ at h
  by_cases hf : formedJ j = false
  · rw [if_pos hf] at h; cases h
  · cases hfj : formedJ j
    · exact absurd hfj hf
    · rfl
theorem formed_len {k : Int} {b : Bool} {n : Int} {t : ByteArray} {ks : List ByteArray} {vs : List J} (h : formedJ (.mk k b n t ks vs) = true) (hk : k = 6) : ks.length = vs.length := by
  unfold formedJ at h
  simp only [fineJ, Bool.and_eq_true, Bool.or_eq_true, decide_eq_true_eq, Bool.not_eq_true', decide_eq_false_iff_not] at h
  obtain ⟨⟨⟨⟨⟨⟨⟨⟨⟨⟨h1, h2⟩, hb⟩, hn⟩, ht⟩, hks⟩, hvs⟩, hr⟩, hlen⟩, hnd⟩, hfl⟩ := h
  rcases hlen with h | h
  · exact absurd hk h
  · exact h
set_option maxHeartbeats 8000000 in
theorem get30 {W : World} {X : Nat → Prop} {v : Value} {j : J} {key : ByteArray} (h : JX W X v j) (ht : Tab W W.heap.size) (hsz : sizeJ j ≤ 1000000000) : Calls Tryd.prog 30 #[v, .string key] W (GetEnd W (getJ j key)) := by
  obtain ⟨k, b, n, t, ks, vs, kv, vv, rfl, rfl, hks, hvs⟩ := h.open
  obtain ⟨kA, kc, rfl, -⟩ := id hks
  obtain ⟨vA, vc, u, rfl, hvc, hA, hv⟩ := id hvs
  have hkl : ks.length ≤ 1000000000 := by unfold sizeJ at hsz; omega
  have hvl : vs.length ≤ 1000000000 := by have := size_len vs; unfold sizeJ at hsz; omega
  obtain ⟨kl, hkn⟩ : ∃ x, ks.length = x := ⟨_, rfl⟩
  obtain ⟨nv, hnv⟩ : ∃ x, vs.length = x := ⟨_, rfl⟩
  obtain ⟨z, hz⟩ : ∃ z, checkJ (.mk k b n t ks vs) = z := ⟨_, rfl⟩
  have hg : getJ (.mk k b n t ks vs) key = if z ≠ 0 then (zJ, z) else if k ≠ 6 then (zJ, 2) else match idxK key ks with | none => (zJ, 5) | some i => (vs.getD i default, 0) := by rw [← hz]; rfl
  rw [hg]
  have Hsz := Lib.hid (show sizeJ (.mk k b n t ks vs) ≤ 1000000000 ∧ sizeJ (.mk k b n t ks vs) ≤ 10000000000 from ⟨hsz, by omega⟩)
  have Hz := Lib.hid hz
  have Hx := Lib.hid (h.keep (X' := fun b => b < W.heap.size) (Keeps.refl Nob W) (fun _ _ _ => id) (fun b h _ => h))
  have Hks := Lib.hid (hks.keep (X' := fun b => b < W.heap.size) (Keeps.refl Nob W) (fun _ _ _ => id) (fun b h _ => h))
  have HA := Lib.hid (show ∀ i, i < vs.length → ∃ b o, vA = some ⟨b, o, none⟩ ∧ b < W.heap.size ∧ Six W b (o + i * 6) (u i 0) (u i 1) (u i 2) (u i 3) (u i 4) (u i 5) from fun i hi => by
      obtain ⟨b, o, e, _, h6⟩ := hA i hi
      exact ⟨b, o, e, h6.lt, h6⟩)
  have HV := Lib.hid (show ∀ i, i < vs.length → JX W (fun b => b < W.heap.size) (.agg #[u i 0, u i 1, u i 2, u i 3, u i 4, u i 5]) (vs.getD i default) from fun i hi => (hv i hi).keep (Keeps.refl Nob W) (fun _ _ _ => id) (fun b h _ => h))
  have Hkn := Lib.hid (And.intro hkn hnv)
  rw [hkn] at Hks Hx
  rw [hnv] at Hx HA HV
  have hkli : (kl : Int) ≤ 1000000000 := by omega
  have hnvi : (nv : Int) ≤ 1000000000 := by omega
  have Hkl := Lib.hid (show kl ≤ 1000000000 by omega)
  have HT := Lib.hid ht
  obtain ⟨i25, hi25, hs25⟩ := info25
  have HI := Lib.hid (And.intro hi25 hs25)
  rw [hkn, hnv]
  clear hks hvs hA hv hsz h hi25 hs25 hkl hvl hvc hz hg ht
  by_cases hz0 : z = 0
  · subst hz0
    rw [if_neg (by simp)]
    by_cases hk6 : k = 6
    · rw [if_neg (by simp [hk6])]
      have Hlen := Lib.hid (formed_len (check_formed Hz.out) hk6)
      subst hk6
      rcases hid : idxK key ks with _ | i
      · have Hid2 := Lib.hid (show idxI (idxK key ks) = -1 by rw [hid]; rfl)
        clear hid hkn hnv
        go_enter Tryd.func30, Tryd.ntmps30
        go_wp2_with (first
          | ((with_reducible refine at_dst (N := 2) rfl ?_); go_must (refine ev_box (cs := #[.int .i64 6, .bool b, .int .i64 n, .string t, .slice kA kl kc, .slice vA nv vc]) rfl rfl rfl ?_; intro g1 w1 hg1 hl1 hb1 hk1)
             have Hb1 := Lib.hid hb1
             have Hg1 := Lib.hid (And.intro hg1 hl1)
             have HK := Lib.hid hk1
             (try clear c0 c1 c2 c3 c4 c5)
             have c0 := (blk_cell Hb1.out 0).trans rfl
             have c1 := (blk_cell Hb1.out 1).trans rfl
             have c2 := (blk_cell Hb1.out 2).trans rfl
             have c3 := (blk_cell Hb1.out 3).trans rfl
             have c4 := (blk_cell Hb1.out 4).trans rfl
             have c5 := (blk_cell Hb1.out 5).trans rfl
             clear hg1 hl1 hb1 hk1
             (try simp only [PU]))
          | ((with_reducible refine at_dst (N := 4) rfl ?_); go_must (refine ev_alloc rfl rfl zero25 rfl ?_; intro g2 w2 hg2 hl2 hb2 hk2)
             have Hb1 := Lib.hid (hk2.blk Hb1.out id)
             have Hb2 := Lib.hid hb2
             have Hg2 := Lib.hid (show W.heap.size ≤ g1 ∧ W.heap.size ≤ g2 ∧ g1 < g2 ∧ g2 < w2.heap.size from ⟨Hg1.out.1, Nat.le_trans HK.out.size hg2, Nat.lt_of_lt_of_le Hg1.out.2 hg2, hl2⟩)
             have HK := Lib.hid (HK.out.trans hk2 (fun _ _ h => h))
             (try clear c0 c1 c2 c3 c4 c5)
             have c0 := (blk_cell Hb1.out 0).trans rfl
             have c1 := (blk_cell Hb1.out 1).trans rfl
             have c2 := (blk_cell Hb1.out 2).trans rfl
             have c3 := (blk_cell Hb1.out 3).trans rfl
             have c4 := (blk_cell Hb1.out 4).trans rfl
             have c5 := (blk_cell Hb1.out 5).trans rfl
             clear hg2 hl2 hb2 hk2
             (try simp only [PU]))
          | (go_at_call 16; go_must (refine (check16 (Hx.out.after HK.out) (Tab.up (HT.out.keep HK.out.any) HK.out.size) Hsz.out.2).mono ?_; rintro e w3 ⟨rfl, hk3⟩; rw [Hz.out])
             have Hb1 := Lib.hid (hk3.blk Hb1.out id)
             have Hb2 := Lib.hid (hk3.blk Hb2.out id)
             have HK := Lib.hid (HK.out.trans hk3 (fun _ _ h => h))
             (try clear c0 c1 c2 c3 c4 c5)
             have c0 := (blk_cell Hb1.out 0).trans rfl
             have c1 := (blk_cell Hb1.out 1).trans rfl
             have c2 := (blk_cell Hb1.out 2).trans rfl
             have c3 := (blk_cell Hb1.out 3).trans rfl
             have c4 := (blk_cell Hb1.out 4).trans rfl
             have c5 := (blk_cell Hb1.out 5).trans rfl
             clear hk3
             (try simp only [PU]))
          | (go_at_call 58; go_must (refine (index58 (Hks.out.after HK.out) Hkl.out).mono ?_; rintro e w4 ⟨rfl, rfl⟩; rw [Hid2.out]); (try simp only [PU]))
          | ((with_reducible refine at_store (t := 25) (p := 4) rfl ?_); go_must (refine ev_store (cs' := #[.int .i64 0, .bool false, .int .i64 0, .string ByteArray.empty, .slice none 0 0, .slice none 0 0]) rfl rfl rfl rfl rfl rfl HI.out.1 HI.out.2 rfl Hb2.out (Nat.le_of_ble_eq_true rfl) rfl ?_; intro w9 hb9 hk9)
             have Hb9 := Lib.hid hb9
             have HK9 := Lib.hid (show Keeps Nob W w9 from HK.out.trans hk9 (fun i hi e => by have := Hg2.out; omega))
             clear hb9 hk9 c0 c1 c2 c3 c4 c5
             have d0 := (blk_cell Hb9.out 0).trans rfl
             have d1 := (blk_cell Hb9.out 1).trans rfl
             have d2 := (blk_cell Hb9.out 2).trans rfl
             have d3 := (blk_cell Hb9.out 3).trans rfl
             have d4 := (blk_cell Hb9.out 4).trans rfl
             have d5 := (blk_cell Hb9.out 5).trans rfl
             (try simp only [PU]))
        )
        refine bodyPost_ret (results_ct (x := .agg #[.int .i64 0, .bool false, .int .i64 0, .string ByteArray.empty, .slice none 0 0, .slice none 0 0]) rfl _ _ rfl (by go_simp) rfl) rfl ?_
        (try rw [show (match (none : Option Nat) with | none => (zJ, 5) | some i => (vs.getD i default, 0)) = ((zJ, 5) : J × Int) from rfl])
        exact ⟨⟨_, rfl, zval⟩, HK9.out⟩
      · have Hid2 := Lib.hid (show idxI (idxK key ks) = (i : Int) by rw [hid]; rfl)
        have hin : i < nv := by rw [← hnv, ← Hlen.out]; exact (idxK_some hid).1
        obtain ⟨bv, ov, rfl, -, h6⟩ := HA.out i hin
        have hjx := HV.out i hin
        have hsix := hjx.six
        have Hjs := Lib.hid (show sizeJ (vs.getD i default) ≤ 1000000000 by
          have := size_get (vs := vs) (i := i) (by omega)
          have h2 := Hsz.out.1
          unfold sizeJ at h2
          omega)
        have hini : (i : Int) < (nv : Int) := by omega
        generalize u i 0 = x0 at *
        generalize u i 1 = x1 at *
        generalize u i 2 = x2 at *
        generalize u i 3 = x3 at *
        generalize u i 4 = x4 at *
        generalize u i 5 = x5 at *
        obtain ⟨y0, y1, y2, y3, yA, yn, yc, yB, ym, yd, ⟨rfl, rfl, rfl⟩, rfl, rfl, rfl⟩ := hsix
        have H6 := Lib.hid h6
        have Hjx := Lib.hid hjx
        obtain ⟨vj, hvj⟩ : ∃ y, vs.getD i default = y := ⟨_, rfl⟩
        rw [hvj] at Hjx Hjs
        have Hvj := Lib.hid hvj
        clear hvj
        clear hid hkn hnv h6 hjx
        go_enter Tryd.func30, Tryd.ntmps30
        go_upto_region 9 with (first
          | ((with_reducible refine at_dst (N := 2) rfl ?_); go_must (refine ev_box (cs := #[.int .i64 6, .bool b, .int .i64 n, .string t, .slice kA kl kc, .slice (some ⟨bv, ov, none⟩) nv vc]) rfl rfl rfl ?_; intro g1 w1 hg1 hl1 hb1 hk1)
             have Hb1 := Lib.hid hb1
             have Hg1 := Lib.hid (And.intro hg1 hl1)
             have HK := Lib.hid hk1
             (try clear c0 c1 c2 c3 c4 c5)
             have c0 := (blk_cell Hb1.out 0).trans rfl
             have c1 := (blk_cell Hb1.out 1).trans rfl
             have c2 := (blk_cell Hb1.out 2).trans rfl
             have c3 := (blk_cell Hb1.out 3).trans rfl
             have c4 := (blk_cell Hb1.out 4).trans rfl
             have c5 := (blk_cell Hb1.out 5).trans rfl
             clear hg1 hl1 hb1 hk1
             (try simp only [PU]))
          | ((with_reducible refine at_dst (N := 4) rfl ?_); go_must (refine ev_alloc rfl rfl zero25 rfl ?_; intro g2 w2 hg2 hl2 hb2 hk2)
             have Hb1 := Lib.hid (hk2.blk Hb1.out id)
             have Hb2 := Lib.hid hb2
             have Hg2 := Lib.hid (show W.heap.size ≤ g1 ∧ W.heap.size ≤ g2 ∧ g1 < g2 ∧ g2 < w2.heap.size from ⟨Hg1.out.1, Nat.le_trans HK.out.size hg2, Nat.lt_of_lt_of_le Hg1.out.2 hg2, hl2⟩)
             have HK := Lib.hid (HK.out.trans hk2 (fun _ _ h => h))
             (try clear c0 c1 c2 c3 c4 c5)
             have c0 := (blk_cell Hb1.out 0).trans rfl
             have c1 := (blk_cell Hb1.out 1).trans rfl
             have c2 := (blk_cell Hb1.out 2).trans rfl
             have c3 := (blk_cell Hb1.out 3).trans rfl
             have c4 := (blk_cell Hb1.out 4).trans rfl
             have c5 := (blk_cell Hb1.out 5).trans rfl
             clear hg2 hl2 hb2 hk2
             (try simp only [PU]))
          | (go_at_call 16; go_must (refine (check16 (Hx.out.after HK.out) (Tab.up (HT.out.keep HK.out.any) HK.out.size) Hsz.out.2).mono ?_; rintro e w3 ⟨rfl, hk3⟩; rw [Hz.out])
             have Hb1 := Lib.hid (hk3.blk Hb1.out id)
             have Hb2 := Lib.hid (hk3.blk Hb2.out id)
             have HK := Lib.hid (HK.out.trans hk3 (fun _ _ h => h))
             (try clear c0 c1 c2 c3 c4 c5)
             have c0 := (blk_cell Hb1.out 0).trans rfl
             have c1 := (blk_cell Hb1.out 1).trans rfl
             have c2 := (blk_cell Hb1.out 2).trans rfl
             have c3 := (blk_cell Hb1.out 3).trans rfl
             have c4 := (blk_cell Hb1.out 4).trans rfl
             have c5 := (blk_cell Hb1.out 5).trans rfl
             clear hk3
             (try simp only [PU]))
          | (go_at_call 58; go_must (refine (index58 (Hks.out.after HK.out) Hkl.out).mono ?_; rintro e w4 ⟨rfl, rfl⟩; rw [Hid2.out]); (try simp only [PU]))
        )
        obtain ⟨⟨e0, e1, e2⟩, e3, e4, e5⟩ := H6.out.keep HK.out id
        clear c0 c1 c2 c3 c4
        go_wp2_with (first
          | (go_at_call 59; go_must (refine (own59 _ _ _ _ (Hjx.out.after HK.out) Hjs.out).mono ?_; rintro e w5 ⟨⟨v5, rfl, ho5⟩, hk5⟩; have hv5 := ho5.val; obtain ⟨jk, jb, jn, jt, jks, jvs, jkv, jvv, hjj, rfl, hjk, hjv⟩ := hv5.open; obtain ⟨jA, jc, rfl, -⟩ := hjk; obtain ⟨jB, jd, ju, rfl, -⟩ := hjv)
             have hsz4 := HK.out.size
             have HV5 := Lib.hid (hv5.keep (X' := fun b => W.heap.size ≤ b ∧ b < w5.heap.size ∧ b ≠ g2) (Keeps.refl Nob w5) (fun _ _ _ => id) (fun b hb hx => ⟨Nat.le_trans hsz4 hx.1, hb, fun e => by have h1 := blk_lt Hb2.out; have h2 := hx.1; omega⟩))
             have Hb2 := Lib.hid (hk5.blk Hb2.out id)
             have HK := Lib.hid (HK.out.trans hk5 (fun _ _ h => h))
             clear ho5 hv5 hk5 hjj hsz4 e0 e1 e2 e3 e4 e5 c5
             generalize jks.length = jkl at *
             generalize jvs.length = jvl at *
             (try simp only [PU]))
          | ((with_reducible refine at_store (t := 25) (p := 4) rfl ?_); go_must (refine ev_store (cs' := #[.int .i64 jk, .bool jb, .int .i64 jn, .string jt, .slice jA jkl jc, .slice jB jvl jd]) rfl rfl rfl rfl rfl rfl HI.out.1 HI.out.2 rfl Hb2.out (Nat.le_of_ble_eq_true rfl) rfl ?_; intro w9 hb9 hk9)
             have Hb9 := Lib.hid hb9
             have HV9 := Lib.hid (HV5.out.keep (X' := fun b => W.heap.size ≤ b ∧ b < w9.heap.size) hk9 (fun b _ hb e => hb.2.2 e) (fun b _ hb => ⟨hb.1, Nat.lt_of_lt_of_le hb.2.1 hk9.size⟩))
             have HK9 := Lib.hid (show Keeps Nob W w9 from HK.out.trans hk9 (fun i hi e => by have := Hg2.out; omega))
             clear hb9 hk9
             have d0 := (blk_cell Hb9.out 0).trans rfl
             have d1 := (blk_cell Hb9.out 1).trans rfl
             have d2 := (blk_cell Hb9.out 2).trans rfl
             have d3 := (blk_cell Hb9.out 3).trans rfl
             have d4 := (blk_cell Hb9.out 4).trans rfl
             have d5 := (blk_cell Hb9.out 5).trans rfl
             (try simp only [PU]))
        )
        refine bodyPost_ret (results_ct (x := .agg #[.int .i64 jk, .bool jb, .int .i64 jn, .string jt, .slice jA jkl jc, .slice jB jvl jd]) rfl _ _ rfl (by go_simp) rfl) rfl ?_
        exact ⟨⟨_, rfl, by show JX w9 _ _ (vs.getD i default); rw [Hvj.out]; exact HV9.out⟩, HK9.out⟩
    · rw [if_pos (by simpa using hk6)]
      have hk6b : (k == 6) = false := beq_eq_false_iff_ne.2 hk6
      clear hkn hnv
      go_enter Tryd.func30, Tryd.ntmps30
      go_wp2_with (first
        | ((with_reducible refine at_dst (N := 2) rfl ?_); go_must (refine ev_box (cs := #[.int .i64 k, .bool b, .int .i64 n, .string t, .slice kA kl kc, .slice vA nv vc]) rfl rfl rfl ?_; intro g1 w1 hg1 hl1 hb1 hk1)
           have Hb1 := Lib.hid hb1
           have Hg1 := Lib.hid (And.intro hg1 hl1)
           have HK := Lib.hid hk1
           (try clear c0 c1 c2 c3 c4 c5)
           have c0 := (blk_cell Hb1.out 0).trans rfl
           have c1 := (blk_cell Hb1.out 1).trans rfl
           have c2 := (blk_cell Hb1.out 2).trans rfl
           have c3 := (blk_cell Hb1.out 3).trans rfl
           have c4 := (blk_cell Hb1.out 4).trans rfl
           have c5 := (blk_cell Hb1.out 5).trans rfl
           clear hg1 hl1 hb1 hk1
           (try simp only [PU]))
        | ((with_reducible refine at_dst (N := 4) rfl ?_); go_must (refine ev_alloc rfl rfl zero25 rfl ?_; intro g2 w2 hg2 hl2 hb2 hk2)
           have Hb1 := Lib.hid (hk2.blk Hb1.out id)
           have Hb2 := Lib.hid hb2
           have Hg2 := Lib.hid (show W.heap.size ≤ g1 ∧ W.heap.size ≤ g2 ∧ g1 < g2 ∧ g2 < w2.heap.size from ⟨Hg1.out.1, Nat.le_trans HK.out.size hg2, Nat.lt_of_lt_of_le Hg1.out.2 hg2, hl2⟩)
           have HK := Lib.hid (HK.out.trans hk2 (fun _ _ h => h))
           (try clear c0 c1 c2 c3 c4 c5)
           have c0 := (blk_cell Hb1.out 0).trans rfl
           have c1 := (blk_cell Hb1.out 1).trans rfl
           have c2 := (blk_cell Hb1.out 2).trans rfl
           have c3 := (blk_cell Hb1.out 3).trans rfl
           have c4 := (blk_cell Hb1.out 4).trans rfl
           have c5 := (blk_cell Hb1.out 5).trans rfl
           clear hg2 hl2 hb2 hk2
           (try simp only [PU]))
        | (go_at_call 16; go_must (refine (check16 (Hx.out.after HK.out) (Tab.up (HT.out.keep HK.out.any) HK.out.size) Hsz.out.2).mono ?_; rintro e w3 ⟨rfl, hk3⟩; rw [Hz.out])
           have Hb1 := Lib.hid (hk3.blk Hb1.out id)
           have Hb2 := Lib.hid (hk3.blk Hb2.out id)
           have HK := Lib.hid (HK.out.trans hk3 (fun _ _ h => h))
           (try clear c0 c1 c2 c3 c4 c5)
           have c0 := (blk_cell Hb1.out 0).trans rfl
           have c1 := (blk_cell Hb1.out 1).trans rfl
           have c2 := (blk_cell Hb1.out 2).trans rfl
           have c3 := (blk_cell Hb1.out 3).trans rfl
           have c4 := (blk_cell Hb1.out 4).trans rfl
           have c5 := (blk_cell Hb1.out 5).trans rfl
           clear hk3
           (try simp only [PU]))
        | (go_at_call 58; go_must (refine (index58 (Hks.out.after HK.out) Hkl.out).mono ?_; rintro e w4 ⟨rfl, rfl⟩; rw [Hid2.out]); (try simp only [PU]))
        | ((with_reducible refine at_store (t := 25) (p := 4) rfl ?_); go_must (refine ev_store (cs' := #[.int .i64 0, .bool false, .int .i64 0, .string ByteArray.empty, .slice none 0 0, .slice none 0 0]) rfl rfl rfl rfl rfl rfl HI.out.1 HI.out.2 rfl Hb2.out (Nat.le_of_ble_eq_true rfl) rfl ?_; intro w9 hb9 hk9)
           have Hb9 := Lib.hid hb9
           have HK9 := Lib.hid (show Keeps Nob W w9 from HK.out.trans hk9 (fun i hi e => by have := Hg2.out; omega))
           clear hb9 hk9 c0 c1 c2 c3 c4 c5
           have d0 := (blk_cell Hb9.out 0).trans rfl
           have d1 := (blk_cell Hb9.out 1).trans rfl
           have d2 := (blk_cell Hb9.out 2).trans rfl
           have d3 := (blk_cell Hb9.out 3).trans rfl
           have d4 := (blk_cell Hb9.out 4).trans rfl
           have d5 := (blk_cell Hb9.out 5).trans rfl
           (try simp only [PU]))
      )
      refine bodyPost_ret (results_ct (x := .agg #[.int .i64 0, .bool false, .int .i64 0, .string ByteArray.empty, .slice none 0 0, .slice none 0 0]) rfl _ _ rfl (by go_simp) rfl) rfl ?_
      (try rw [show ((zJ, 2) : J × Int) = (zJ, 2) from rfl])
      exact ⟨⟨_, rfl, zval⟩, HK9.out⟩
  · rw [if_pos hz0]
    have hz0b : (z == 0) = false := beq_eq_false_iff_ne.2 hz0
    clear hkn hnv
    go_enter Tryd.func30, Tryd.ntmps30
    go_wp2_with (first
      | ((with_reducible refine at_dst (N := 2) rfl ?_); go_must (refine ev_box (cs := #[.int .i64 k, .bool b, .int .i64 n, .string t, .slice kA kl kc, .slice vA nv vc]) rfl rfl rfl ?_; intro g1 w1 hg1 hl1 hb1 hk1)
         have Hb1 := Lib.hid hb1
         have Hg1 := Lib.hid (And.intro hg1 hl1)
         have HK := Lib.hid hk1
         (try clear c0 c1 c2 c3 c4 c5)
         have c0 := (blk_cell Hb1.out 0).trans rfl
         have c1 := (blk_cell Hb1.out 1).trans rfl
         have c2 := (blk_cell Hb1.out 2).trans rfl
         have c3 := (blk_cell Hb1.out 3).trans rfl
         have c4 := (blk_cell Hb1.out 4).trans rfl
         have c5 := (blk_cell Hb1.out 5).trans rfl
         clear hg1 hl1 hb1 hk1
         (try simp only [PU]))
      | ((with_reducible refine at_dst (N := 4) rfl ?_); go_must (refine ev_alloc rfl rfl zero25 rfl ?_; intro g2 w2 hg2 hl2 hb2 hk2)
         have Hb1 := Lib.hid (hk2.blk Hb1.out id)
         have Hb2 := Lib.hid hb2
         have Hg2 := Lib.hid (show W.heap.size ≤ g1 ∧ W.heap.size ≤ g2 ∧ g1 < g2 ∧ g2 < w2.heap.size from ⟨Hg1.out.1, Nat.le_trans HK.out.size hg2, Nat.lt_of_lt_of_le Hg1.out.2 hg2, hl2⟩)
         have HK := Lib.hid (HK.out.trans hk2 (fun _ _ h => h))
         (try clear c0 c1 c2 c3 c4 c5)
         have c0 := (blk_cell Hb1.out 0).trans rfl
         have c1 := (blk_cell Hb1.out 1).trans rfl
         have c2 := (blk_cell Hb1.out 2).trans rfl
         have c3 := (blk_cell Hb1.out 3).trans rfl
         have c4 := (blk_cell Hb1.out 4).trans rfl
         have c5 := (blk_cell Hb1.out 5).trans rfl
         clear hg2 hl2 hb2 hk2
         (try simp only [PU]))
      | (go_at_call 16; go_must (refine (check16 (Hx.out.after HK.out) (Tab.up (HT.out.keep HK.out.any) HK.out.size) Hsz.out.2).mono ?_; rintro e w3 ⟨rfl, hk3⟩; rw [Hz.out])
         have Hb1 := Lib.hid (hk3.blk Hb1.out id)
         have Hb2 := Lib.hid (hk3.blk Hb2.out id)
         have HK := Lib.hid (HK.out.trans hk3 (fun _ _ h => h))
         (try clear c0 c1 c2 c3 c4 c5)
         have c0 := (blk_cell Hb1.out 0).trans rfl
         have c1 := (blk_cell Hb1.out 1).trans rfl
         have c2 := (blk_cell Hb1.out 2).trans rfl
         have c3 := (blk_cell Hb1.out 3).trans rfl
         have c4 := (blk_cell Hb1.out 4).trans rfl
         have c5 := (blk_cell Hb1.out 5).trans rfl
         clear hk3
         (try simp only [PU]))
      | (go_at_call 58; go_must (refine (index58 (Hks.out.after HK.out) Hkl.out).mono ?_; rintro e w4 ⟨rfl, rfl⟩; rw [Hid2.out]); (try simp only [PU]))
      | ((with_reducible refine at_store (t := 25) (p := 4) rfl ?_); go_must (refine ev_store (cs' := #[.int .i64 0, .bool false, .int .i64 0, .string ByteArray.empty, .slice none 0 0, .slice none 0 0]) rfl rfl rfl rfl rfl rfl HI.out.1 HI.out.2 rfl Hb2.out (Nat.le_of_ble_eq_true rfl) rfl ?_; intro w9 hb9 hk9)
         have Hb9 := Lib.hid hb9
         have HK9 := Lib.hid (show Keeps Nob W w9 from HK.out.trans hk9 (fun i hi e => by have := Hg2.out; omega))
         clear hb9 hk9 c0 c1 c2 c3 c4 c5
         have d0 := (blk_cell Hb9.out 0).trans rfl
         have d1 := (blk_cell Hb9.out 1).trans rfl
         have d2 := (blk_cell Hb9.out 2).trans rfl
         have d3 := (blk_cell Hb9.out 3).trans rfl
         have d4 := (blk_cell Hb9.out 4).trans rfl
         have d5 := (blk_cell Hb9.out 5).trans rfl
         (try simp only [PU]))
    )
    refine bodyPost_ret (results_ct (x := .agg #[.int .i64 0, .bool false, .int .i64 0, .string ByteArray.empty, .slice none 0 0, .slice none 0 0]) rfl _ _ rfl (by go_simp) rfl) rfl ?_
    (try rw [show ((zJ, z) : J × Int) = (zJ, z) from rfl])
    exact ⟨⟨_, rfl, zval⟩, HK9.out⟩
end Go.Proofs.WV

/-
  Put, plain: what it comes to, and what Get says of it. No program in sight; no condition.
-/
namespace Go.Proofs.WV
open Go.RowKit Go.Proofs.KL Go.Proofs.WM

/-- A table with another value for a key. -/
def putOut (key : ByteArray) (x : J) : J → J
  | .mk k b n t ks vs => match idxK key ks with
    | none => .mk k b n t (ks ++ [key]) (vs ++ [x])
    | some i => .mk k b n t ks (vs.set i x)
theorem putOut_mk (key : ByteArray) (x : J) (k : Int) (b : Bool) (n : Int) (t : ByteArray) (ks : List ByteArray) (vs : List J) : putOut key x (.mk k b n t ks vs) = match idxK key ks with
    | none => .mk k b n t (ks ++ [key]) (vs ++ [x])
    | some i => .mk k b n t ks (vs.set i x) := rfl
theorem getJ_mk (key : ByteArray) (k : Int) (b : Bool) (n : Int) (t : ByteArray) (ks : List ByteArray) (vs : List J) : getJ (.mk k b n t ks vs) key = if checkJ (.mk k b n t ks vs) ≠ 0 then (zJ, checkJ (.mk k b n t ks vs)) else if k ≠ 6 then (zJ, 2) else match idxK key ks with
    | none => (zJ, 5)
    | some i => (vs.getD i default, 0) := rfl
/-- What Put comes to. -/
def putJ (v : J) (key : ByteArray) (x : J) : J × Int :=
  if checkJ v ≠ 0 then (zJ, checkJ v) else if checkJ x ≠ 0 then (zJ, checkJ x) else if v.kind ≠ 6 then (zJ, 2) else if checkJ (putOut key x v) ≠ 0 then (zJ, 3) else (putOut key x v, 0)
theorem idxK_nodup : ∀ {ks : List ByteArray} {i : Nat}, ks.Nodup → i < ks.length → idxK (ks.getD i ByteArray.empty) ks = some i
  | k :: ks, 0, _, _ => by simp [idxK]
  | k :: ks, i + 1, hn, hi => by
    have hi' : i < ks.length := by simpa using hi
    have e : (k :: ks).getD (i + 1) ByteArray.empty = ks.getD i ByteArray.empty := by simp
    rw [e]
    have hmem : ks.getD i ByteArray.empty ∈ ks := by
      rw [List.getD_eq_getElem?_getD, List.getElem?_eq_getElem hi', Option.getD_some]
      exact List.getElem_mem hi'
    rw [List.nodup_cons] at hn
    unfold idxK
    have hne : ¬ ks.getD i ByteArray.empty = k := fun h => hn.1 (by rw [← h]; exact hmem)
    rw [if_neg hne, idxK_nodup hn.2 hi']
    rfl
theorem sizeL_set : ∀ (vs : List J) (i : Nat) (x : J), sizeL (vs.set i x) ≤ sizeL vs + sizeJ x
  | [], _, _ => by simp [sizeL]
  | v :: vs, 0, x => by simp only [List.set_cons_zero, sizeL]; omega
  | v :: vs, i + 1, x => by have := sizeL_set vs i x; simp only [List.set_cons_succ, sizeL]; omega
theorem sizeL_app : ∀ (a b : List J), sizeL (a ++ b) = sizeL a + sizeL b
  | [], b => by simp [sizeL]
  | v :: a, b => by have := sizeL_app a b; simp only [List.cons_append, sizeL]; omega
theorem putOut_size (key : ByteArray) (x v : J) : sizeJ (putOut key x v) ≤ sizeJ v + sizeJ x + 1 + key.size := by
  obtain ⟨k, b, n, t, ks, vs⟩ := v
  rw [putOut_mk]
  rcases hid : idxK key ks with _ | i
  · show sizeJ (.mk k b n t (ks ++ [key]) (vs ++ [x])) ≤ _
    simp only [sizeJ, sizeL_app, sizeL, List.length_append, List.length_cons, List.length_nil, List.map_append, List.map_cons, List.map_nil, List.sum_append, List.sum_cons, List.sum_nil]
    omega
  · show sizeJ (.mk k b n t ks (vs.set i x)) ≤ _
    have := sizeL_set vs i x
    simp only [sizeJ]
    omega
theorem check_nodup {k : Int} {b : Bool} {n : Int} {t : ByteArray} {ks : List ByteArray} {vs : List J} (h : checkJ (.mk k b n t ks vs) = 0) : ks.Nodup := by
  have h := check_formed h
  unfold formedJ at h
  simp only [fineJ, Bool.and_eq_true, decide_eq_true_eq] at h
  exact h.1.2
/-- What the law asks of what Put came to. -/
structure PutOK (ks : List ByteArray) (vs : List J) (key : ByteArray) (x out : J) : Prop where
  kind : out.kind = 6
  len : ks.length ≤ out.keys.length ∧ out.keys.length ≤ ks.length + 1
  own : getJ out key = (x, 0)
  rest : ∀ i, i < ks.length → out.keys.getD i ByteArray.empty = ks.getD i ByteArray.empty ∧ ∃ z, getJ out (ks.getD i ByteArray.empty) = (z, 0) ∧ (ks.getD i ByteArray.empty ≠ key → z = vs.getD i default)
theorem put_ok {k : Int} {b : Bool} {n : Int} {t : ByteArray} {ks : List ByteArray} {vs : List J} {key : ByteArray} {x : J} (h : (putJ (.mk k b n t ks vs) key x).2 = 0) : (putJ (.mk k b n t ks vs) key x).1 = putOut key x (.mk k b n t ks vs) ∧ ks.length = vs.length ∧ PutOK ks vs key x (putOut key x (.mk k b n t ks vs)) := by
  unfold putJ at h ⊢
  by_cases h1 : checkJ (.mk k b n t ks vs) ≠ 0
  · rw [if_pos h1] at h; exact absurd h h1
  · rw [if_neg h1] at h ⊢
    by_cases h2 : checkJ x ≠ 0
    · rw [if_pos h2] at h; exact absurd h h2
    · rw [if_neg h2] at h ⊢
      by_cases h3 : (J.mk k b n t ks vs).kind ≠ 6
      · rw [if_pos h3] at h; cases h
      · rw [if_neg h3] at h ⊢
        by_cases h4 : checkJ (putOut key x (.mk k b n t ks vs)) ≠ 0
        · rw [if_pos h4] at h; cases h
        · rw [if_neg h4]
          have hk : k = 6 := Decidable.not_not.1 h3
          subst hk
          have h1 := Decidable.not_not.1 h1
          have h4 := Decidable.not_not.1 h4
          have hlen := formed_len (check_formed h1) rfl
          refine ⟨rfl, hlen, ?_⟩
          rw [putOut_mk] at h4 ⊢
          rcases hid : idxK key ks with _ | j
          · simp only [hid] at h4 ⊢
            have hnd := check_nodup h4
            have hg : ∀ q i, idxK q (ks ++ [key]) = some i → getJ (.mk 6 b n t (ks ++ [key]) (vs ++ [x])) q = ((vs ++ [x]).getD i default, 0) := fun q i hq => by
              rw [getJ_mk]
              rw [if_neg (by simp [h4]), if_neg (by simp), hq]
            refine ⟨rfl, ⟨by simp [J.keys], by simp [J.keys]⟩, ?_, fun i hi => ?_⟩
            · have e := idxK_nodup (i := ks.length) hnd (by simp)
              rw [show (ks ++ [key]).getD ks.length ByteArray.empty = key by simp] at e
              rw [hg _ _ e, hlen]
              simp
            · have eg : (ks ++ [key]).getD i ByteArray.empty = ks.getD i ByteArray.empty := by
                simp only [List.getD_eq_getElem?_getD, List.getElem?_append_left hi]
              have e := idxK_nodup (i := i) hnd (by simp; omega)
              rw [eg] at e
              refine ⟨eg, _, hg _ _ e, fun _ => ?_⟩
              simp only [List.getD_eq_getElem?_getD, List.getElem?_append_left (show i < vs.length by omega)]
          · simp only [hid] at h4 ⊢
            have hnd := check_nodup h4
            obtain ⟨hj, hjk⟩ := idxK_some hid
            have hg : ∀ q i, idxK q ks = some i → getJ (.mk 6 b n t ks (vs.set j x)) q = ((vs.set j x).getD i default, 0) := fun q i hq => by
              rw [getJ_mk]
              rw [if_neg (by simp [h4]), if_neg (by simp), hq]
            refine ⟨rfl, ⟨by simp [J.keys], by simp [J.keys]⟩, ?_, fun i hi => ⟨rfl, _, hg _ _ (idxK_nodup hnd hi), fun hne => ?_⟩⟩
            · rw [hg _ _ hid]
              simp only [List.getD_eq_getElem?_getD, List.getElem?_set_self (show j < vs.length by omega), Option.getD_some]
            · have : j ≠ i := fun e => hne (e ▸ hjk)
              simp only [List.getD_eq_getElem?_getD, List.getElem?_set_ne this]
end Go.Proofs.WV

/-
  A region that leaves its order open, walked in every order that matters, where what the quiet operations read stands only until one named operation comes, which waits for all of them. No condition but the named tree's own check.
-/
namespace Go.Proofs.KL
open Go.RowKit
inductive PC where
  | done : PC
  | q (i : Nat) (r : PC) : PC
  | qf (i : Nat) (r : PC) : PC
  | br (l : List Nat) (f : Nat → PC) : PC
  | brc (l : List Nat) (f : Nat → PC) : PC
section
variable {P : Program} {ops : Array Oper} {Q : Exit → Act → World → Prop} {S : World → Prop}
/-- One operation waits for another. -/
def waitsB (md : Region.Mode) (ops : Array Oper) (c i : Nat) : Bool := match ops[c]? with
  | none => false
  | some o => o.after.any (fun e => Region.binds md e && e.on == i)
def wpAnyC (P : Program) (md : Region.Mode) (ops : Array Oper) (Q : Exit → Act → World → Prop) (S : World → Prop) (c : Nat) : Nat → Array Bool → Act → World → Prop
  | 0, listed, a, w => Region.ready md ops listed = [] ∧ Q .normal a w
  | fuel + 1, listed, a, w => (Region.ready md ops listed = [] → Q .normal a w) ∧
    ∀ i ∈ Region.ready md ops listed, wpOp P ops Q i (fun a' w' => ((listed.setIfInBounds i true).getD c true = false → S w') ∧ wpAnyC P md ops Q S c fuel (listed.setIfInBounds i true) a' w') a w
theorem wpAnyC_plain {md : Region.Mode} {c : Nat} : ∀ (fuel : Nat) (listed : Array Bool) (a : Act) (w : World), wpAnyC P md ops Q S c fuel listed a w → wpAny P md ops Q fuel listed a w
  | 0, _, _, _, h => h
  | fuel + 1, _, _, _, h => ⟨h.1, fun i hi => wpOp_mono (fun a' w' h' => wpAnyC_plain fuel _ a' w' h'.2) (h.2 i hi)⟩
theorem waits_not {md : Region.Mode} {c i j : Nat} {listed : Array Bool} (hw : waitsB md ops c i = true) (hi : i ∈ Region.ready md ops listed) (hj : j ∈ Region.ready md ops listed) : j ≠ c := by
  rintro rfl
  obtain ⟨_, oj, hoj, hall⟩ := mem_ready.1 hj
  unfold waitsB at hw
  rw [hoj] at hw
  obtain ⟨e, he, hb⟩ := Array.any_eq_true'.1 hw
  simp only [Bool.and_eq_true, beq_iff_eq] at hb
  have h1 := hall e he hb.1
  have h0 := (mem_ready.1 hi).1
  rw [hb.2] at h1
  rcases Nat.lt_or_ge i listed.size with h' | h'
  · simp [h'] at h0 h1; rw [h0] at h1; cases h1
  · simp [Array.getElem?_eq_none h'] at h1
theorem wpAnyC_first {md : Region.Mode} {c i : Nat} {oi : Oper} {v : Value} (hi : ops[i]? = some oi) (hs : Region.noSelect ops = true) (hQ : ∀ c a w, Q (.panic c) (a.put oi.dst v) w → Q (.panic c) a w) (hw : waitsB md ops c i = true) :
    ∀ (fuel : Nat) (listed : Array Bool) (a : Act) (w : World),
      (∀ j oj, ops[j]? = some oj → j ≠ i → listed.getD j true = false → (∀ e ∈ oj.after, Region.binds md e = true → e.on ≠ i) → oi.apart ops oj = true) →
      i ∈ Region.ready md ops listed → YieldsIf P ops S oi v a → listed.getD c true = false → S w →
      wpAnyC P md ops Q S c fuel (listed.setIfInBounds i true) (a.put oi.dst v) w → wpAnyC P md ops Q S c (fuel + 1) listed a w := by
  have hsel := Region.noSelect_spec hs
  intro fuel
  induction fuel with
  | zero =>
    intro listed a w _ hr hy hc hS H
    refine ⟨fun h => (by rw [h] at hr; cases hr), fun j hj => ?_⟩
    by_cases hji : j = i
    · subst hji; exact hy.wpOp hi hS ⟨fun _ => hS, H⟩
    · have := ready_mono hj hji
      rw [H.1] at this
      cases this
  | succ fuel ih =>
    intro listed a w hfree hr hy hc hS H
    refine ⟨fun h => (by rw [h] at hr; cases hr), fun j hj => ?_⟩
    by_cases hji : j = i
    · subst hji; exact hy.wpOp hi hS ⟨fun _ => hS, H⟩
    · have hjc := waits_not hw hr hj
      have hic := waits_not hw hr hr
      have h1 := H.2 j (ready_mono hj hji)
      obtain ⟨hjun, oj, hoj, hall⟩ := mem_ready.1 hj
      have hnot : ∀ e ∈ oj.after, Region.binds md e = true → e.on ≠ i := fun e he hb heq => by
        have h1 := hall e he hb
        have h0 := (mem_ready.1 hr).1
        rw [heq] at h1
        rcases Nat.lt_or_ge i listed.size with h' | h'
        · simp [h'] at h0 h1; rw [h0] at h1; cases h1
        · simp [Array.getElem?_eq_none h'] at h1
      have h2 := wpOp_putIf hoj (hfree j oj hoj hji hjun hnot) (fun cs b => hsel i oi cs b hi) (fun cs b => hsel j oj cs b hoj) hQ hy h1
      have hfree' : ∀ k ok, ops[k]? = some ok → k ≠ i → (listed.setIfInBounds j true).getD k true = false →
          (∀ e ∈ ok.after, Region.binds md e = true → e.on ≠ i) → oi.apart ops ok = true := fun k ok hk hki hun hno => by
        refine hfree k ok hk hki ?_ hno
        by_cases hjk : j = k
        · subst hjk; exact hjun
        · rw [getD_set_ne true hjk] at hun; exact hun
      have hcj : (listed.setIfInBounds j true).getD c true = false := by rw [getD_set_ne true hjc]; exact hc
      have hcij : ((listed.setIfInBounds i true).setIfInBounds j true).getD c true = false := by rw [getD_set_ne true hjc, getD_set_ne true hic]; exact hc
      refine wpOp_mono (fun a' w' h3 => ⟨fun _ => h3.2.1 hcij, ih (listed.setIfInBounds j true) a' w' hfree' (ready_mono hr (Ne.symm hji)) h3.1 hcj (h3.2.1 hcij) ?_⟩) h2
      rw [Array.setIfInBounds_comm _ _ hji]
      exact h3.2.2
theorem wpAnyC_free {md : Region.Mode} {c i : Nat} {oi : Oper} {v : Value} (hi : ops[i]? = some oi) (hs : Region.noSelect ops = true) (hQ : ∀ c a w, Q (.panic c) (a.put oi.dst v) w → Q (.panic c) a w) (hic : i ≠ c) :
    ∀ (fuel : Nat) (listed : Array Bool) (a : Act) (w : World),
      (∀ j oj, ops[j]? = some oj → j ≠ i → listed.getD j true = false → (∀ e ∈ oj.after, Region.binds md e = true → e.on ≠ i) → oi.apart ops oj = true) →
      i ∈ Region.ready md ops listed → YieldsIf P ops (fun _ => True) oi v a → (listed.getD c true = false → S w) →
      wpAnyC P md ops Q S c fuel (listed.setIfInBounds i true) (a.put oi.dst v) w → wpAnyC P md ops Q S c (fuel + 1) listed a w := by
  have hsel := Region.noSelect_spec hs
  intro fuel
  induction fuel with
  | zero =>
    intro listed a w _ hr hy hS H
    refine ⟨fun h => (by rw [h] at hr; cases hr), fun j hj => ?_⟩
    by_cases hji : j = i
    · subst hji; exact hy.wpOp hi trivial ⟨fun e => hS (by rw [getD_set_ne true hic] at e; exact e), H⟩
    · have := ready_mono hj hji
      rw [H.1] at this
      cases this
  | succ fuel ih =>
    intro listed a w hfree hr hy hS H
    refine ⟨fun h => (by rw [h] at hr; cases hr), fun j hj => ?_⟩
    by_cases hji : j = i
    · subst hji; exact hy.wpOp hi trivial ⟨fun e => hS (by rw [getD_set_ne true hic] at e; exact e), H⟩
    · have h1 := H.2 j (ready_mono hj hji)
      obtain ⟨hjun, oj, hoj, hall⟩ := mem_ready.1 hj
      have hnot : ∀ e ∈ oj.after, Region.binds md e = true → e.on ≠ i := fun e he hb heq => by
        have h1 := hall e he hb
        have h0 := (mem_ready.1 hr).1
        rw [heq] at h1
        rcases Nat.lt_or_ge i listed.size with h' | h'
        · simp [h'] at h0 h1; rw [h0] at h1; cases h1
        · simp [Array.getElem?_eq_none h'] at h1
      have h2 := wpOp_putIf hoj (hfree j oj hoj hji hjun hnot) (fun cs b => hsel i oi cs b hi) (fun cs b => hsel j oj cs b hoj) hQ hy h1
      have hfree' : ∀ k ok, ops[k]? = some ok → k ≠ i → (listed.setIfInBounds j true).getD k true = false →
          (∀ e ∈ ok.after, Region.binds md e = true → e.on ≠ i) → oi.apart ops ok = true := fun k ok hk hki hun hno => by
        refine hfree k ok hk hki ?_ hno
        by_cases hjk : j = k
        · subst hjk; exact hjun
        · rw [getD_set_ne true hjk] at hun; exact hun
      have hcm := Array.setIfInBounds_comm (xs := listed) true true (Ne.symm hji)
      have hcc : ((listed.setIfInBounds i true).setIfInBounds j true).getD c true = (listed.setIfInBounds j true).getD c true := by rw [hcm, getD_set_ne true hic]
      refine wpOp_mono (fun a' w' h3 => ⟨fun e => h3.2.1 (by rw [hcc]; exact e), ih (listed.setIfInBounds j true) a' w' hfree' (ready_mono hr (Ne.symm hji)) h3.1 (fun e => h3.2.1 (by rw [hcc]; exact e)) ?_⟩) h2
      rw [Array.setIfInBounds_comm _ _ hji]
      exact h3.2.2
def PC.ok (md : Region.Mode) (ops : Array Oper) (c : Nat) : PC → Nat → Array Bool → Bool
  | .done, _, listed => (Region.ready md ops listed).isEmpty
  | .q _ _, 0, _ => false
  | .q i r, fuel + 1, listed => (!listed.getD c true) && (waitsB md ops c i && (Region.free md ops listed i && ((Region.ready md ops listed).contains i && PC.ok md ops c r fuel (listed.setIfInBounds i true))))
  | .qf _ _, 0, _ => false
  | .qf i r, fuel + 1, listed => (i != c) && (Region.free md ops listed i && ((Region.ready md ops listed).contains i && PC.ok md ops c r fuel (listed.setIfInBounds i true)))
  | .br _ _, 0, _ => false
  | .br l f, fuel + 1, listed => (Region.ready md ops listed == l) && ((!l.isEmpty) && l.all (fun i => PC.ok md ops c (f i) fuel (listed.setIfInBounds i true)))
  | .brc _ _, 0, _ => false
  | .brc l f, fuel + 1, listed => (Region.ready md ops listed == l) && ((!l.isEmpty) && l.all (fun i => (listed.setIfInBounds i true).getD c true && PC.ok md ops c (f i) fuel (listed.setIfInBounds i true)))
def wpTreeC (P : Program) (ops : Array Oper) (Q : Exit → Act → World → Prop) (S : World → Prop) : PC → Act → World → Prop
  | .done, a, w => Q .normal a w
  | .q i r, a, w => ∃ o v, ops[i]? = some o ∧ YieldsIf P ops S o v a ∧ wpTreeC P ops Q S r (a.put o.dst v) w
  | .qf i r, a, w => ∃ o v, ops[i]? = some o ∧ YieldsIf P ops (fun _ => True) o v a ∧ wpTreeC P ops Q S r (a.put o.dst v) w
  | .br l f, a, w => ∀ i ∈ l, ∃ o, ops[i]? = some o ∧ wpList P ops (Exit.then (fun a' w' => S w' ∧ wpTreeC P ops Q S (f i) a' w') Q) [o] a w
  | .brc l f, a, w => ∀ i ∈ l, ∃ o, ops[i]? = some o ∧ wpList P ops (Exit.then (fun a' w' => wpTreeC P ops Q S (f i) a' w') Q) [o] a w
theorem wpAnyC_all {md : Region.Mode} {c fuel : Nat} {listed : Array Bool} {a : Act} {w : World} {rs : List Nat} (hr : Region.ready md ops listed = rs) (hne : rs ≠ [])
    (h : ∀ i ∈ rs, wpOp P ops Q i (fun a' w' => ((listed.setIfInBounds i true).getD c true = false → S w') ∧ wpAnyC P md ops Q S c fuel (listed.setIfInBounds i true) a' w') a w) : wpAnyC P md ops Q S c (fuel + 1) listed a w :=
  ⟨fun h0 => absurd (hr ▸ h0) hne, hr ▸ h⟩
theorem op_list {o : Oper} {j : Nat} {a : Act} {w : World} {K K' : Act → World → Prop} (ho : ops[j]? = some o) (key : ∀ a' w', K a' w' → K' a' w') (h : wpList P ops (Exit.then K Q) [o] a w) : wpOp P ops Q j K' a w := by
  unfold wpOp
  rw [ho]
  unfold wpList at h
  simp only
  split
  · rename_i hw
    rw [if_pos hw] at h
    rcases h with h | ⟨h1, h2⟩
    · refine .inl ?_
      have h' : o.wp P a w (fun a' w' => K a' w') Q := h
      exact Oper.wp_mono key h'
    · exact .inr ⟨h1, h2⟩
  · rename_i hw
    rw [if_neg hw] at h
    exact key _ _ h
theorem treec_sound {md : Region.Mode} {c : Nat} (hs : Region.noSelect ops = true) (hQ : ∀ c a d v w, Q (.panic c) (Act.put a d v) w → Q (.panic c) a w) :
    ∀ (t : PC) (fuel : Nat) (listed : Array Bool) (a : Act) (w : World), PC.ok md ops c t fuel listed = true → (listed.getD c true = false → S w) → wpTreeC P ops Q S t a w → wpAnyC P md ops Q S c fuel listed a w
  | .done, 0, listed, a, w, hB, _, h => ⟨by simpa [PC.ok] using hB, h⟩
  | .done, fuel + 1, listed, a, w, hB, _, h => by
    have hr : Region.ready md ops listed = [] := by simpa [PC.ok] using hB
    exact ⟨fun _ => h, by rw [hr]; simp⟩
  | .q i r, 0, listed, a, w, hB, hS, h => by simp [PC.ok] at hB
  | .q i r, fuel + 1, listed, a, w, hB, hS, h => by
    obtain ⟨o, v, ho, hy, h⟩ := h
    simp only [PC.ok, Bool.and_eq_true] at hB
    obtain ⟨h1, h2, h3, h4, h5⟩ := hB
    have hc : listed.getD c true = false := by
      cases e : listed.getD c true with
      | false => rfl
      | true => rw [e] at h1; cases h1
    have hr : i ∈ Region.ready md ops listed := by simpa using h4
    exact wpAnyC_first ho hs (fun c a w => hQ c a _ _ w) h2 fuel listed a w (Region.free_spec ho h3) hr hy hc (hS hc)
      (treec_sound hs hQ r fuel _ _ _ h5 (fun _ => hS hc) h)
  | .qf i r, 0, listed, a, w, hB, hS, h => by simp [PC.ok] at hB
  | .qf i r, fuel + 1, listed, a, w, hB, hS, h => by
    obtain ⟨o, v, ho, hy, h⟩ := h
    simp only [PC.ok, Bool.and_eq_true, bne_iff_ne] at hB
    obtain ⟨h2, h3, h4, h5⟩ := hB
    have hr : i ∈ Region.ready md ops listed := by simpa using h4
    exact wpAnyC_free ho hs (fun c a w => hQ c a _ _ w) h2 fuel listed a w (Region.free_spec ho h3) hr hy hS
      (treec_sound hs hQ r fuel _ _ _ h5 (fun e => hS (by rw [getD_set_ne true h2] at e; exact e)) h)
  | .br l f, 0, listed, a, w, hB, hS, h => by simp [PC.ok] at hB
  | .br l f, fuel + 1, listed, a, w, hB, hS, h => by
    simp only [PC.ok, Bool.and_eq_true, beq_iff_eq] at hB
    refine wpAnyC_all hB.1 (by intro hn; rw [hn] at hB; simp at hB) (fun j hj => ?_)
    obtain ⟨o, ho, h⟩ := h j hj
    have hBj := List.all_eq_true.1 hB.2.2 j hj
    exact op_list ho (fun a' w' ⟨h1, h2⟩ => ⟨fun _ => h1, treec_sound hs hQ (f j) fuel _ _ _ hBj (fun _ => h1) h2⟩) h
  | .brc l f, 0, listed, a, w, hB, hS, h => by simp [PC.ok] at hB
  | .brc l f, fuel + 1, listed, a, w, hB, hS, h => by
    simp only [PC.ok, Bool.and_eq_true, beq_iff_eq] at hB
    refine wpAnyC_all hB.1 (by intro hn; rw [hn] at hB; simp at hB) (fun j hj => ?_)
    obtain ⟨o, ho, h⟩ := h j hj
    have hBj := List.all_eq_true.1 hB.2.2 j hj
    simp only [Bool.and_eq_true] at hBj
    have hn : (listed.setIfInBounds j true).getD c true = false → S w := fun e => by rw [hBj.1] at e; cases e
    exact op_list ho (fun a' w' h2 => ⟨fun e => by (rw [hBj.1] at e; cases e), treec_sound hs hQ (f j) fuel _ _ _ hBj.2 (fun e => by (rw [hBj.1] at e; cases e)) h2⟩) h
theorem then_normal {K : Act → World → Prop} {a : Act} {w : World} (h : K a w) : Exit.then K Q .normal a w := h
/-- THE RULE. -/
theorem wp_region_treec {id : Nat} {l : List Oper} {a : Act} {w : World} (c : Nat) (t : PC) (S : World → Prop) (hm : P.follows .mixedOrders = true) (hs : Region.noSelect l.toArray = true)
    (hB : PC.ok .any l.toArray c t l.toArray.size (Array.replicate l.toArray.size false) = true) (hQ : ∀ c a d v w, Q (.panic c) (Act.put a d v) w → Q (.panic c) a w)
    (hS : S w.drew) (h : wpTreeC P l.toArray Q S t a w.drew) : (Code.region id l.toArray true).wp P Q a w :=
  wp_region_any hm (wpAnyC_plain _ _ _ _ (treec_sound hs hQ t _ _ _ _ hB (fun _ => hS) h))
theorem treec_nil {a : Act} {w : World} (h : Q .normal a w) : wpTreeC P ops Q S .done a w := h
theorem treec_q {i : Nat} {r : PC} {l : List Oper} {o : Oper} {v : Value} {a : Act} {w : World} (d : Option Tmp) (ho : l[i]? = some o) (hd : o.dst = d) (hw : Region.wanted o (yielded l.toArray a.tmps) = true) (hr : ∀ w', S w' → (execOp a.eval o).run P w' = .ok (.value v) w')
    (h : wpTreeC P l.toArray Q S r (a.put d v) w) : wpTreeC P l.toArray Q S (.q i r) a w := ⟨o, v, by simpa using ho, .inl ⟨hw, hr⟩, hd ▸ h⟩
theorem treec_qf {i : Nat} {r : PC} {l : List Oper} {o : Oper} {v : Value} {a : Act} {w : World} (d : Option Tmp) (ho : l[i]? = some o) (hd : o.dst = d) (hw : Region.wanted o (yielded l.toArray a.tmps) = true) (hr : ∀ w', (execOp a.eval o).run P w' = .ok (.value v) w')
    (h : wpTreeC P l.toArray Q S r (a.put d v) w) : wpTreeC P l.toArray Q S (.qf i r) a w := ⟨o, v, by simpa using ho, .inl ⟨hw, fun w' _ => hr w'⟩, hd ▸ h⟩
theorem treec_skip {i : Nat} {r : PC} {l : List Oper} {o : Oper} {a : Act} {w : World} (d : Option Tmp) (ho : l[i]? = some o) (hd : o.dst = d) (hw : Region.wanted o (yielded l.toArray a.tmps) = false)
    (h : wpTreeC P l.toArray Q S r (a.put d undef) w) : wpTreeC P l.toArray Q S (.q i r) a w := ⟨o, undef, by simpa using ho, .inr ⟨hw, rfl⟩, hd ▸ h⟩
theorem treec_e {i : Nat} {r : PC} {f : Nat → PC} {l : List Oper} {o : Oper} {a : Act} {w : World} (ho : l[i]? = some o) (hf : f i = r)
    (h : wpList P l.toArray (Exit.then (fun a' w' => S w' ∧ wpTreeC P l.toArray Q S r a' w') Q) [o] a w) : wpTreeC P l.toArray Q S (.br [i] f) a w := by
  intro j hj
  rw [List.mem_singleton.1 hj]
  exact ⟨o, by simpa using ho, hf ▸ h⟩
theorem treec_b {i : Nat} {r : PC} {m : List Nat} {f : Nat → PC} {l : List Oper} {o : Oper} {a : Act} {w : World} (ho : l[i]? = some o) (hf : f i = r)
    (h : wpList P l.toArray (Exit.then (fun a' w' => S w' ∧ wpTreeC P l.toArray Q S r a' w') Q) [o] a w) (hm : wpTreeC P l.toArray Q S (.br m f) a w) : wpTreeC P l.toArray Q S (.br (i :: m) f) a w := by
  intro j hj
  rcases List.mem_cons.1 hj with rfl | hj
  · exact ⟨o, by simpa using ho, hf ▸ h⟩
  · exact hm j hj
theorem treec_f {i : Nat} {r : PC} {f : Nat → PC} {l : List Oper} {o : Oper} {a : Act} {w : World} (ho : l[i]? = some o) (hf : f i = r)
    (h : wpList P l.toArray (Exit.then (fun a' w' => wpTreeC P l.toArray Q S r a' w') Q) [o] a w) : wpTreeC P l.toArray Q S (.brc [i] f) a w := by
  intro j hj
  rw [List.mem_singleton.1 hj]
  exact ⟨o, by simpa using ho, hf ▸ h⟩
end
end Go.Proofs.KL

/-
  Put, by the program, in memory. Condition: the two values and the key are not larger than nine hundred million; the standard library's table of powers lies.
-/
namespace Go.Proofs.WV
open Go.RowKit Go.Proofs.KL Go.Proofs.WM
set_option maxRecDepth 100000
set_option linter.unusedSimpArgs false
set_option linter.unusedVariables false

abbrev z6 : List Value := [.int .i64 0, .bool false, .int .i64 0, .string ByteArray.empty, .slice none 0 0, .slice none 0 0]
theorem OwnT.open {W : World} {lo : Nat} {v : Value} {k : Int} {b : Bool} {n : Int} {t : ByteArray} {ks : List ByteArray} {vs : List J} {kl nv : Nat} (h : OwnT W lo v (.mk k b n t ks vs)) (hl : ks.length = kl) (hn : vs.length = nv) : ∃ oA oc rA rc X xs, v = .agg #[.int .i64 k, .bool b, .int .i64 n, .string t, .slice oA kl oc, .slice rA nv rc] ∧ OwnS W lo (.slice oA kl oc) ks ∧ RowJ W lo (fun b => some b = (Value.slice oA kl oc).ownBlock) (.slice rA nv rc) vs X xs := by
  subst hl
  subst hn
  obtain ⟨kv, vv, rfl, h1, X, xs, h2⟩ := h
  obtain ⟨oA, oc, rfl, -⟩ := h1.slice
  obtain ⟨rA, rc, rfl, -⟩ := row_slice h2.row
  exact ⟨oA, oc, rA, rc, X, xs, rfl, h1, h2⟩
theorem RowJ.more {W W2 : World} {lo : Nat} {E : Nat → Prop} {v v' : Value} {acc : List J} {X : Nat → Prop} {xs : List Value} (h : RowJ W lo E v acc X xs) (hE : ∀ b, E b → b < W.heap.size) (hown : W2.ownsRow lo 25 6 v' (acc.length + 1) (xs ++ z6))
    (hk : Keeps (fun k => some k = v.ownBlock) W W2) (hr : v'.ownBlock = v.ownBlock ∨ ∃ k, v'.ownBlock = some k ∧ W.heap.size ≤ k) : RowJ W2 lo E v' (acc ++ [zJ]) X (xs ++ z6) := by
  refine ⟨by rw [List.length_append]; exact hown, fun b hb => ?_, fun k hk' he => ?_, fun i hi => ?_⟩
  · obtain ⟨h1, h2, h3, h4⟩ := h.low b hb
    refine ⟨h1, h2, fun e => ?_, Nat.lt_of_lt_of_le h4 hk.size⟩
    rcases hr with e2 | ⟨k, e2, hk2⟩
    · exact h3 (e.trans e2)
    · rw [e2] at e; injection e with e; omega
  · rcases hr with e2 | ⟨k2, e2, hk2⟩
    · exact h.ne k (e2 ▸ hk') he
    · rw [e2] at hk'; injection hk' with e; have := hE k he; omega
  · by_cases e : i < acc.length
    · rw [sixAt_append h.row.1 e, List.getD_eq_getElem?_getD, List.getElem?_append_left e, ← List.getD_eq_getElem?_getD]
      exact (h.val i e).keep hk (fun b _ hb e => (h.low b hb).2.2.1 e) (fun _ _ h => h)
    · have e2 : i = acc.length := by simp at hi; omega
      subst e2
      rw [sixAt_last h.row.1, List.getD_eq_getElem?_getD, List.getElem?_append_right (Nat.le_refl _), Nat.sub_self]
      exact zval
/-- A row of which one value is laid anew. -/
theorem RowJ.lay {W w8 W2 : World} {lo : Nat} {E : Nat → Prop} {v : Value} {acc : List J} {X X8 : Nat → Prop} {xs : List Value} {x0 x1 x2 x3 x4 x5 : Value} {i g : Nat} {x : J} (h : RowJ W lo E v acc X xs) (hi : i < acc.length) (hk : Keeps Nob W w8) (hx : JX w8 X8 (.agg #[x0, x1, x2, x3, x4, x5]) x)
    (hX8 : ∀ b, X8 b → W.heap.size ≤ b ∧ b < w8.heap.size) (hv : v.ownBlock = some g) (hk2 : Keeps (· = g) w8 W2) (hrow : W2.ownsRow lo 25 6 v acc.length (setSix xs i [x0, x1, x2, x3, x4, x5])) (hlo : lo ≤ W.heap.size) :
    RowJ W2 lo (fun _ => False) v (acc.set i x) (fun b => X b ∨ X8 b) (setSix xs i [x0, x1, x2, x3, x4, x5]) := by
  have hg := row_lt h.row g hv
  refine ⟨by rw [List.length_set]; exact hrow, fun b hb => ?_, fun _ _ e => e, fun p hp => ?_⟩
  · have s1 := hk.size
    have s2 := hk2.size
    rcases hb with hb | hb
    · obtain ⟨h1, h2, h3, h4⟩ := h.low b hb
      exact ⟨h1, id, h3, by omega⟩
    · have := hX8 b hb
      exact ⟨by omega, id, fun e => by rw [hv] at e; injection e with e; omega, by omega⟩
  · rw [List.length_set] at hp
    by_cases e : p = i
    · subst e
      rw [setSix_same h.row.1 hi, List.getD_eq_getElem?_getD, List.getElem?_set_self hi, Option.getD_some]
      exact hx.keep hk2 (fun b _ hb e => by have := hX8 b hb; omega) (fun _ _ h => .inr h)
    · rw [setSix_other h.row.1 hi rfl e, List.getD_eq_getElem?_getD, List.getElem?_set_ne (Ne.symm e), ← List.getD_eq_getElem?_getD]
      exact ((h.val p hp).after hk).keep hk2 (fun b _ hb e => (h.low b hb).2.2.1 (by rw [hv, e])) (fun _ _ h => .inl h)
theorem ix97a (a0 a1 a2 a3 a4 a5 b0 b1 b2 b3 b4 b5 : Value) (w : World) : (Instr.index 97 (.agg #[a0, a1, a2, a3, a4, a5, b0, b1, b2, b3, b4, b5]) (.int .i64 0)).run Tryd.prog w = .ok (.agg #[a0, a1, a2, a3, a4, a5]) w := by kernel_rfl
theorem ix97b (a0 a1 a2 a3 a4 a5 b0 b1 b2 b3 b4 b5 : Value) (w : World) : (Instr.index 97 (.agg #[a0, a1, a2, a3, a4, a5, b0, b1, b2, b3, b4, b5]) (.int .i64 1)).run Tryd.prog w = .ok (.agg #[b0, b1, b2, b3, b4, b5]) w := by kernel_rfl
theorem putJ_if (v : J) (key : ByteArray) (x : J) : putJ v key x = if checkJ v ≠ 0 then (zJ, checkJ v) else if checkJ x ≠ 0 then (zJ, checkJ x) else if v.kind ≠ 6 then (zJ, 2) else if checkJ (putOut key x v) ≠ 0 then (zJ, 3) else (putOut key x v, 0) := rfl
set_option maxHeartbeats 8000000 in
theorem put32 {W : World} {X Y : Nat → Prop} {v xv : Value} {j x : J} {key : ByteArray} (h : JX W X v j) (hx : JX W Y xv x) (ht : Tab W W.heap.size) (hs : sizeJ j + sizeJ x + key.size ≤ 900000000) : Calls Tryd.prog 32 #[v, .string key, xv] W (GetEnd W (putJ j key x)) := by
  obtain ⟨k, b, n, t, ks, vs, kv, vv, rfl, rfl, hks, hvs⟩ := h.open
  obtain ⟨kA, kc, rfl, -⟩ := id hks
  obtain ⟨vA, vc, u, rfl, -, -, -⟩ := id hvs
  obtain ⟨xk, xb, xn, xt, xks, xvs, xkv, xvv, hxe, rfl, hxk, hxv⟩ := hx.open
  obtain ⟨xA, xkc, rfl, -⟩ := id hxk
  obtain ⟨xB, xvc, xu, rfl, -, -, -⟩ := id hxv
  obtain ⟨kl, hkn⟩ : ∃ x, ks.length = x := ⟨_, rfl⟩
  obtain ⟨nv, hnv⟩ : ∃ x, vs.length = x := ⟨_, rfl⟩
  obtain ⟨xkl, hxkn⟩ : ∃ x, xks.length = x := ⟨_, rfl⟩
  obtain ⟨xvl, hxvn⟩ : ∃ x, xvs.length = x := ⟨_, rfl⟩
  have hkl : kl ≤ 900000000 ∧ nv ≤ 900000000 := by
    have := size_len vs
    have hs2 : sizeJ (.mk k b n t ks vs) ≤ 900000000 := by omega
    unfold sizeJ at hs2
    omega
  have Hkl := Lib.hid hkl
  have Hln := Lib.hid (And.intro hkn hnv)
  obtain ⟨j0, hj0⟩ : ∃ j0, J.mk k b n t ks vs = j0 := ⟨_, rfl⟩
  obtain ⟨out, hout⟩ : ∃ o, putOut key x (J.mk k b n t ks vs) = o := ⟨_, rfl⟩
  obtain ⟨z, hz⟩ : ∃ z, checkJ (J.mk k b n t ks vs) = z := ⟨_, rfl⟩
  obtain ⟨zx, hzx⟩ : ∃ z, checkJ x = z := ⟨_, rfl⟩
  obtain ⟨zo, hzo⟩ : ∃ z, checkJ out = z := ⟨_, rfl⟩
  obtain ⟨R, hR⟩ : ∃ R, putJ (J.mk k b n t ks vs) key x = R := ⟨_, rfl⟩
  have HR := Lib.hid (show R = if z ≠ 0 then (zJ, z) else if zx ≠ 0 then (zJ, zx) else if k ≠ 6 then (zJ, 2) else if zo ≠ 0 then (zJ, 3) else (out, 0) by rw [← hR, putJ_if, hz, hzx, hout, hzo]; rfl)
  have Hz := Lib.hid hz
  have Hzx := Lib.hid hzx
  have Hzo := Lib.hid hzo
  have Hout := Lib.hid hout
  have Hso := Lib.hid (show sizeJ out ≤ 10000000000 by have := putOut_size key x (J.mk k b n t ks vs); rw [hout] at this; omega)
  have Hsz := Lib.hid (show sizeJ (J.mk k b n t ks vs) ≤ 1000000000 ∧ sizeJ (J.mk k b n t ks vs) ≤ 10000000000 ∧ sizeJ x ≤ 1000000000 ∧ sizeJ x ≤ 10000000000 by omega)
  rw [hR]
  rw [hkn] at h ⊢
  rw [hnv] at h ⊢
  rw [hxkn] at hx ⊢
  rw [hxvn] at hx ⊢
  have HV := Lib.hid h.low
  have HX := Lib.hid hx.low
  have HT := Lib.hid ht
  obtain ⟨i25, hi25, hs25⟩ := info25
  obtain ⟨i23, hi23, hs23⟩ := info23
  obtain ⟨i22, hi22, hs22⟩ := info22
  have HI := Lib.hid (And.intro (And.intro hi25 hs25) (And.intro (And.intro hi23 hs23) (And.intro hi22 hs22)))
  clear hks hvs hxk hxv h hx ht hs hkl hkn hnv hxkn hxvn hj0 hout hz hzx hzo hR hi25 hs25 hi23 hs23 hi22 hs22 hxe
  go_enter Tryd.func32, Tryd.ntmps32
  go_wp2_with (first
    | ((with_reducible refine at_dst (N := 3) rfl ?_); go_must (refine ev_box (cs := #[.int .i64 k, .bool b, .int .i64 n, .string t, .slice kA kl kc, .slice vA nv vc]) rfl rfl rfl ?_; intro g1 w1 hg1 hl1 hb1 hk1)
       have Hb1 := Lib.hid hb1
       have Hg1 := Lib.hid (And.intro hg1 hl1)
       have HK := Lib.hid hk1
       clear hg1 hl1 hb1 hk1
       (try clear c0 c1 c2 c3 c4 c5)
       have c0 := (blk_cell Hb1.out 0).trans rfl
       have c1 := (blk_cell Hb1.out 1).trans rfl
       have c2 := (blk_cell Hb1.out 2).trans rfl
       have c3 := (blk_cell Hb1.out 3).trans rfl
       have c4 := (blk_cell Hb1.out 4).trans rfl
       have c5 := (blk_cell Hb1.out 5).trans rfl
       (try simp only [PU]))
    | ((with_reducible refine at_dst (N := 5) rfl ?_); go_must (refine ev_box (cs := #[.int .i64 xk, .bool xb, .int .i64 xn, .string xt, .slice xA xkl xkc, .slice xB xvl xvc]) rfl rfl rfl ?_; intro g2 w2 hg2 hl2 hb2 hk2)
       have Hb1 := Lib.hid (hk2.blk Hb1.out id)
       have Hb2 := Lib.hid hb2
       have Hg2 := Lib.hid (show W.heap.size ≤ g1 ∧ g1 < g2 ∧ g2 < w2.heap.size from ⟨Hg1.out.1, Nat.lt_of_lt_of_le Hg1.out.2 hg2, hl2⟩)
       have HK := Lib.hid (HK.out.trans hk2 (fun _ _ h => h))
       clear hg2 hl2 hb2 hk2 Hg1
       (try clear c0 c1 c2 c3 c4 c5)
       have c0 := (blk_cell Hb1.out 0).trans rfl
       have c1 := (blk_cell Hb1.out 1).trans rfl
       have c2 := (blk_cell Hb1.out 2).trans rfl
       have c3 := (blk_cell Hb1.out 3).trans rfl
       have c4 := (blk_cell Hb1.out 4).trans rfl
       have c5 := (blk_cell Hb1.out 5).trans rfl
       have e0 := (blk_cell Hb2.out 0).trans rfl
       have e1 := (blk_cell Hb2.out 1).trans rfl
       have e2 := (blk_cell Hb2.out 2).trans rfl
       have e3 := (blk_cell Hb2.out 3).trans rfl
       have e4 := (blk_cell Hb2.out 4).trans rfl
       have e5 := (blk_cell Hb2.out 5).trans rfl
       (try simp only [PU]))
    | ((with_reducible refine at_dst (N := 6) rfl ?_); go_must (refine ev_alloc rfl rfl zero25 rfl ?_; intro g3 w3 hg3 hl3 hb3 hk3)
       have Hb1 := Lib.hid (hk3.blk Hb1.out id)
       have Hb2 := Lib.hid (hk3.blk Hb2.out id)
       have Hb3 := Lib.hid hb3
       have Hgs := Lib.hid (show W.heap.size ≤ g1 ∧ g1 < g2 ∧ g2 < g3 ∧ g3 < w3.heap.size from ⟨Hg2.out.1, Hg2.out.2.1, Nat.lt_of_lt_of_le Hg2.out.2.2 hg3, hl3⟩)
       have HK := Lib.hid (HK.out.trans hk3 (fun _ _ h => h))
       clear hg3 hl3 hb3 hk3 Hg2 e0 e1 e2 e3 e4 e5
       (try clear c0 c1 c2 c3 c4 c5)
       have c0 := (blk_cell Hb1.out 0).trans rfl
       have c1 := (blk_cell Hb1.out 1).trans rfl
       have c2 := (blk_cell Hb1.out 2).trans rfl
       have c3 := (blk_cell Hb1.out 3).trans rfl
       have c4 := (blk_cell Hb1.out 4).trans rfl
       have c5 := (blk_cell Hb1.out 5).trans rfl
       have e0 := (blk_cell Hb2.out 0).trans rfl
       have e1 := (blk_cell Hb2.out 1).trans rfl
       have e2 := (blk_cell Hb2.out 2).trans rfl
       have e3 := (blk_cell Hb2.out 3).trans rfl
       have e4 := (blk_cell Hb2.out 4).trans rfl
       have e5 := (blk_cell Hb2.out 5).trans rfl
       (try simp only [PU]))
  )
  clear c0 c1 c2 c3 c4 c5 e0 e1 e2 e3 e4 e5
  go_loopg [16] 2 (fun K iv wr => ∃ i : Nat, ((i = 0 ∧ K = 2 ∧ iv = .int .i64 0) ∨ (i = 1 ∧ K = 1 ∧ iv = .int .i64 1 ∧ z = 0) ∨ (i = 2 ∧ K = 0 ∧ iv = .int .i64 2 ∧ z = 0 ∧ zx = 0)) ∧ Hid (wr.heap[g2]? = some (.cells #[.int .i64 xk, .bool xb, .int .i64 xn, .string xt, .slice xA xkl xkc, .slice xB xvl xvc] 25 (0, 0))) ∧ Hid (wr.heap[g3]? = some (.cells #[.int .i64 0, .bool false, .int .i64 0, .string ByteArray.empty, .slice none 0 0, .slice none 0 0] 25 (0, 0))) ∧ Hid (wr.heap[g1]? = some (.cells #[.int .i64 k, .bool b, .int .i64 n, .string t, .slice kA kl kc, .slice vA nv vc] 25 (0, 0))) ∧ Hid (Keeps Nob W wr) ∧ Hid (w3.heap.size ≤ wr.heap.size))
  case atStart => exact ⟨0, .inl ⟨rfl, rfl, rfl⟩, Hb2, Hb3, Hb1, HK, Lib.hid (Nat.le_refl _)⟩
  case round =>
    obtain ⟨i, hi, Hb2, Hb3, Hb1, HK, Hwr⟩ := hrel
    rcases hi with ⟨rfl, rfl, rfl⟩ | ⟨rfl, rfl, rfl, hz0⟩ | ⟨rfl, rfl, rfl, hz0, hzx0⟩
    · have hix := ix97a (.int .i64 k) (.bool b) (.int .i64 n) (.string t) (.slice kA kl kc) (.slice vA nv vc) (.int .i64 xk) (.bool xb) (.int .i64 xn) (.string xt) (.slice xA xkl xkc) (.slice xB xvl xvc)
      by_cases hz0 : z = 0
      · subst hz0
        go_wp2_with (first
          | ((with_reducible refine at_dst (N := 9) rfl ?_); go_must (refine ev_alloc rfl rfl zero25 rfl ?_; intro g9 w3 hg9 hl9 hb9 hk9)
             have Hb9 := Lib.hid hb9
             have HKr := Lib.hid hk9
             have Hg9 := Lib.hid hg9
             clear hb9 hk9 hg9 hl9
             (try simp only [PU]))
          | ((with_reducible refine at_store (t := 25) (p := 9) rfl ?_); go_must (refine ev_store (cs' := #[.int .i64 k, .bool b, .int .i64 n, .string t, .slice kA kl kc, .slice vA nv vc]) rfl rfl rfl rfl rfl rfl HI.out.1.1 HI.out.1.2 rfl Hb9.out (Nat.le_of_ble_eq_true rfl) rfl ?_; intro w4 hb4 hk4)
             have Hb4 := Lib.hid hb4
             have HKr := Lib.hid (show Keeps Nob wr w4 from HKr.out.trans hk4 (fun i hi e => by have := Hg9.out; omega))
             clear hb4 hk4
             (try clear c0 c1 c2 c3 c4 c5)
             have c0 := (blk_cell Hb4.out 0).trans rfl
             have c1 := (blk_cell Hb4.out 1).trans rfl
             have c2 := (blk_cell Hb4.out 2).trans rfl
             have c3 := (blk_cell Hb4.out 3).trans rfl
             have c4 := (blk_cell Hb4.out 4).trans rfl
             have c5 := (blk_cell Hb4.out 5).trans rfl
             (try simp only [PU]))
          | (go_at_call 16; go_must (refine (check16 (HV.out.after (HK.out.trans HKr.out (fun _ _ h => h))) (Tab.up (HT.out.keep (HK.out.trans HKr.out (fun _ _ h => h)).any) (HK.out.trans HKr.out (fun _ _ h => h)).size) Hsz.out.2.1).mono ?_; rintro e w5 ⟨rfl, hk5⟩; rw [Hz.out])
             have HKr := Lib.hid (show Keeps Nob wr w5 from HKr.out.trans hk5 (fun _ _ h => h))
             clear c0 c1 c2 c3 c4 c5 hk5
             (try simp only [PU]))
        )
        go_roundg (1 - 0)
        case measure => omega
        case rel => exact ⟨1, (.inr (.inl ⟨rfl, rfl, rfl, by trivial⟩)), Lib.hid (HKr.out.blk Hb2.out id), Lib.hid (HKr.out.blk Hb3.out id), Lib.hid (HKr.out.blk Hb1.out id), Lib.hid (HK.out.trans HKr.out (fun _ _ h => h)), Lib.hid (Nat.le_trans Hwr.out HKr.out.size)⟩
      · have hz0b : (z == 0) = false := beq_eq_false_iff_ne.2 hz0
        have Hz0 := Lib.hid hz0
        go_wp2_with (first
          | ((with_reducible refine at_dst (N := 9) rfl ?_); go_must (refine ev_alloc rfl rfl zero25 rfl ?_; intro g9 w3 hg9 hl9 hb9 hk9)
             have Hb9 := Lib.hid hb9
             have HKr := Lib.hid hk9
             have Hg9 := Lib.hid hg9
             clear hb9 hk9 hg9 hl9
             (try simp only [PU]))
          | ((with_reducible refine at_store (t := 25) (p := 9) rfl ?_); go_must (refine ev_store (cs' := #[.int .i64 k, .bool b, .int .i64 n, .string t, .slice kA kl kc, .slice vA nv vc]) rfl rfl rfl rfl rfl rfl HI.out.1.1 HI.out.1.2 rfl Hb9.out (Nat.le_of_ble_eq_true rfl) rfl ?_; intro w4 hb4 hk4)
             have Hb4 := Lib.hid hb4
             have HKr := Lib.hid (show Keeps Nob wr w4 from HKr.out.trans hk4 (fun i hi e => by have := Hg9.out; omega))
             clear hb4 hk4
             (try clear c0 c1 c2 c3 c4 c5)
             have c0 := (blk_cell Hb4.out 0).trans rfl
             have c1 := (blk_cell Hb4.out 1).trans rfl
             have c2 := (blk_cell Hb4.out 2).trans rfl
             have c3 := (blk_cell Hb4.out 3).trans rfl
             have c4 := (blk_cell Hb4.out 4).trans rfl
             have c5 := (blk_cell Hb4.out 5).trans rfl
             (try simp only [PU]))
          | (go_at_call 16; go_must (refine (check16 (HV.out.after (HK.out.trans HKr.out (fun _ _ h => h))) (Tab.up (HT.out.keep (HK.out.trans HKr.out (fun _ _ h => h)).any) (HK.out.trans HKr.out (fun _ _ h => h)).size) Hsz.out.2.1).mono ?_; rintro e w5 ⟨rfl, hk5⟩; rw [Hz.out])
             have HKr := Lib.hid (show Keeps Nob wr w5 from HKr.out.trans hk5 (fun _ _ h => h))
             clear c0 c1 c2 c3 c4 c5 hk5
             (try simp only [PU]))
          | ((with_reducible refine at_store (t := 25) (p := 6) rfl ?_); go_must (refine ev_store (cs' := #[.int .i64 0, .bool false, .int .i64 0, .string ByteArray.empty, .slice none 0 0, .slice none 0 0]) rfl rfl rfl rfl rfl rfl HI.out.1.1 HI.out.1.2 rfl (HKr.out.blk Hb3.out id) (Nat.le_of_ble_eq_true rfl) rfl ?_; intro w9 hb9 hk9)
             have Hb9z := Lib.hid hb9
             have HK9 := Lib.hid (show Keeps Nob W w9 from (HK.out.trans HKr.out (fun _ _ h => h)).trans hk9 (fun i hi e => by have := Hgs.out; omega))
             clear hb9 hk9
             (try clear c0 c1 c2 c3 c4 c5)
             have d0 := (blk_cell Hb9z.out 0).trans rfl
             have d1 := (blk_cell Hb9z.out 1).trans rfl
             have d2 := (blk_cell Hb9z.out 2).trans rfl
             have d3 := (blk_cell Hb9z.out 3).trans rfl
             have d4 := (blk_cell Hb9z.out 4).trans rfl
             have d5 := (blk_cell Hb9z.out 5).trans rfl
             (try simp only [PU]))
        )
        refine bodyPost_ret (results_ct (x := .agg #[.int .i64 0, .bool false, .int .i64 0, .string ByteArray.empty, .slice none 0 0, .slice none 0 0]) rfl _ _ rfl (by go_simp) rfl) rfl ?_
        rw [HR.out, if_pos Hz0.out]
        exact ⟨⟨_, rfl, zval⟩, HK9.out⟩
    · have hix := ix97b (.int .i64 k) (.bool b) (.int .i64 n) (.string t) (.slice kA kl kc) (.slice vA nv vc) (.int .i64 xk) (.bool xb) (.int .i64 xn) (.string xt) (.slice xA xkl xkc) (.slice xB xvl xvc)
      subst hz0
      by_cases hz0 : zx = 0
      · subst hz0
        go_wp2_with (first
          | ((with_reducible refine at_dst (N := 9) rfl ?_); go_must (refine ev_alloc rfl rfl zero25 rfl ?_; intro g9 w3 hg9 hl9 hb9 hk9)
             have Hb9 := Lib.hid hb9
             have HKr := Lib.hid hk9
             have Hg9 := Lib.hid hg9
             clear hb9 hk9 hg9 hl9
             (try simp only [PU]))
          | ((with_reducible refine at_store (t := 25) (p := 9) rfl ?_); go_must (refine ev_store (cs' := #[.int .i64 xk, .bool xb, .int .i64 xn, .string xt, .slice xA xkl xkc, .slice xB xvl xvc]) rfl rfl rfl rfl rfl rfl HI.out.1.1 HI.out.1.2 rfl Hb9.out (Nat.le_of_ble_eq_true rfl) rfl ?_; intro w4 hb4 hk4)
             have Hb4 := Lib.hid hb4
             have HKr := Lib.hid (show Keeps Nob wr w4 from HKr.out.trans hk4 (fun i hi e => by have := Hg9.out; omega))
             clear hb4 hk4
             (try clear c0 c1 c2 c3 c4 c5)
             have c0 := (blk_cell Hb4.out 0).trans rfl
             have c1 := (blk_cell Hb4.out 1).trans rfl
             have c2 := (blk_cell Hb4.out 2).trans rfl
             have c3 := (blk_cell Hb4.out 3).trans rfl
             have c4 := (blk_cell Hb4.out 4).trans rfl
             have c5 := (blk_cell Hb4.out 5).trans rfl
             (try simp only [PU]))
          | (go_at_call 16; go_must (refine (check16 (HX.out.after (HK.out.trans HKr.out (fun _ _ h => h))) (Tab.up (HT.out.keep (HK.out.trans HKr.out (fun _ _ h => h)).any) (HK.out.trans HKr.out (fun _ _ h => h)).size) Hsz.out.2.2.2).mono ?_; rintro e w5 ⟨rfl, hk5⟩; rw [Hzx.out])
             have HKr := Lib.hid (show Keeps Nob wr w5 from HKr.out.trans hk5 (fun _ _ h => h))
             clear c0 c1 c2 c3 c4 c5 hk5
             (try simp only [PU]))
        )
        go_roundg (1 - 1)
        case measure => omega
        case rel => exact ⟨2, (.inr (.inr ⟨rfl, rfl, rfl, by trivial, by trivial⟩)), Lib.hid (HKr.out.blk Hb2.out id), Lib.hid (HKr.out.blk Hb3.out id), Lib.hid (HKr.out.blk Hb1.out id), Lib.hid (HK.out.trans HKr.out (fun _ _ h => h)), Lib.hid (Nat.le_trans Hwr.out HKr.out.size)⟩
      · have hz0b : (zx == 0) = false := beq_eq_false_iff_ne.2 hz0
        have Hz0 := Lib.hid hz0
        go_wp2_with (first
          | ((with_reducible refine at_dst (N := 9) rfl ?_); go_must (refine ev_alloc rfl rfl zero25 rfl ?_; intro g9 w3 hg9 hl9 hb9 hk9)
             have Hb9 := Lib.hid hb9
             have HKr := Lib.hid hk9
             have Hg9 := Lib.hid hg9
             clear hb9 hk9 hg9 hl9
             (try simp only [PU]))
          | ((with_reducible refine at_store (t := 25) (p := 9) rfl ?_); go_must (refine ev_store (cs' := #[.int .i64 xk, .bool xb, .int .i64 xn, .string xt, .slice xA xkl xkc, .slice xB xvl xvc]) rfl rfl rfl rfl rfl rfl HI.out.1.1 HI.out.1.2 rfl Hb9.out (Nat.le_of_ble_eq_true rfl) rfl ?_; intro w4 hb4 hk4)
             have Hb4 := Lib.hid hb4
             have HKr := Lib.hid (show Keeps Nob wr w4 from HKr.out.trans hk4 (fun i hi e => by have := Hg9.out; omega))
             clear hb4 hk4
             (try clear c0 c1 c2 c3 c4 c5)
             have c0 := (blk_cell Hb4.out 0).trans rfl
             have c1 := (blk_cell Hb4.out 1).trans rfl
             have c2 := (blk_cell Hb4.out 2).trans rfl
             have c3 := (blk_cell Hb4.out 3).trans rfl
             have c4 := (blk_cell Hb4.out 4).trans rfl
             have c5 := (blk_cell Hb4.out 5).trans rfl
             (try simp only [PU]))
          | (go_at_call 16; go_must (refine (check16 (HX.out.after (HK.out.trans HKr.out (fun _ _ h => h))) (Tab.up (HT.out.keep (HK.out.trans HKr.out (fun _ _ h => h)).any) (HK.out.trans HKr.out (fun _ _ h => h)).size) Hsz.out.2.2.2).mono ?_; rintro e w5 ⟨rfl, hk5⟩; rw [Hzx.out])
             have HKr := Lib.hid (show Keeps Nob wr w5 from HKr.out.trans hk5 (fun _ _ h => h))
             clear c0 c1 c2 c3 c4 c5 hk5
             (try simp only [PU]))
          | ((with_reducible refine at_store (t := 25) (p := 6) rfl ?_); go_must (refine ev_store (cs' := #[.int .i64 0, .bool false, .int .i64 0, .string ByteArray.empty, .slice none 0 0, .slice none 0 0]) rfl rfl rfl rfl rfl rfl HI.out.1.1 HI.out.1.2 rfl (HKr.out.blk Hb3.out id) (Nat.le_of_ble_eq_true rfl) rfl ?_; intro w9 hb9 hk9)
             have Hb9z := Lib.hid hb9
             have HK9 := Lib.hid (show Keeps Nob W w9 from (HK.out.trans HKr.out (fun _ _ h => h)).trans hk9 (fun i hi e => by have := Hgs.out; omega))
             clear hb9 hk9
             (try clear c0 c1 c2 c3 c4 c5)
             have d0 := (blk_cell Hb9z.out 0).trans rfl
             have d1 := (blk_cell Hb9z.out 1).trans rfl
             have d2 := (blk_cell Hb9z.out 2).trans rfl
             have d3 := (blk_cell Hb9z.out 3).trans rfl
             have d4 := (blk_cell Hb9z.out 4).trans rfl
             have d5 := (blk_cell Hb9z.out 5).trans rfl
             (try simp only [PU]))
        )
        refine bodyPost_ret (results_ct (x := .agg #[.int .i64 0, .bool false, .int .i64 0, .string ByteArray.empty, .slice none 0 0, .slice none 0 0]) rfl _ _ rfl (by go_simp) rfl) rfl ?_
        rw [HR.out, if_neg (by simp), if_pos Hz0.out]
        exact ⟨⟨_, rfl, zval⟩, HK9.out⟩
    · subst hz0
      subst hzx0
      have HKr := Lib.hid (Keeps.refl Nob wr)
      (try clear c0 c1 c2 c3 c4 c5)
      have c0 := (blk_cell Hb1.out 0).trans rfl
      have c1 := (blk_cell Hb1.out 1).trans rfl
      have c2 := (blk_cell Hb1.out 2).trans rfl
      have c3 := (blk_cell Hb1.out 3).trans rfl
      have c4 := (blk_cell Hb1.out 4).trans rfl
      have c5 := (blk_cell Hb1.out 5).trans rfl
      by_cases hk6 : k = 6
      · have Hfl := Lib.hid (show kl = nv by rw [← Hln.out.1, ← Hln.out.2]; exact formed_len (check_formed Hz.out) hk6)
        subst hk6
        obtain ⟨q, hq⟩ : ∃ q, idxK key ks = q := ⟨_, rfl⟩
        have Hq := Lib.hid hq
        clear hq
        go_upto_if 37 with (first
          | (go_at_call 59; go_must (refine (own59 _ _ _ _ (HV.out.after HK.out) Hsz.out.1).mono ?_; rintro e w5 ⟨⟨v5, rfl, ho5⟩, hk5⟩; obtain ⟨oA, oc, rA, rc, X5, xs5, rfl, hos, hoj⟩ := ho5.open Hln.out.1 Hln.out.2)
             have HOS := Lib.hid hos
             have HOJ := Lib.hid hoj
             have HKr := Lib.hid hk5
             clear hk5 hos hoj ho5 c0 c1 c2 c3 c4 c5
             (try simp only [PU]))
          | ((with_reducible refine at_dst (N := 11) rfl ?_); go_must (refine ev_alloc rfl rfl zero25 rfl ?_; intro g7 w6 hg7 hl7 hb7 hk7)
             have Hb7 := Lib.hid hb7
             have HOS := Lib.hid (HOS.out.keep hk7 (fun _ _ => id))
             have HOJ := Lib.hid (HOJ.out.swap (E' := fun b => some b = (Value.slice oA kl oc).ownBlock ∨ b = g7) hk7 (fun _ _ e => e.elim) (fun b e => e.elim .inl (fun e => .inr (by omega))))
             have Hg7 := Lib.hid (show wr.heap.size ≤ g7 from Nat.le_trans HKr.out.size hg7)
             have HKr := Lib.hid (HKr.out.trans hk7 (fun _ _ h => h))
             clear hg7 hl7 hb7 hk7
             (try simp only [PU]))
          | ((with_reducible refine at_store (t := 25) (p := 11) rfl ?_); go_must (refine ev_store (cs' := #[.int .i64 6, .bool b, .int .i64 n, .string t, .slice oA kl oc, .slice rA nv rc]) rfl rfl rfl rfl rfl rfl HI.out.1.1 HI.out.1.2 rfl Hb7.out (Nat.le_of_ble_eq_true rfl) rfl ?_; intro w8 hb8 hk8)
             have HOS := Lib.hid (HOS.out.keep hk8 (fun q e h => HOS.out.ne Hb7.out (by decide) (by rw [e, h])))
             have HOJ := Lib.hid (HOJ.out.keep hk8 (fun b _ e => .inr (.inr e)))
             have Hb7 := Lib.hid hb8
             have HKr := Lib.hid (show Keeps Nob wr w8 from HKr.out.trans hk8 (fun i hi e => by have := Hg7.out; omega))
             clear hb8 hk8
             (try clear c0 c1 c2 c3 c4 c5)
             have c0 := (blk_cell Hb7.out 0).trans rfl
             have c1 := (blk_cell Hb7.out 1).trans rfl
             have c2 := (blk_cell Hb7.out 2).trans rfl
             have c3 := (blk_cell Hb7.out 3).trans rfl
             have c4 := (blk_cell Hb7.out 4).trans rfl
             have c5 := (blk_cell Hb7.out 5).trans rfl
             (try simp only [PU]))
          | (go_at_call 58; go_must (refine (index58 HOS.out.strs (Nat.le_trans Hkl.out.1 (by decide))).mono ?_; rintro e w9 ⟨rfl, rfl⟩; rw [Hq.out]); (try simp only [PU]))
        )
        clear c0 c1 c2 c3
        go_cut [12] (fun iv wx => ∃ (i : Nat) (ks' : List ByteArray) (vs' : List J) (oA' rA' : Option Addr) (kl' nv' oc' rc' : Nat) (X' : Nat → Prop) (xs' : List Value), iv = .int .i64 i ∧ i < nv' ∧ nv' ≤ 1000000000 ∧ kl' ≤ 1000000000 ∧ Hid (ks'.length = kl' ∧ vs'.length = nv') ∧ Hid (out = .mk 6 b n t ks' (vs'.set i x)) ∧ Hid (wx.heap[g7]? = some (.cells #[.int .i64 6, .bool b, .int .i64 n, .string t, .slice oA' kl' oc', .slice rA' nv' rc'] 25 (0, 0))) ∧ Hid (OwnS wx wr.heap.size (.slice oA' kl' oc') ks') ∧ Hid (RowJ wx wr.heap.size (fun b => some b = (Value.slice oA' kl' oc').ownBlock ∨ b = g7) (.slice rA' nv' rc') vs' X' xs') ∧ Hid (Keeps Nob wr wx))
        case first =>
          rcases q with _ | i
          · simp only [show idxI none = -1 from rfl]
            go_upto_region 14 with fail
            have Hb7 := Lib.hid ((Keeps.refl Nob _).drew.blk Hb7.out id)
            have HOS := Lib.hid (HOS.out.keep (Keeps.refl Nob _).drew (fun _ _ => id))
            have HOJ := Lib.hid (HOJ.out.keep (Keeps.refl Nob _).drew (fun _ _ e => e.elim))
            have HKr := Lib.hid (HKr.out.trans (Keeps.refl Nob _).drew (fun _ _ h => h))
            have s4 := (blk_cell Hb7.out 4).trans rfl
            have s5 := (blk_cell Hb7.out 5).trans rfl
            have hkl9 := Hkl.out
            clear c4 c5
            refine wp_region_treec 11 (.q 0 (.q 1 (.q 2 (.q 5 (.q 6 (.qf 7 (.br [3, 8] (fun k => bif Nat.beq k 3 then .br [4, 8] (fun k => bif Nat.beq k 4 then .q 10 (.br [8] (fun k => .br [9] (fun k => .brc [11] (fun k => .brc [12] (fun k => .brc [13] (fun k => .done)))))) else .br [4] (fun k => .q 10 (.br [9] (fun k => .brc [11] (fun k => .brc [12] (fun k => .brc [13] (fun k => .done))))))) else .br [3] (fun k => .br [4] (fun k => .q 10 (.br [9] (fun k => .brc [11] (fun k => .brc [12] (fun k => .brc [13] (fun k => .done))))))))))))))) (fun w' => w'.cell? ⟨g7, 4, none⟩ = some (.slice oA kl oc) ∧ w'.cell? ⟨g7, 5, none⟩ = some (.slice rA nv rc)) rfl (by kernel_rfl) (by kernel_rfl) (fun c a d v w h => by cases d <;> exact h) ⟨s4, s5⟩ ?_
            refine treec_q (v := ?v1_13) (some 41) rfl rfl rfl ?q1_13 ?h1_13; (case q1_13 => (intro w' hS; obtain ⟨s1, s2⟩ := hS; first | (go_simp; done) | (go_simp; rfl))); (try simp only [PU])
            refine treec_q (v := ?v1_12) (some 42) rfl rfl rfl ?q1_12 ?h1_12; (case q1_12 => (intro w' hS; obtain ⟨s1, s2⟩ := hS; first | (go_simp; done) | (go_simp; rfl))); (try simp only [PU])
            refine treec_q (v := ?v1_11) (some 43) rfl rfl rfl ?q1_11 ?h1_11; (case q1_11 => (intro w' hS; obtain ⟨s1, s2⟩ := hS; first | (go_simp; done) | (go_simp; rfl))); (try simp only [PU])
            refine treec_q (v := ?v1_10) (some 46) rfl rfl rfl ?q1_10 ?h1_10; (case q1_10 => (intro w' hS; obtain ⟨s1, s2⟩ := hS; first | (go_simp; done) | (go_simp; rfl))); (try simp only [PU])
            refine treec_q (v := ?v1_9) (some 47) rfl rfl rfl ?q1_9 ?h1_9; (case q1_9 => (intro w' hS; obtain ⟨s1, s2⟩ := hS; first | (go_simp; done) | (go_simp; rfl))); (try simp only [PU])
            refine treec_qf (v := ?v1_8) (some 48) rfl rfl rfl ?q1_8 ?h1_8; (case q1_8 => (intro w'; first | (go_simp; done) | (go_simp; rfl))); (try simp only [PU])
            refine treec_b rfl rfl ?b1_5 ?nb1_5
            case' b1_5 =>
              go_must (refine ev_slice (cs := #[.string key]) (t := 9) (n := 1) (c := 1) rfl (by first | (go_simp; done) | (go_simp; rfl)) ?_; intro gk wk hgk hlk hbk hkk)
              (try simp only [PU])
              have Hbk := Lib.hid hbk
              (try have Hbz := Lib.hid (hkk.blk Hbz.out id))
              have Hb7 := Lib.hid (hkk.blk Hb7.out id)
              have HOS := Lib.hid (HOS.out.keep hkk (fun _ _ => id))
              have HOJ := Lib.hid (HOJ.out.keep hkk (fun _ _ e => e.elim))
              have HKr := Lib.hid (HKr.out.trans hkk (fun _ _ h => h))
              clear s4 s5
              have s4 := (blk_cell Hb7.out 4).trans rfl
              have s5 := (blk_cell Hb7.out 5).trans rfl
              clear hgk hlk hbk hkk
              refine wpList_nil ⟨⟨s4, s5⟩, ?_⟩
              refine treec_b rfl rfl ?b1_2 ?nb1_2
              case' b1_2 =>
                have hrow := HOS.out
                unfold OwnS at hrow
                rw [Hln.out.1] at hrow
                have Hrow := Lib.hid hrow
                clear hrow
                go_must (refine ev_append rfl rfl Tryd.underlying22 info9b rfl (by decide) (base := wr.heap.size) rfl Hrow.out rfl (news := [Value.string key]) rfl (fun _ => ⟨_, rfl, World.news_of_block Hbk.out⟩) (by simp [Value.oneCell']) (by omega) (by decide) HKr.out.size ?_; intro v9 w11 hown9 hk11 hr11 hf11; obtain ⟨gq, cq, rfl⟩ := hf11 (by decide))
                (try simp only [PU])
                (try have Hbz := Lib.hid (hk11.blk Hbz.out (HOS.out.ne Hbz.out (by decide))))
                have Hb7 := Lib.hid (hk11.blk Hb7.out (HOS.out.ne Hb7.out (by decide)))
                have HOJ := Lib.hid (HOJ.out.swap (E' := fun b => some b = (Value.slice (some ⟨gq, 0, none⟩) (kl + 1) cq).ownBlock ∨ b = g7) hk11 (fun b _ e => .inr (.inl e)) (fun b e => e.elim (fun e => by
                  rcases hr11 with h | ⟨k, h, hk⟩
                  · exact .inl (.inl (e.trans h))
                  · rw [h] at e; injection e with e; exact .inr (by omega)) (fun e => .inl (.inr e))))
                have HKr := Lib.hid (show Keeps Nob wr w11 from HKr.out.trans hk11 (fun i hi e => by have := (HOS.out.lt i e.symm).1; omega))
                have HOS := Lib.hid (show OwnS w11 wr.heap.size (.slice (some ⟨gq, 0, none⟩) (kl + 1) cq) (ks ++ [key]) from by unfold OwnS; rw [List.length_append, List.map_append, Hln.out.1]; exact hown9)
                clear hown9 hk11 hr11 hf11 Hbk Hrow s4 s5
                have s4 := (blk_cell Hb7.out 4).trans rfl
                have s5 := (blk_cell Hb7.out 5).trans rfl
                refine wpList_nil ⟨⟨s4, s5⟩, ?_⟩
                refine treec_q (v := ?v1_1) (some 51) rfl rfl rfl ?q1_1 ?h1_1; (case q1_1 => (intro w' hS; obtain ⟨s1, s2⟩ := hS; first | (go_simp; done) | (go_simp; rfl))); (try simp only [PU])
                refine treec_e rfl rfl ?_
                go_must (refine ev_slice (cs := #[.int .i64 0, .bool false, .int .i64 0, .string ByteArray.empty, .slice none 0 0, .slice none 0 0]) (t := 25) (n := 1) (c := 1) rfl (by first | (go_simp; done) | (go_simp; rfl)) ?_; intro gz wz hgz hlz hbz hkz)
                (try simp only [PU])
                have Hbz := Lib.hid hbz
                (try have Hbk := Lib.hid (hkz.blk Hbk.out id))
                have Hb7 := Lib.hid (hkz.blk Hb7.out id)
                have HOS := Lib.hid (HOS.out.keep hkz (fun _ _ => id))
                have HOJ := Lib.hid (HOJ.out.keep hkz (fun _ _ e => e.elim))
                have HKr := Lib.hid (HKr.out.trans hkz (fun _ _ h => h))
                clear s4 s5
                have s4 := (blk_cell Hb7.out 4).trans rfl
                have s5 := (blk_cell Hb7.out 5).trans rfl
                clear hgz hlz hbz hkz
                refine wpList_nil ⟨⟨s4, s5⟩, ?_⟩
                refine treec_e rfl rfl ?_
                have hrow := HOJ.out.row
                rw [Hln.out.2] at hrow
                have Hrow := Lib.hid hrow
                clear hrow
                go_must (refine ev_append rfl rfl Tryd.underlying23 info25b rfl (by decide) (base := wr.heap.size) rfl Hrow.out rfl (news := [.int .i64 0, .bool false, .int .i64 0, .string ByteArray.empty, .slice none 0 0, .slice none 0 0]) rfl (fun _ => ⟨_, rfl, World.news_of_block Hbz.out⟩) (by simp [Value.oneCell']) (by omega) (by decide) HKr.out.size ?_; intro v6 w12 hown6 hk12 hr12 hf12; obtain ⟨gv, cv, rfl⟩ := hf12 (by decide))
                (try simp only [PU])
                have HOJ2 := Lib.hid (HOJ.out.more (fun b e => e.elim (fun e => (HOS.out.lt b e.symm).2) (fun e => by rw [e]; exact blk_lt Hb7.out)) (by rw [Hln.out.2]; exact hown6) hk12 hr12)
                have HOS := Lib.hid (HOS.out.keep hk12 (fun q e h => HOJ.out.ne q h.symm (.inl e.symm)))
                have Hb7 := Lib.hid (hk12.blk Hb7.out (fun e => HOJ.out.ne g7 e.symm (.inr rfl)))
                have HKr := Lib.hid (show Keeps Nob wr w12 from HKr.out.trans hk12 (fun i hi e => by have := (row_lt HOJ.out.row i e.symm).1; omega))
                have HOJ := HOJ2
                clear hown6 hk12 hr12 hf12 Hbz Hrow s4 s5 HOJ2
                have s4 := (blk_cell Hb7.out 4).trans rfl
                have s5 := (blk_cell Hb7.out 5).trans rfl
                refine wpList_nil ⟨⟨s4, s5⟩, ?_⟩
                refine treec_f rfl rfl ?_
                go_must (refine ev_store (off := 4) (cs' := #[.int .i64 6, .bool b, .int .i64 n, .string t, .slice (some ⟨gq, 0, none⟩) (kl + 1) cq, .slice rA nv rc]) rfl rfl rfl rfl rfl rfl HI.out.2.2.1 HI.out.2.2.2 rfl Hb7.out (Nat.le_of_ble_eq_true rfl) rfl ?_; intro w13 hb13 hk13)
                (try simp only [PU])
                have HOS := Lib.hid (HOS.out.keep hk13 (fun q e h => HOS.out.ne Hb7.out (by decide) (by rw [e, h])))
                have HOJ := Lib.hid (HOJ.out.keep hk13 (fun b _ e => .inr (.inr e)))
                have Hb7 := Lib.hid hb13
                have HKr := Lib.hid (show Keeps Nob wr w13 from HKr.out.trans hk13 (fun i hi e => by have := Hg7.out; omega))
                clear hb13 hk13
                refine wpList_nil (then_normal ?_)
                refine treec_f rfl rfl ?_
                go_wp2_with fail
                refine treec_f rfl rfl ?_
                go_must (refine ev_store (off := 5) (cs' := #[.int .i64 6, .bool b, .int .i64 n, .string t, .slice (some ⟨gq, 0, none⟩) (kl + 1) cq, .slice (some ⟨gv, 0, none⟩) (nv + 1) cv]) rfl rfl rfl rfl rfl rfl HI.out.2.1.1 HI.out.2.1.2 rfl Hb7.out (Nat.le_of_ble_eq_true rfl) rfl ?_; intro w14 hb14 hk14)
                (try simp only [PU])
                have HOS := Lib.hid (HOS.out.keep hk14 (fun q e h => HOS.out.ne Hb7.out (by decide) (by rw [e, h])))
                have HOJ := Lib.hid (HOJ.out.keep hk14 (fun b _ e => .inr (.inr e)))
                have Hb7 := Lib.hid hb14
                have HKr := Lib.hid (show Keeps Nob wr w14 from HKr.out.trans hk14 (fun i hi e => by have := Hg7.out; omega))
                clear hb14 hk14
                refine wpList_nil (then_normal ?_)
                refine treec_nil ?_
              case' nb1_2 =>
                refine treec_e rfl rfl ?b1_4
                case' b1_4 =>
                  go_must (refine ev_slice (cs := #[.int .i64 0, .bool false, .int .i64 0, .string ByteArray.empty, .slice none 0 0, .slice none 0 0]) (t := 25) (n := 1) (c := 1) rfl (by first | (go_simp; done) | (go_simp; rfl)) ?_; intro gz wz hgz hlz hbz hkz)
                  (try simp only [PU])
                  have Hbz := Lib.hid hbz
                  (try have Hbk := Lib.hid (hkz.blk Hbk.out id))
                  have Hb7 := Lib.hid (hkz.blk Hb7.out id)
                  have HOS := Lib.hid (HOS.out.keep hkz (fun _ _ => id))
                  have HOJ := Lib.hid (HOJ.out.keep hkz (fun _ _ e => e.elim))
                  have HKr := Lib.hid (HKr.out.trans hkz (fun _ _ h => h))
                  clear s4 s5
                  have s4 := (blk_cell Hb7.out 4).trans rfl
                  have s5 := (blk_cell Hb7.out 5).trans rfl
                  clear hgz hlz hbz hkz
                  refine wpList_nil ⟨⟨s4, s5⟩, ?_⟩
                  refine treec_e rfl rfl ?_
                  have hrow := HOS.out
                  unfold OwnS at hrow
                  rw [Hln.out.1] at hrow
                  have Hrow := Lib.hid hrow
                  clear hrow
                  go_must (refine ev_append rfl rfl Tryd.underlying22 info9b rfl (by decide) (base := wr.heap.size) rfl Hrow.out rfl (news := [Value.string key]) rfl (fun _ => ⟨_, rfl, World.news_of_block Hbk.out⟩) (by simp [Value.oneCell']) (by omega) (by decide) HKr.out.size ?_; intro v9 w11 hown9 hk11 hr11 hf11; obtain ⟨gq, cq, rfl⟩ := hf11 (by decide))
                  (try simp only [PU])
                  (try have Hbz := Lib.hid (hk11.blk Hbz.out (HOS.out.ne Hbz.out (by decide))))
                  have Hb7 := Lib.hid (hk11.blk Hb7.out (HOS.out.ne Hb7.out (by decide)))
                  have HOJ := Lib.hid (HOJ.out.swap (E' := fun b => some b = (Value.slice (some ⟨gq, 0, none⟩) (kl + 1) cq).ownBlock ∨ b = g7) hk11 (fun b _ e => .inr (.inl e)) (fun b e => e.elim (fun e => by
                    rcases hr11 with h | ⟨k, h, hk⟩
                    · exact .inl (.inl (e.trans h))
                    · rw [h] at e; injection e with e; exact .inr (by omega)) (fun e => .inl (.inr e))))
                  have HKr := Lib.hid (show Keeps Nob wr w11 from HKr.out.trans hk11 (fun i hi e => by have := (HOS.out.lt i e.symm).1; omega))
                  have HOS := Lib.hid (show OwnS w11 wr.heap.size (.slice (some ⟨gq, 0, none⟩) (kl + 1) cq) (ks ++ [key]) from by unfold OwnS; rw [List.length_append, List.map_append, Hln.out.1]; exact hown9)
                  clear hown9 hk11 hr11 hf11 Hbk Hrow s4 s5
                  have s4 := (blk_cell Hb7.out 4).trans rfl
                  have s5 := (blk_cell Hb7.out 5).trans rfl
                  refine wpList_nil ⟨⟨s4, s5⟩, ?_⟩
                  refine treec_q (v := ?v1_3) (some 51) rfl rfl rfl ?q1_3 ?h1_3; (case q1_3 => (intro w' hS; obtain ⟨s1, s2⟩ := hS; first | (go_simp; done) | (go_simp; rfl))); (try simp only [PU])
                  refine treec_e rfl rfl ?_
                  have hrow := HOJ.out.row
                  rw [Hln.out.2] at hrow
                  have Hrow := Lib.hid hrow
                  clear hrow
                  go_must (refine ev_append rfl rfl Tryd.underlying23 info25b rfl (by decide) (base := wr.heap.size) rfl Hrow.out rfl (news := [.int .i64 0, .bool false, .int .i64 0, .string ByteArray.empty, .slice none 0 0, .slice none 0 0]) rfl (fun _ => ⟨_, rfl, World.news_of_block Hbz.out⟩) (by simp [Value.oneCell']) (by omega) (by decide) HKr.out.size ?_; intro v6 w12 hown6 hk12 hr12 hf12; obtain ⟨gv, cv, rfl⟩ := hf12 (by decide))
                  (try simp only [PU])
                  have HOJ2 := Lib.hid (HOJ.out.more (fun b e => e.elim (fun e => (HOS.out.lt b e.symm).2) (fun e => by rw [e]; exact blk_lt Hb7.out)) (by rw [Hln.out.2]; exact hown6) hk12 hr12)
                  have HOS := Lib.hid (HOS.out.keep hk12 (fun q e h => HOJ.out.ne q h.symm (.inl e.symm)))
                  have Hb7 := Lib.hid (hk12.blk Hb7.out (fun e => HOJ.out.ne g7 e.symm (.inr rfl)))
                  have HKr := Lib.hid (show Keeps Nob wr w12 from HKr.out.trans hk12 (fun i hi e => by have := (row_lt HOJ.out.row i e.symm).1; omega))
                  have HOJ := HOJ2
                  clear hown6 hk12 hr12 hf12 Hbz Hrow s4 s5 HOJ2
                  have s4 := (blk_cell Hb7.out 4).trans rfl
                  have s5 := (blk_cell Hb7.out 5).trans rfl
                  refine wpList_nil ⟨⟨s4, s5⟩, ?_⟩
                  refine treec_f rfl rfl ?_
                  go_must (refine ev_store (off := 4) (cs' := #[.int .i64 6, .bool b, .int .i64 n, .string t, .slice (some ⟨gq, 0, none⟩) (kl + 1) cq, .slice rA nv rc]) rfl rfl rfl rfl rfl rfl HI.out.2.2.1 HI.out.2.2.2 rfl Hb7.out (Nat.le_of_ble_eq_true rfl) rfl ?_; intro w13 hb13 hk13)
                  (try simp only [PU])
                  have HOS := Lib.hid (HOS.out.keep hk13 (fun q e h => HOS.out.ne Hb7.out (by decide) (by rw [e, h])))
                  have HOJ := Lib.hid (HOJ.out.keep hk13 (fun b _ e => .inr (.inr e)))
                  have Hb7 := Lib.hid hb13
                  have HKr := Lib.hid (show Keeps Nob wr w13 from HKr.out.trans hk13 (fun i hi e => by have := Hg7.out; omega))
                  clear hb13 hk13
                  refine wpList_nil (then_normal ?_)
                  refine treec_f rfl rfl ?_
                  go_wp2_with fail
                  refine treec_f rfl rfl ?_
                  go_must (refine ev_store (off := 5) (cs' := #[.int .i64 6, .bool b, .int .i64 n, .string t, .slice (some ⟨gq, 0, none⟩) (kl + 1) cq, .slice (some ⟨gv, 0, none⟩) (nv + 1) cv]) rfl rfl rfl rfl rfl rfl HI.out.2.1.1 HI.out.2.1.2 rfl Hb7.out (Nat.le_of_ble_eq_true rfl) rfl ?_; intro w14 hb14 hk14)
                  (try simp only [PU])
                  have HOS := Lib.hid (HOS.out.keep hk14 (fun q e h => HOS.out.ne Hb7.out (by decide) (by rw [e, h])))
                  have HOJ := Lib.hid (HOJ.out.keep hk14 (fun b _ e => .inr (.inr e)))
                  have Hb7 := Lib.hid hb14
                  have HKr := Lib.hid (show Keeps Nob wr w14 from HKr.out.trans hk14 (fun i hi e => by have := Hg7.out; omega))
                  clear hb14 hk14
                  refine wpList_nil (then_normal ?_)
                  refine treec_nil ?_
            case' nb1_5 =>
              refine treec_e rfl rfl ?b1_7
              case' b1_7 =>
                go_must (refine ev_slice (cs := #[.int .i64 0, .bool false, .int .i64 0, .string ByteArray.empty, .slice none 0 0, .slice none 0 0]) (t := 25) (n := 1) (c := 1) rfl (by first | (go_simp; done) | (go_simp; rfl)) ?_; intro gz wz hgz hlz hbz hkz)
                (try simp only [PU])
                have Hbz := Lib.hid hbz
                (try have Hbk := Lib.hid (hkz.blk Hbk.out id))
                have Hb7 := Lib.hid (hkz.blk Hb7.out id)
                have HOS := Lib.hid (HOS.out.keep hkz (fun _ _ => id))
                have HOJ := Lib.hid (HOJ.out.keep hkz (fun _ _ e => e.elim))
                have HKr := Lib.hid (HKr.out.trans hkz (fun _ _ h => h))
                clear s4 s5
                have s4 := (blk_cell Hb7.out 4).trans rfl
                have s5 := (blk_cell Hb7.out 5).trans rfl
                clear hgz hlz hbz hkz
                refine wpList_nil ⟨⟨s4, s5⟩, ?_⟩
                refine treec_e rfl rfl ?_
                go_must (refine ev_slice (cs := #[.string key]) (t := 9) (n := 1) (c := 1) rfl (by first | (go_simp; done) | (go_simp; rfl)) ?_; intro gk wk hgk hlk hbk hkk)
                (try simp only [PU])
                have Hbk := Lib.hid hbk
                (try have Hbz := Lib.hid (hkk.blk Hbz.out id))
                have Hb7 := Lib.hid (hkk.blk Hb7.out id)
                have HOS := Lib.hid (HOS.out.keep hkk (fun _ _ => id))
                have HOJ := Lib.hid (HOJ.out.keep hkk (fun _ _ e => e.elim))
                have HKr := Lib.hid (HKr.out.trans hkk (fun _ _ h => h))
                clear s4 s5
                have s4 := (blk_cell Hb7.out 4).trans rfl
                have s5 := (blk_cell Hb7.out 5).trans rfl
                clear hgk hlk hbk hkk
                refine wpList_nil ⟨⟨s4, s5⟩, ?_⟩
                refine treec_e rfl rfl ?_
                have hrow := HOS.out
                unfold OwnS at hrow
                rw [Hln.out.1] at hrow
                have Hrow := Lib.hid hrow
                clear hrow
                go_must (refine ev_append rfl rfl Tryd.underlying22 info9b rfl (by decide) (base := wr.heap.size) rfl Hrow.out rfl (news := [Value.string key]) rfl (fun _ => ⟨_, rfl, World.news_of_block Hbk.out⟩) (by simp [Value.oneCell']) (by omega) (by decide) HKr.out.size ?_; intro v9 w11 hown9 hk11 hr11 hf11; obtain ⟨gq, cq, rfl⟩ := hf11 (by decide))
                (try simp only [PU])
                (try have Hbz := Lib.hid (hk11.blk Hbz.out (HOS.out.ne Hbz.out (by decide))))
                have Hb7 := Lib.hid (hk11.blk Hb7.out (HOS.out.ne Hb7.out (by decide)))
                have HOJ := Lib.hid (HOJ.out.swap (E' := fun b => some b = (Value.slice (some ⟨gq, 0, none⟩) (kl + 1) cq).ownBlock ∨ b = g7) hk11 (fun b _ e => .inr (.inl e)) (fun b e => e.elim (fun e => by
                  rcases hr11 with h | ⟨k, h, hk⟩
                  · exact .inl (.inl (e.trans h))
                  · rw [h] at e; injection e with e; exact .inr (by omega)) (fun e => .inl (.inr e))))
                have HKr := Lib.hid (show Keeps Nob wr w11 from HKr.out.trans hk11 (fun i hi e => by have := (HOS.out.lt i e.symm).1; omega))
                have HOS := Lib.hid (show OwnS w11 wr.heap.size (.slice (some ⟨gq, 0, none⟩) (kl + 1) cq) (ks ++ [key]) from by unfold OwnS; rw [List.length_append, List.map_append, Hln.out.1]; exact hown9)
                clear hown9 hk11 hr11 hf11 Hbk Hrow s4 s5
                have s4 := (blk_cell Hb7.out 4).trans rfl
                have s5 := (blk_cell Hb7.out 5).trans rfl
                refine wpList_nil ⟨⟨s4, s5⟩, ?_⟩
                refine treec_q (v := ?v1_6) (some 51) rfl rfl rfl ?q1_6 ?h1_6; (case q1_6 => (intro w' hS; obtain ⟨s1, s2⟩ := hS; first | (go_simp; done) | (go_simp; rfl))); (try simp only [PU])
                refine treec_e rfl rfl ?_
                have hrow := HOJ.out.row
                rw [Hln.out.2] at hrow
                have Hrow := Lib.hid hrow
                clear hrow
                go_must (refine ev_append rfl rfl Tryd.underlying23 info25b rfl (by decide) (base := wr.heap.size) rfl Hrow.out rfl (news := [.int .i64 0, .bool false, .int .i64 0, .string ByteArray.empty, .slice none 0 0, .slice none 0 0]) rfl (fun _ => ⟨_, rfl, World.news_of_block Hbz.out⟩) (by simp [Value.oneCell']) (by omega) (by decide) HKr.out.size ?_; intro v6 w12 hown6 hk12 hr12 hf12; obtain ⟨gv, cv, rfl⟩ := hf12 (by decide))
                (try simp only [PU])
                have HOJ2 := Lib.hid (HOJ.out.more (fun b e => e.elim (fun e => (HOS.out.lt b e.symm).2) (fun e => by rw [e]; exact blk_lt Hb7.out)) (by rw [Hln.out.2]; exact hown6) hk12 hr12)
                have HOS := Lib.hid (HOS.out.keep hk12 (fun q e h => HOJ.out.ne q h.symm (.inl e.symm)))
                have Hb7 := Lib.hid (hk12.blk Hb7.out (fun e => HOJ.out.ne g7 e.symm (.inr rfl)))
                have HKr := Lib.hid (show Keeps Nob wr w12 from HKr.out.trans hk12 (fun i hi e => by have := (row_lt HOJ.out.row i e.symm).1; omega))
                have HOJ := HOJ2
                clear hown6 hk12 hr12 hf12 Hbz Hrow s4 s5 HOJ2
                have s4 := (blk_cell Hb7.out 4).trans rfl
                have s5 := (blk_cell Hb7.out 5).trans rfl
                refine wpList_nil ⟨⟨s4, s5⟩, ?_⟩
                refine treec_f rfl rfl ?_
                go_must (refine ev_store (off := 4) (cs' := #[.int .i64 6, .bool b, .int .i64 n, .string t, .slice (some ⟨gq, 0, none⟩) (kl + 1) cq, .slice rA nv rc]) rfl rfl rfl rfl rfl rfl HI.out.2.2.1 HI.out.2.2.2 rfl Hb7.out (Nat.le_of_ble_eq_true rfl) rfl ?_; intro w13 hb13 hk13)
                (try simp only [PU])
                have HOS := Lib.hid (HOS.out.keep hk13 (fun q e h => HOS.out.ne Hb7.out (by decide) (by rw [e, h])))
                have HOJ := Lib.hid (HOJ.out.keep hk13 (fun b _ e => .inr (.inr e)))
                have Hb7 := Lib.hid hb13
                have HKr := Lib.hid (show Keeps Nob wr w13 from HKr.out.trans hk13 (fun i hi e => by have := Hg7.out; omega))
                clear hb13 hk13
                refine wpList_nil (then_normal ?_)
                refine treec_f rfl rfl ?_
                go_wp2_with fail
                refine treec_f rfl rfl ?_
                go_must (refine ev_store (off := 5) (cs' := #[.int .i64 6, .bool b, .int .i64 n, .string t, .slice (some ⟨gq, 0, none⟩) (kl + 1) cq, .slice (some ⟨gv, 0, none⟩) (nv + 1) cv]) rfl rfl rfl rfl rfl rfl HI.out.2.1.1 HI.out.2.1.2 rfl Hb7.out (Nat.le_of_ble_eq_true rfl) rfl ?_; intro w14 hb14 hk14)
                (try simp only [PU])
                have HOS := Lib.hid (HOS.out.keep hk14 (fun q e h => HOS.out.ne Hb7.out (by decide) (by rw [e, h])))
                have HOJ := Lib.hid (HOJ.out.keep hk14 (fun b _ e => .inr (.inr e)))
                have Hb7 := Lib.hid hb14
                have HKr := Lib.hid (show Keeps Nob wr w14 from HKr.out.trans hk14 (fun i hi e => by have := Hg7.out; omega))
                clear hb14 hk14
                refine wpList_nil (then_normal ?_)
                refine treec_nil ?_
            all_goals
              go_wp2_with fail
              go_meet
              exact ⟨kl, ks ++ [key], vs ++ [zJ], some ⟨gq, 0, none⟩, some ⟨gv, 0, none⟩, kl + 1, nv + 1, cq, cv, X5, xs5 ++ z6, rfl, by have := Hfl.out; omega, by omega, by omega, Lib.hid ⟨by rw [List.length_append, Hln.out.1]; rfl, by rw [List.length_append, Hln.out.2]; rfl⟩, Lib.hid (by
                rw [← Hout.out, putOut_mk, Hq.out, List.set_append_right _ _ (by rw [Hln.out.2, Hfl.out]; exact Nat.le_refl _), Hln.out.2, Hfl.out, Nat.sub_self]
                rfl), Hb7, HOS, HOJ, HKr⟩
          · simp only [show idxI (some i) = (i : Int) from rfl]
            have hi := (idxK_some Hq.out).1
            rw [Hln.out.1] at hi
            have hii : ¬ (i : Int) < 0 := by omega
            go_wp2
            go_meet
            exact ⟨i, ks, vs, oA, rA, kl, nv, oc, rc, X5, xs5, rfl, by have := Hfl.out; omega, by have := Hkl.out; omega, by have := Hkl.out; omega, Hln, Lib.hid (by rw [← Hout.out]; show (match idxK key ks with | none => J.mk 6 b n t (ks ++ [key]) (vs ++ [x]) | some i => J.mk 6 b n t ks (vs.set i x)) = _; rw [Hq.out]), Hb7, HOS, HOJ, HKr⟩
        case rest =>
          obtain ⟨i, ks', vs', oA', rA', kl', nv', oc', rc', X', xs', rfl, hi, hnv', hkl', Hln', Hout', Hb7, HOS, HOJ, HKr⟩ := hcut
          have hii : (i : Int) < (nv' : Int) := by omega
          have hrow := HOJ.out.row
          rw [Hln'.out.2] at hrow
          obtain ⟨gr, rc2, cur, he, hgr, hcur, hfit, hset⟩ := row_set hrow hi
          injection he with he1 he2 he3
          subst he1; subst he3
          have Hcur := Lib.hid hcur
          have Hfit := Lib.hid hfit
          have Hset := Lib.hid hset
          have Hgr := Lib.hid hgr
          have HKd := Lib.hid (Keeps.refl Nob wc).drew
          have Hbx := Lib.hid (HKr.out.blk Hb2.out id)
          have c5 : wc.drew.cell? ⟨g7, 5, none⟩ = some (.slice (some ⟨gr, 0, none⟩) nv' rc') := (blk_cell (HKd.out.blk Hb7.out id) 5).trans rfl
          clear hcur hfit hset hgr hrow
          go_upto_region 15 with fail
          refine wp_region_tree (.q 0 (.q 1 (.q 2 (.br [3] (fun k => .br [4] (fun k => .q 5 (.br [6] (fun k => .done)))))))) (fun w' => w'.cell? ⟨g7, 5, none⟩ = some (.slice (some ⟨gr, 0, none⟩) nv' rc')) rfl (by kernel_rfl) (by kernel_rfl) (fun c a d v w h => by cases d <;> exact h) c5 ?_
          refine tree_q (v := ?v2_4) (some 53) rfl rfl rfl ?q2_4 ?h2_4; (case q2_4 => (intro w' hS; skip; first | (go_simp; done) | (go_simp; rfl))); (try simp only [PU])
          refine tree_q (v := ?v2_3) (some 54) rfl rfl rfl ?q2_3 ?h2_3; (case q2_3 => (intro w' hS; skip; first | (go_simp; done) | (go_simp; rfl))); (try simp only [PU])
          refine tree_q (v := ?v2_2) (some 55) rfl rfl rfl ?q2_2 ?h2_2; (case q2_2 => (intro w' hS; skip; first | (go_simp; done) | (go_simp; rfl))); (try simp only [PU])
          refine tree_e rfl rfl ?_
          have e0 := (blk_cell (HKd.out.blk Hbx.out id) 0).trans rfl
          have e1 := (blk_cell (HKd.out.blk Hbx.out id) 1).trans rfl
          have e2 := (blk_cell (HKd.out.blk Hbx.out id) 2).trans rfl
          have e3 := (blk_cell (HKd.out.blk Hbx.out id) 3).trans rfl
          have e4 := (blk_cell (HKd.out.blk Hbx.out id) 4).trans rfl
          have e5 := (blk_cell (HKd.out.blk Hbx.out id) 5).trans rfl
          go_wp2_with fail
          clear e0 e1 e2 e3 e4 e5
          (try refine ⟨c5, ?_⟩)
          refine tree_e rfl rfl ?_
          go_wp2_with (go_at_call 59; go_must (refine (own59 _ _ _ _ (((HX.out.after HK.out).after HKr.out).after HKd.out) Hsz.out.2.2.1).mono ?_; rintro e w8 ⟨⟨v8, rfl, ho8⟩, hk8⟩; have hv8 := ho8.val; obtain ⟨jk, jb, jn, jt, jks, jvs, jkv, jvv, hjj, rfl, hjk, hjv⟩ := hv8.open; obtain ⟨jA, jc, rfl, -⟩ := hjk; obtain ⟨jB, jd, ju, rfl, -⟩ := hjv))
          have HX8 := Lib.hid (show JX w8 (fun b => wc.heap.size ≤ b ∧ b < w8.heap.size) _ x from hv8)
          have HK8 := Lib.hid (show Keeps Nob wc w8 from HKd.out.trans hk8 (fun _ _ h => h))
          have c8 := (blk_cell (HK8.out.blk Hb7.out id) 5).trans rfl
          clear ho8 hv8 hk8 hjj c5
          generalize jks.length = jkl at *
          generalize jvs.length = jvl at *
          (try simp only [PU])
          refine ⟨c8, ?_⟩
          refine tree_q (v := ?v2_1) (some 58) rfl rfl rfl ?q2_1 ?h2_1; (case q2_1 => (intro w' hS; skip; first | (go_simp; done) | (go_simp; rfl))); (try simp only [PU])
          refine tree_e rfl rfl ?_
          go_must (refine ev_store (x := .agg #[.int .i64 jk, .bool jb, .int .i64 jn, .string jt, .slice jA jkl jc, .slice jB jvl jd]) (vs := [.int .i64 jk, .bool jb, .int .i64 jn, .string jt, .slice jA jkl jc, .slice jB jvl jd]) (off := i * 6) (cs' := List.toArray (cur.toList.take (i * 6) ++ ([Value.int .i64 jk, Value.bool jb, Value.int .i64 jn, Value.string jt, Value.slice jA jkl jc, Value.slice jB jvl jd] : List Value) ++ cur.toList.drop (i * 6 + 6))) rfl rfl rfl rfl rfl rfl HI.out.1.1 HI.out.1.2 rfl (HK8.out.blk Hcur.out id) Hfit.out rfl ?_; intro w9 hb9 hk9)
          (try simp only [PU])
          have hrow9 := Hset.out w9 [Value.int .i64 jk, Value.bool jb, Value.int .i64 jn, Value.string jt, Value.slice jA jkl jc, Value.slice jB jvl jd] rfl hb9
          have Hj9 := Lib.hid (HOJ.out.lay (by rw [Hln'.out.2]; exact hi) HK8.out HX8.out (fun b hb => hb) rfl hk9 (by rw [Hln'.out.2]; exact hrow9) HKr.out.size)
          have Hng := Lib.hid (show g7 ≠ gr ∧ (Value.slice oA' kl' oc').ownBlock ≠ some gr from ⟨fun e => HOJ.out.ne gr rfl (.inr e.symm), fun e => HOJ.out.ne gr rfl (.inl e.symm)⟩)
          have HO9 := Lib.hid ((HOS.out.keep HK8.out (fun _ _ => id)).keep hk9 (fun q e h => Hng.out.2 (by rw [e, h])))
          have HKr := Lib.hid (show Keeps Nob wr w9 from (HKr.out.trans HK8.out (fun _ _ h => h)).trans hk9 (fun q hq e => by have := Hgr.out; omega))
          have Hb9 := Lib.hid (hk9.blk (HK8.out.blk Hb7.out id) Hng.out.1)
          have HV9 := Lib.hid (show JX w9 (fun b => wr.heap.size ≤ b ∧ b < w9.heap.size) (.agg #[.int .i64 6, .bool b, .int .i64 n, .string t, .slice oA' kl' oc', .slice (some ⟨gr, 0, none⟩) nv' rc']) out from by
            rw [Hout'.out]
            refine JX.keep (M := Nob) (X := fun b => wr.heap.size ≤ b) ?_ (Keeps.refl Nob w9) (fun _ _ _ => id) (fun b h1 h2 => ⟨h2, h1⟩)
            exact JX.close HO9.out.strs (OwnJ.js ⟨_, _, Hj9.out⟩))
          clear hb9 hk9 hrow9
          have c8 := (blk_cell Hb9.out 5).trans rfl
          refine wpList_nil ⟨c8, ?_⟩
          refine tree_nil ?_
          clear c8
          (try clear c0 c1 c2 c3 c4 c5)
          have c0 := (blk_cell Hb9.out 0).trans rfl
          have c1 := (blk_cell Hb9.out 1).trans rfl
          have c2 := (blk_cell Hb9.out 2).trans rfl
          have c3 := (blk_cell Hb9.out 3).trans rfl
          have c4 := (blk_cell Hb9.out 4).trans rfl
          have c5 := (blk_cell Hb9.out 5).trans rfl
          by_cases hzo0 : zo = 0
          · subst hzo0
            go_wp2_with (first
              | (go_at_call 16; go_must (refine (check16 HV9.out (Tab.up (HT.out.keep (HK.out.trans HKr.out (fun _ _ h => h)).any) (HK.out.trans HKr.out (fun _ _ h => h)).size) Hso.out).mono ?_; rintro e w10 ⟨rfl, hk10⟩; rw [Hzo.out])
                 have HKr := Lib.hid (HKr.out.trans hk10 (fun _ _ h => h))
                 have Hb9 := Lib.hid (hk10.blk Hb9.out id)
                 have HV9 := Lib.hid (HV9.out.keep (X' := fun b => wr.heap.size ≤ b ∧ b < w10.heap.size) hk10 (fun _ _ _ => id) (fun b hb h => ⟨h.1, Nat.lt_of_lt_of_le hb hk10.size⟩))
                 clear hk10
                 (try clear c0 c1 c2 c3 c4 c5)
                 have c0 := (blk_cell Hb9.out 0).trans rfl
                 have c1 := (blk_cell Hb9.out 1).trans rfl
                 have c2 := (blk_cell Hb9.out 2).trans rfl
                 have c3 := (blk_cell Hb9.out 3).trans rfl
                 have c4 := (blk_cell Hb9.out 4).trans rfl
                 have c5 := (blk_cell Hb9.out 5).trans rfl
                 (try simp only [PU]))
              | ((with_reducible refine at_store (t := 25) (p := 6) rfl ?_); go_must (refine ev_store (cs' := #[.int .i64 6, .bool b, .int .i64 n, .string t, .slice oA' kl' oc', .slice (some ⟨gr, 0, none⟩) nv' rc']) rfl rfl rfl rfl rfl rfl HI.out.1.1 HI.out.1.2 rfl (HKr.out.blk Hb3.out id) (Nat.le_of_ble_eq_true rfl) rfl ?_; intro w11 hb11 hk11)
                 have Hb9z := Lib.hid hb11
                 have HV11 := Lib.hid (HV9.out.keep (X' := fun b => W.heap.size ≤ b ∧ b < w11.heap.size) hk11 (fun b _ hb e => by have h1 := hb.1; have h2 := Hgs.out; have h3 := Hwr.out; omega) (fun b hb h => ⟨Nat.le_trans HK.out.size h.1, Nat.lt_of_lt_of_le hb hk11.size⟩))
                 have HK9 := Lib.hid (show Keeps Nob W w11 from (HK.out.trans HKr.out (fun _ _ h => h)).trans hk11 (fun i hi e => by have := Hgs.out; omega))
                 clear hb11 hk11 c0 c1 c2 c3 c4 c5
                 have d0 := (blk_cell Hb9z.out 0).trans rfl
                 have d1 := (blk_cell Hb9z.out 1).trans rfl
                 have d2 := (blk_cell Hb9z.out 2).trans rfl
                 have d3 := (blk_cell Hb9z.out 3).trans rfl
                 have d4 := (blk_cell Hb9z.out 4).trans rfl
                 have d5 := (blk_cell Hb9z.out 5).trans rfl
                 (try simp only [PU]))
            )
            refine bodyPost_ret (results_ct (x := .agg #[.int .i64 6, .bool b, .int .i64 n, .string t, .slice oA' kl' oc', .slice (some ⟨gr, 0, none⟩) nv' rc']) rfl _ _ rfl (by go_simp) rfl) rfl ?_
            rw [HR.out, if_neg (by simp), if_neg (by simp), if_neg (by simp), if_neg (by simp)]
            exact ⟨⟨_, rfl, HV11.out⟩, HK9.out⟩
          · have hzob : (zo == 0) = false := beq_eq_false_iff_ne.2 hzo0
            have Hzo0 := Lib.hid hzo0
            go_wp2_with (first
              | (go_at_call 16; go_must (refine (check16 HV9.out (Tab.up (HT.out.keep (HK.out.trans HKr.out (fun _ _ h => h)).any) (HK.out.trans HKr.out (fun _ _ h => h)).size) Hso.out).mono ?_; rintro e w10 ⟨rfl, hk10⟩; rw [Hzo.out])
                 have HKr := Lib.hid (HKr.out.trans hk10 (fun _ _ h => h))
                 have Hb9 := Lib.hid (hk10.blk Hb9.out id)
                 have HV9 := Lib.hid (HV9.out.keep (X' := fun b => wr.heap.size ≤ b ∧ b < w10.heap.size) hk10 (fun _ _ _ => id) (fun b hb h => ⟨h.1, Nat.lt_of_lt_of_le hb hk10.size⟩))
                 clear hk10
                 (try clear c0 c1 c2 c3 c4 c5)
                 have c0 := (blk_cell Hb9.out 0).trans rfl
                 have c1 := (blk_cell Hb9.out 1).trans rfl
                 have c2 := (blk_cell Hb9.out 2).trans rfl
                 have c3 := (blk_cell Hb9.out 3).trans rfl
                 have c4 := (blk_cell Hb9.out 4).trans rfl
                 have c5 := (blk_cell Hb9.out 5).trans rfl
                 (try simp only [PU]))
              | ((with_reducible refine at_store (t := 25) (p := 6) rfl ?_); go_must (refine ev_store (cs' := #[.int .i64 0, .bool false, .int .i64 0, .string ByteArray.empty, .slice none 0 0, .slice none 0 0]) rfl rfl rfl rfl rfl rfl HI.out.1.1 HI.out.1.2 rfl (HKr.out.blk Hb3.out id) (Nat.le_of_ble_eq_true rfl) rfl ?_; intro w9 hb9 hk9)
                 have Hb9z := Lib.hid hb9
                 have HK9 := Lib.hid (show Keeps Nob W w9 from (HK.out.trans HKr.out (fun _ _ h => h)).trans hk9 (fun i hi e => by have := Hgs.out; omega))
                 clear hb9 hk9
                 (try clear c0 c1 c2 c3 c4 c5)
                 have d0 := (blk_cell Hb9z.out 0).trans rfl
                 have d1 := (blk_cell Hb9z.out 1).trans rfl
                 have d2 := (blk_cell Hb9z.out 2).trans rfl
                 have d3 := (blk_cell Hb9z.out 3).trans rfl
                 have d4 := (blk_cell Hb9z.out 4).trans rfl
                 have d5 := (blk_cell Hb9z.out 5).trans rfl
                 (try simp only [PU]))
            )
            refine bodyPost_ret (results_ct (x := .agg #[.int .i64 0, .bool false, .int .i64 0, .string ByteArray.empty, .slice none 0 0, .slice none 0 0]) rfl _ _ rfl (by go_simp) rfl) rfl ?_
            rw [HR.out, if_neg (by simp), if_neg (by simp), if_neg (by simp), if_pos Hzo0.out]
            exact ⟨⟨_, rfl, zval⟩, HK9.out⟩
      · have hk6b : (k == 6) = false := beq_eq_false_iff_ne.2 hk6
        have Hk6 := Lib.hid hk6
        go_wp2_with (first
          | ((with_reducible refine at_store (t := 25) (p := 6) rfl ?_); go_must (refine ev_store (cs' := #[.int .i64 0, .bool false, .int .i64 0, .string ByteArray.empty, .slice none 0 0, .slice none 0 0]) rfl rfl rfl rfl rfl rfl HI.out.1.1 HI.out.1.2 rfl (HKr.out.blk Hb3.out id) (Nat.le_of_ble_eq_true rfl) rfl ?_; intro w9 hb9 hk9)
             have Hb9z := Lib.hid hb9
             have HK9 := Lib.hid (show Keeps Nob W w9 from (HK.out.trans HKr.out (fun _ _ h => h)).trans hk9 (fun i hi e => by have := Hgs.out; omega))
             clear hb9 hk9
             (try clear c0 c1 c2 c3 c4 c5)
             have d0 := (blk_cell Hb9z.out 0).trans rfl
             have d1 := (blk_cell Hb9z.out 1).trans rfl
             have d2 := (blk_cell Hb9z.out 2).trans rfl
             have d3 := (blk_cell Hb9z.out 3).trans rfl
             have d4 := (blk_cell Hb9z.out 4).trans rfl
             have d5 := (blk_cell Hb9z.out 5).trans rfl
             (try simp only [PU]))
        )
        refine bodyPost_ret (results_ct (x := .agg #[.int .i64 0, .bool false, .int .i64 0, .string ByteArray.empty, .slice none 0 0, .slice none 0 0]) rfl _ _ rfl (by go_simp) rfl) rfl ?_
        rw [HR.out, if_neg (by simp), if_neg (by simp), if_pos Hk6.out]
        exact ⟨⟨_, rfl, zval⟩, HK9.out⟩
end Go.Proofs.WV

/-
  The plain law of layer 30 (wire): how large a value is, as the laws count it. No program in sight; no condition.
-/
namespace Go.Proofs.WM

mutual
def sizeS : J → Nat → Nat
  | .mk _ _ _ t ks vs, left => goS (1 + t.size + ks.length + (ks.map ByteArray.size).sum) left vs
def goS : Nat → Nat → List J → Nat
  | n, _, [] => n
  | n, left, v :: r => if left < n then n else goS (n + sizeS v (left - n)) left r
end
mutual
theorem sizeS_le : ∀ (j : J) (left : Nat), sizeS j left ≤ sizeJ j ∧ (sizeS j left ≤ left → sizeS j left = sizeJ j)
  | .mk k b n t ks vs, left => by
    have h := goS_le vs (1 + t.size + ks.length + (ks.map ByteArray.size).sum) left
    unfold sizeS sizeJ
    exact h
theorem goS_le : ∀ (vs : List J) (n left : Nat), goS n left vs ≤ n + sizeL vs ∧ (goS n left vs ≤ left → goS n left vs = n + sizeL vs)
  | [], n, left => by unfold goS sizeL; exact ⟨by omega, fun _ => by omega⟩
  | v :: r, n, left => by
    unfold goS sizeL
    by_cases h : left < n
    · rw [if_pos h]; exact ⟨by omega, fun h' => by omega⟩
    · rw [if_neg h]
      have h1 := sizeS_le v (left - n)
      have h2 := goS_le r (n + sizeS v (left - n)) left
      have h3 : n + sizeS v (left - n) ≤ goS (n + sizeS v (left - n)) left r := goS_ge r _ _
      refine ⟨by omega, fun h' => ?_⟩
      have := h2.2 h'
      have := h1.2 (by omega)
      omega
theorem goS_ge : ∀ (vs : List J) (n left : Nat), n ≤ goS n left vs
  | [], n, left => by unfold goS; exact Nat.le_refl _
  | v :: r, n, left => by
    unfold goS
    split
    · exact Nat.le_refl _
    · have := goS_ge r (n + sizeS v (left - n)) left
      omega
end
/-- Counted up to a bound, it passes the bound if and only if the value does. -/
theorem sizeS_iff (j : J) (left : Nat) : left < sizeS j left ↔ left < sizeJ j := by
  have h := sizeS_le j left
  constructor
  · intro h'; omega
  · intro h'
    rcases Nat.lt_or_ge left (sizeS j left) with h2 | h2
    · exact h2
    · have := h.2 h2; omega
theorem sum_take (ks : List ByteArray) (j : Nat) (hj : j < ks.length) : ((ks.take (j + 1)).map ByteArray.size).sum = ((ks.take j).map ByteArray.size).sum + (ks.getD j ByteArray.empty).size := by
  rw [List.take_succ_eq_append_getElem hj, List.map_append, List.sum_append, List.getD_eq_getElem?_getD, List.getElem?_eq_getElem hj]
  simp
theorem sum_take_le (ks : List ByteArray) (j : Nat) : ((ks.take j).map ByteArray.size).sum ≤ (ks.map ByteArray.size).sum := by
  have : (ks.map ByteArray.size).sum = ((ks.take j).map ByteArray.size).sum + ((ks.drop j).map ByteArray.size).sum := by
    rw [← List.sum_append, ← List.map_append, List.take_append_drop]
  omega
theorem dropJ {vs : List J} {j : Nat} (hj : j < vs.length) : vs.drop j = vs.getD j default :: vs.drop (j + 1) := by
  rw [List.drop_eq_getElem_cons hj, List.getD_eq_getElem?_getD, List.getElem?_eq_getElem hj]
  rfl
end Go.Proofs.WM

/-
  How large a value is (Size), by the specification, in memory. Condition: the value lies; its size is not greater than an int counts.
-/
namespace Go.Proofs.WV
open Go.RowKit Go.Proofs.KL Go.Proofs.WM
set_option maxRecDepth 100000
set_option linter.unusedSimpArgs false
set_option linter.unusedVariables false

set_option maxHeartbeats 4000000 in
theorem size34 {w : World} {X : Nat → Prop} {v : Value} {j : J} (h : JX w X v j) : ∀ W (left : Nat), Keeps Nob w W → sizeJ j ≤ 1000000000000 → left ≤ 1000000000000 → Calls Tryd.prog 34 #[v, .int .i64 left] W fun e w' => e = .returned (.int .i64 (sizeS j left)) ∧ Keeps Nob W w' := by
  induction h with
  | mk k b n t ks vs kv A c u h1 hc hA hv ih =>
    intro W left hW hb hleft
    obtain ⟨i25, hi25, hs25⟩ := info25
    have HI := Lib.hid (And.intro hi25 hs25)
    have HA := Lib.hid hA
    have IH := Lib.hid ih
    have HV := Lib.hid hv
    have HW := Lib.hid hW
    obtain ⟨kA, kc, rfl, hkc, hkx⟩ := id h1
    have HKX := Lib.hid hkx
    have Hb := Lib.hid (show 1 + t.size + ks.length + (ks.map ByteArray.size).sum + sizeL vs ≤ 1000000000000 by have h' := hb; unfold sizeJ at h'; exact h')
    obtain ⟨R, hR⟩ : ∃ x, sizeS (.mk k b n t ks vs) left = x := ⟨_, rfl⟩
    rw [hR]
    have HR := Lib.hid (show goS (1 + t.size + ks.length + (ks.map ByteArray.size).sum) left vs = R by rw [← hR]; unfold sizeS; rfl)
    have Hsz := Lib.hid (show vs.length ≤ sizeL vs from size_len vs)
    obtain ⟨kl, hkl⟩ : ∃ x, ks.length = x := ⟨_, rfl⟩
    have Hkl := Lib.hid hkl
    obtain ⟨len, hlen⟩ : ∃ x, vs.length = x := ⟨_, rfl⟩
    have Hlen := Lib.hid hlen
    have hbk : (t.size : Int) ≤ 1000000000000 ∧ (kl : Int) ≤ 1000000000000 ∧ (len : Int) ≤ 1000000000000 := by have h1 := Hb.out; have h2 := Hsz.out; omega
    obtain ⟨hbt, hbk, hbl⟩ := hbk
    rw [hlen, hkl]
    rw [hkl] at hkc
    clear h1 hc hA hv ih hW hlen hkl hi25 hs25 hR hkx hb
    go_enter Tryd.func34, Tryd.ntmps34
    go_wp2_with (first
      | ((with_reducible refine at_dst (N := 2) rfl ?_); go_must (refine ev_box (cs := #[.int .i64 k, .bool b, .int .i64 n, .string t, .slice kA kl kc, .slice A len c]) rfl rfl rfl ?_; intro g1 w1 hg1 hl1 hb1 hk1)
         have v3 := (blk_cell hb1 3).trans rfl
         have v4 := (blk_cell hb1 4).trans rfl
         have v5 := (blk_cell hb1 5).trans rfl
         have Hb1 := Lib.hid hb1
         have HK1 := Lib.hid hk1
         clear hb1 hk1
         (try simp only [PU]))
    )
    obtain ⟨n0, hn0⟩ : ∃ x : Nat, 1 + t.size + kl = x := ⟨_, rfl⟩
    have Hn0 := Lib.hid hn0
    have hn0i : 1 + (t.size : Int) + (kl : Int) = (n0 : Int) := by omega
    rw [hn0i]
    clear hn0 hn0i v3 v4
    go_loopw [21, 5] (fun iv nv wr => ∃ i : Nat, iv = .int .i64 i ∧ i ≤ kl ∧ nv = .int .i64 ((n0 + ((ks.take i).map ByteArray.size).sum : Nat) : Int) ∧ Hid (wr = w1)) (fun iv _ _ => kl - (intOf iv).toNat)
    case atStart => exact ⟨0, rfl, Nat.zero_le _, by simp, Lib.hid rfl⟩
    case round =>
      obtain ⟨i, rfl, hi, rfl, Hw⟩ := hrel
      have hw : w1 = wr := Hw.out.symm
      subst hw
      by_cases hlt : i < kl
      · obtain ⟨b', o, rfl, -, hcell⟩ := HKX.out i (by rw [Hkl.out]; exact hlt)
        have kc0 := (HW.out.trans HK1.out (fun _ _ h => h)).cell hcell id
        have hst := sum_take ks i (by rw [Hkl.out]; exact hlt)
        have hsl := sum_take_le ks (i + 1)
        obtain ⟨key, hkey⟩ : ∃ x, ks.getD i ByteArray.empty = x := ⟨_, rfl⟩
        rw [hkey] at kc0 hst
        obtain ⟨m, hm⟩ : ∃ x, n0 + ((ks.take i).map ByteArray.size).sum = x := ⟨_, rfl⟩
        have hmb : (m : Int) ≤ 1000000000000 ∧ (key.size : Int) ≤ 1000000000000 := by have h1 := Hb.out; have h2 := Hn0.out; have h3 := Hkl.out; omega
        obtain ⟨hmb1, hmb2⟩ := hmb
        have Hst := Lib.hid (show n0 + ((ks.take (i + 1)).map ByteArray.size).sum = m + key.size by omega)
        rw [hm]
        clear hcell hst hsl hkey hm
        go_wp2
        go_roundw
        case rel => exact ⟨i + 1, by go_num, by omega, by rw [Hst.out] <;> (congr 1), by first | exact Lib.hid rfl | exact Lib.hid trivial⟩
        case measure => simp [intOf]; omega
      · have hi' : i = kl := by omega
        subst hi'
        have htl := List.take_length (l := ks)
        rw [Hkl.out] at htl
        rw [htl]
        obtain ⟨m, hm⟩ : ∃ x, n0 + (ks.map ByteArray.size).sum = x := ⟨_, rfl⟩
        have HG0 := Lib.hid (show goS m left vs = R by rw [← HR.out, ← hm, ← Hn0.out, Hkl.out])
        have Hm := Lib.hid (show m + sizeL vs ≤ 1000000000000 by have h1 := Hb.out; have h2 := Hn0.out; have h3 := Hkl.out; omega)
        rw [hm]
        clear htl hm
        go_wp2
        go_loopw [33, 5] (fun iv nv wr => ∃ i n1 : Nat, iv = .int .i64 i ∧ i ≤ len ∧ nv = .int .i64 n1 ∧ Hid (goS n1 left (vs.drop i) = R) ∧ Hid (n1 + sizeL (vs.drop i) ≤ 1000000000000) ∧ Hid (Keeps Nob W wr)) (fun iv _ _ => len - (intOf iv).toNat)
        case atStart => exact ⟨0, m, rfl, Nat.zero_le _, rfl, HG0, Hm, HK1⟩
        case round =>
          obtain ⟨i, n1, rfl, hi, rfl, HG, Hn1, HKr⟩ := hrel
          by_cases hlt : i < len
          · have hdrop := dropJ (vs := vs) (j := i) (by rw [Hlen.out]; exact hlt)
            obtain ⟨b', o, rfl, -, h6⟩ := HA.out i (by rw [Hlen.out]; exact hlt)
            obtain ⟨⟨e0, e1, e2⟩, e3, e4, e5⟩ := h6.keep (HW.out.trans HKr.out (fun _ _ h => h)) id
            have hg := HG.out
            have hnn := Hn1.out
            rw [hdrop] at hg hnn
            unfold goS at hg
            unfold sizeL at hnn
            have hsix := (HV.out i (by rw [Hlen.out]; exact hlt)).six
            have hrun := IH.out i (by rw [Hlen.out]; exact hlt)
            have hsle := (sizeS_le (vs.getD i default) (left - n1)).1
            generalize vs.getD i default = vj at *
            have hn1i : (n1 : Int) ≤ 1000000000000 := by omega
            generalize u i 0 = x0 at *
            generalize u i 1 = x1 at *
            generalize u i 2 = x2 at *
            generalize u i 3 = x3 at *
            generalize u i 4 = x4 at *
            generalize u i 5 = x5 at *
            obtain ⟨y0, y1, y2, y3, yA, yn, yc, yB, ym, yd, ⟨rfl, rfl, rfl⟩, rfl, rfl, rfl⟩ := hsix
            have hleftI : (left : Int) ≤ 1000000000000 := by omega
            by_cases hout : left < n1
            · rw [if_pos hout] at hg
              have HRR := Lib.hid hg
              have hti : (left : Int) < (n1 : Int) := by omega
              clear hg hnn hrun hsle hdrop h6 hout
              go_wp2_with (first
                | ((with_reducible refine at_dst (N := 9) rfl ?_); go_must (refine ev_alloc rfl rfl zero25 rfl ?_; intro g5 w2 hg5 hl5 hb5 hk5)
                   have Hb5 := Lib.hid hb5
                   have HK2 := Lib.hid hk5
                   clear hb5 hk5
                   (try simp only [PU]))
                | ((with_reducible refine at_store (t := 25) (p := 9) rfl ?_); go_must (refine ev_store (cs' := #[.int .i64 y0, .bool y1, .int .i64 y2, .string y3, .slice yA yn yc, .slice yB ym yd]) rfl rfl rfl rfl rfl rfl HI.out.1 HI.out.2 rfl Hb5.out (Nat.le_of_ble_eq_true rfl) rfl ?_; intro w3 hb3 hk3)
                   have s0 := (blk_cell hb3 0).trans rfl
                   have s1 := (blk_cell hb3 1).trans rfl
                   have s2 := (blk_cell hb3 2).trans rfl
                   have s3 := (blk_cell hb3 3).trans rfl
                   have s4 := (blk_cell hb3 4).trans rfl
                   have s5 := (blk_cell hb3 5).trans rfl
                   have HK3 := Lib.hid (show Keeps Nob W w3 from HKr.out.trans (HK2.out.own hk3 hg5) (fun _ _ h => h))
                   clear hb3 hk3
                   (try simp only [PU]))
              )
              go_ret
              rw [← HRR.out]
              exact ⟨rfl, HK3.out⟩
            · rw [if_neg hout] at hg
              have hti : ¬ (left : Int) < (n1 : Int) := by omega
              have hsub : (left : Int) - (n1 : Int) = ((left - n1 : Nat) : Int) := by omega
              have Hrun := Lib.hid (fun W' hk => hrun W' (left - n1) hk (by omega) (by omega))
              obtain ⟨d, hd⟩ : ∃ d, left - n1 = d := ⟨_, rfl⟩
              rw [hd] at hg hsub Hrun hsle
              obtain ⟨m1, hm1⟩ : ∃ m, sizeS vj d = m := ⟨_, rfl⟩
              rw [hm1] at hg hsle
              have Hm1 := Lib.hid hm1
              have HGn := Lib.hid hg
              have hm1i : (m1 : Int) ≤ 1000000000000 := by omega
              have Hnn := Lib.hid (show n1 + m1 + sizeL (vs.drop (i + 1)) ≤ 1000000000000 by omega)
              clear hg hnn hrun hsle hdrop h6 hout hd hm1
              go_wp2_with (first
                | ((with_reducible refine at_dst (N := 9) rfl ?_); go_must (refine ev_alloc rfl rfl zero25 rfl ?_; intro g5 w2 hg5 hl5 hb5 hk5)
                   have Hb5 := Lib.hid hb5
                   have HK2 := Lib.hid hk5
                   clear hb5 hk5
                   (try simp only [PU]))
                | ((with_reducible refine at_store (t := 25) (p := 9) rfl ?_); go_must (refine ev_store (cs' := #[.int .i64 y0, .bool y1, .int .i64 y2, .string y3, .slice yA yn yc, .slice yB ym yd]) rfl rfl rfl rfl rfl rfl HI.out.1 HI.out.2 rfl Hb5.out (Nat.le_of_ble_eq_true rfl) rfl ?_; intro w3 hb3 hk3)
                   have s0 := (blk_cell hb3 0).trans rfl
                   have s1 := (blk_cell hb3 1).trans rfl
                   have s2 := (blk_cell hb3 2).trans rfl
                   have s3 := (blk_cell hb3 3).trans rfl
                   have s4 := (blk_cell hb3 4).trans rfl
                   have s5 := (blk_cell hb3 5).trans rfl
                   have HK3 := Lib.hid (show Keeps Nob W w3 from HKr.out.trans (HK2.out.own hk3 hg5) (fun _ _ h => h))
                   clear hb3 hk3
                   (try simp only [PU]))
                | (go_at_call 34; go_must (refine (Hrun.out w3 (HW.out.trans HK3.out (fun _ _ h => h))).mono ?_; rintro e w4 ⟨rfl, hk4⟩); rw [Hm1.out]; have HK4 := Lib.hid (HK3.out.trans hk4 (fun _ _ h => h)); clear hk4; (try simp only [PU]))
              )
              go_roundw
              case rel => exact ⟨i + 1, n1 + m1, by go_num, by omega, by first | rfl | (congr 1), HGn, Hnn, HK4⟩
              case measure => simp [intOf]; omega
          · have hi' : i = len := by omega
            subst hi'
            have HRR := Lib.hid (show n1 = R by
              have hg := HG.out
              rw [List.drop_of_length_le (by rw [Hlen.out]; exact Nat.le_refl _)] at hg
              unfold goS at hg
              exact hg)
            go_wp2
            go_ret
            rw [← HRR.out]
            exact ⟨rfl, HKr.out⟩
end Go.Proofs.WV

/-
  The laws' small, by the program, in memory. Condition: the values lie; their sizes are not greater than an int counts.
-/
namespace Go.Proofs.WV
open Go.RowKit Go.Proofs.KL Go.Proofs.WM
set_option maxRecDepth 100000
set_option linter.unusedSimpArgs false
set_option linter.unusedVariables false

def smallJ (vs : List J) : Bool := vs.all fun j => decide (sizeJ j ≤ 3000)
set_option maxHeartbeats 4000000 in
theorem small12 {W : World} {X : Nat → Prop} {A : Option Addr} {len c : Nat} {vs : List J} (h : JsX W X (.slice A len c) vs) (hb : ∀ j ∈ vs, sizeJ j ≤ 1000000000000) (hlen : len ≤ 1000000000) : Calls Tryd.prog 12 #[.slice A len c] W fun e w' => e = .returned (.bool (smallJ vs)) ∧ Keeps Nob W w' := by
  obtain ⟨A', c', u, e, hc, hA, hv⟩ := h
  injection e with e1 e2 e3
  subst e1; subst e3
  obtain ⟨i25, hi25, hs25⟩ := info25
  have HI := Lib.hid (And.intro hi25 hs25)
  have Hlen := Lib.hid e2
  have HA := Lib.hid hA
  have HV := Lib.hid hv
  have Hb := Lib.hid hb
  obtain ⟨R, hR⟩ : ∃ x, smallJ vs = x := ⟨_, rfl⟩
  have HR := Lib.hid hR
  rw [hR]
  have hli : (len : Int) ≤ 1000000000 := by omega
  clear e2 hA hv hb hR hi25 hs25 hc
  go_enter Tryd.func12, Tryd.ntmps12
  go_wp2
  go_loopw [7] (fun iv wr => ∃ i : Nat, iv = .int .i64 i ∧ i ≤ len ∧ Hid (smallJ (vs.drop i) = R) ∧ Hid (Keeps Nob W wr)) (fun iv _ => len - (intOf iv).toNat)
  case atStart => exact ⟨0, rfl, Nat.zero_le _, HR, Lib.hid (Keeps.refl _ _)⟩
  case round =>
    obtain ⟨i, rfl, hi, HG, HKr⟩ := hrel
    by_cases hlt : i < len
    · have hdrop := dropJ (vs := vs) (j := i) (by rw [← Hlen.out]; exact hlt)
      obtain ⟨b', o, rfl, -, h6⟩ := HA.out i (by rw [← Hlen.out]; exact hlt)
      obtain ⟨⟨e0, e1, e2⟩, e3, e4, e5⟩ := h6.keep HKr.out id
      have hg := HG.out
      rw [hdrop] at hg
      have hg' : (decide (sizeJ (vs.getD i default) ≤ 3000) && smallJ (vs.drop (i + 1))) = R := hg
      have hjx := HV.out i (by rw [← Hlen.out]; exact hlt)
      have hsix := hjx.six
      have hbv := Hb.out (vs.getD i default) (by
        rw [List.getD_eq_getElem?_getD, List.getElem?_eq_getElem (by rw [← Hlen.out]; exact hlt)]
        exact List.getElem_mem _)
      have hsi := sizeS_iff (vs.getD i default) 3000
      have hsb := (sizeS_le (vs.getD i default) 3000).1
      have Hrun := Lib.hid (fun W' (hk : Keeps Nob W W') => size34 hjx W' 3000 hk hbv (by decide))
      generalize vs.getD i default = vj at *
      generalize u i 0 = x0 at *
      generalize u i 1 = x1 at *
      generalize u i 2 = x2 at *
      generalize u i 3 = x3 at *
      generalize u i 4 = x4 at *
      generalize u i 5 = x5 at *
      obtain ⟨y0, y1, y2, y3, yA, yn, yc, yB, ym, yd, ⟨rfl, rfl, rfl⟩, rfl, rfl, rfl⟩ := hsix
      obtain ⟨m, hm⟩ : ∃ m, sizeS vj 3000 = m := ⟨_, rfl⟩
      rw [hm] at hsi hsb
      have Hm := Lib.hid hm
      by_cases hbig : 3000 < m
      · have HRR := Lib.hid (show false = R by rw [← hg', decide_eq_false (by have := hsi.1 hbig; omega)]; rfl)
        have hmi : (3000 : Int) < (m : Int) := by omega
        clear hg hg' hdrop h6 hsi hsb hm hjx hbv hbig
        go_wp2_with (first
          | ((with_reducible refine at_dst (N := 4) rfl ?_); go_must (refine ev_alloc rfl rfl zero25 rfl ?_; intro g5 w2 hg5 hl5 hb5 hk5)
             have Hb5 := Lib.hid hb5
             have HK2 := Lib.hid hk5
             clear hb5 hk5
             (try simp only [PU]))
          | ((with_reducible refine at_store (t := 25) (p := 4) rfl ?_); go_must (refine ev_store (cs' := #[.int .i64 y0, .bool y1, .int .i64 y2, .string y3, .slice yA yn yc, .slice yB ym yd]) rfl rfl rfl rfl rfl rfl HI.out.1 HI.out.2 rfl Hb5.out (Nat.le_of_ble_eq_true rfl) rfl ?_; intro w3 hb3 hk3)
             have s0 := (blk_cell hb3 0).trans rfl
             have s1 := (blk_cell hb3 1).trans rfl
             have s2 := (blk_cell hb3 2).trans rfl
             have s3 := (blk_cell hb3 3).trans rfl
             have s4 := (blk_cell hb3 4).trans rfl
             have s5 := (blk_cell hb3 5).trans rfl
             have HK3 := Lib.hid (show Keeps Nob W w3 from HKr.out.trans (HK2.out.own hk3 hg5) (fun _ _ h => h))
             clear hb3 hk3
             (try simp only [PU]))
          | (go_at_call 34; go_must (refine (Hrun.out w3 HK3.out).mono ?_; rintro e w4 ⟨rfl, hk4⟩); rw [Hm.out]; have HK4 := Lib.hid (HK3.out.trans hk4 (fun _ _ h => h)); clear hk4; (try simp only [PU]))
        )
        go_ret
        rw [← HRR.out]
        exact ⟨rfl, HK4.out⟩
      · have HRR := Lib.hid (show smallJ (vs.drop (i + 1)) = R by rw [← hg', decide_eq_true (by rcases Nat.lt_or_ge 3000 (sizeJ vj) with h | h; exact absurd (hsi.2 h) hbig; exact h)]; rfl)
        have hmi : ¬ (3000 : Int) < (m : Int) := by omega
        clear hg hg' hdrop h6 hsi hsb hm hjx hbv hbig
        go_wp2_with (first
          | ((with_reducible refine at_dst (N := 4) rfl ?_); go_must (refine ev_alloc rfl rfl zero25 rfl ?_; intro g5 w2 hg5 hl5 hb5 hk5)
             have Hb5 := Lib.hid hb5
             have HK2 := Lib.hid hk5
             clear hb5 hk5
             (try simp only [PU]))
          | ((with_reducible refine at_store (t := 25) (p := 4) rfl ?_); go_must (refine ev_store (cs' := #[.int .i64 y0, .bool y1, .int .i64 y2, .string y3, .slice yA yn yc, .slice yB ym yd]) rfl rfl rfl rfl rfl rfl HI.out.1 HI.out.2 rfl Hb5.out (Nat.le_of_ble_eq_true rfl) rfl ?_; intro w3 hb3 hk3)
             have s0 := (blk_cell hb3 0).trans rfl
             have s1 := (blk_cell hb3 1).trans rfl
             have s2 := (blk_cell hb3 2).trans rfl
             have s3 := (blk_cell hb3 3).trans rfl
             have s4 := (blk_cell hb3 4).trans rfl
             have s5 := (blk_cell hb3 5).trans rfl
             have HK3 := Lib.hid (show Keeps Nob W w3 from HKr.out.trans (HK2.out.own hk3 hg5) (fun _ _ h => h))
             clear hb3 hk3
             (try simp only [PU]))
          | (go_at_call 34; go_must (refine (Hrun.out w3 HK3.out).mono ?_; rintro e w4 ⟨rfl, hk4⟩); rw [Hm.out]; have HK4 := Lib.hid (HK3.out.trans hk4 (fun _ _ h => h)); clear hk4; (try simp only [PU]))
        )
        go_roundw
        case rel => exact ⟨i + 1, by go_num, by omega, HRR, HK4⟩
        case measure => simp [intOf]; omega
    · have hi' : i = len := by omega
      subst hi'
      have HRR := Lib.hid (show true = R by
        have hg := HG.out
        rw [List.drop_of_length_le (by rw [← Hlen.out]; exact Nat.le_refl _)] at hg
        exact hg)
      go_wp2
      go_ret
      rw [← HRR.out]
      exact ⟨rfl, HKr.out⟩
end Go.Proofs.WV
