/-
  Frame, by the program, in memory. Condition: at most a million bytes; the standard library's table of powers lies.
-/
import Derived.Test.YtcmmnbipaemgiaaDoorAl0
import Derived.ChangeSlices
import Derived.ChangeArms
import Derived.Carry
import Derived.SizedLaws
namespace Go.Proofs.WV
open Go.RowKit Go.Proofs.KL Go.Proofs.WM
set_option maxRecDepth 100000
set_option linter.unusedSimpArgs false
set_option linter.unusedVariables false

theorem itoa56 {w : World} {base : Nat} (h : Tab w base) (n : Nat) (hn : n ≤ 1000000) : Calls Tryd.prog 56 #[.int .i64 n] w fun e w' => e = .returned (.string (mkB (Lib.itoa n))) ∧ Keeps Nob w w' := by
  obtain ⟨g, _, _, ht⟩ := h
  refine (Tryd.strconv_Itoa (n : Int) (by omega) (by omega) w ht).mono ?_
  rintro e w' ⟨rfl, k, os, rfl⟩
  exact ⟨rfl, grew _ _ _⟩
set_option maxHeartbeats 4000000 in
theorem frame25 {W : World} {X : Nat → Prop} {B : Option Addr} {m d : Nat} {bs : Bs} (ht : Tab W W.heap.size) (hb : BytesX W X (.slice B m d) bs) (hm : m ≤ 1000000) :
    Calls Tryd.prog 25 #[.slice B m d] W fun e w' => (∃ v, e = .returned (.tuple #[v, .int .i64 0]) ∧ OwnB w' W.heap.size v (frameOf bs)) ∧ Keeps Nob W w' := by
  have hmi : ¬ (1000000 : Int) < (m : Int) := by omega
  have hlen := hb.len.1
  have h56 := fun W => itoa56 (w := W) (base := W.heap.size) (n := m)
  obtain ⟨Z, hZ⟩ : ∃ Z, mkB (Lib.itoa m) = Z := ⟨_, rfl⟩
  have hZs : Z.size ≤ 20 := by
    rw [← hZ]
    have := itoa_len (n := (m : Int)) (by omega)
    show (Lib.itoa m).length ≤ 20
    omega
  have hZi : (Z.size : Int) ≤ 20 := by omega
  have hs1 : (({ data := #[76, 101, 110, 103, 116, 104, 58, 32] } : ByteArray) ++ Z).size = 8 + Z.size := by rw [ByteArray.size_append]; rfl
  have Hst := Lib.hid (show bl ((({ data := #[76, 101, 110, 103, 116, 104, 58, 32] } : ByteArray) ++ Z) ++ { data := #[13, 10, 13, 10] }) ++ bs = frameOf bs by
    unfold frameOf
    rw [← hlen, ← hZ]
    simp [bl, mkB, beginB, neckB, ByteArray.data_append])
  have Hst2 := Lib.hid (show ((({ data := #[76, 101, 110, 103, 116, 104, 58, 32] } : ByteArray) ++ Z) ++ { data := #[13, 10, 13, 10] }).size ≤ 40 by
    rw [ByteArray.size_append, hs1]
    show 8 + Z.size + 4 ≤ 40
    omega)
  have H56 := Lib.hid (h56 W ht hm)
  rw [hZ] at H56
  have HB := Lib.hid hb
  have Hm := Lib.hid hm
  clear h56 hZ hlen hb hm ht
  go_enter Tryd.func25, Tryd.ntmps25
  go_wp2_with (first
    | (go_at_call 56; go_must (refine H56.out.mono ?_; rintro e w1 ⟨rfl, hk1⟩)
       have HK := Lib.hid hk1
       clear hk1
       (try simp only [PU]))
    | ((with_reducible refine at_dst (N := 12) rfl ?_)
       generalize hst : ((({ data := #[76, 101, 110, 103, 116, 104, 58, 32] } : ByteArray) ++ Z) ++ { data := #[13, 10, 13, 10] }) = st at *
       go_must (refine ev_conv_sb rfl rfl Tryd.underlying9 byteT38 Tryd.underlying5 rfl (base := W.heap.size) HK.out.size (by have := Hst2.out; unfold maxLen; omega) ?_; intro v' wc ho hk2 hnew; obtain ⟨oA, oc, hv'⟩ := ho.slice; subst hv')
       have HO := Lib.hid ho
       have HK := Lib.hid (HK.out.trans hk2 (fun _ _ h => h))
       clear ho hk2 hnew hst
       (try simp only [PU]))
    | ((with_reducible refine at_dst (N := 14) rfl ?_); go_must (refine ev_slice (cs := #[.slice oA (bl st).length oc, .slice B m d]) (t := 38) (n := 2) (c := 2) rfl (by first | (go_simp; done) | (go_simp; rfl)) ?_; intro gt w2 hgt hlt hbt hkt)
       have Hbt := Lib.hid hbt
       have HO := Lib.hid (HO.out.keep hkt (fun _ _ => id))
       have HK := Lib.hid (HK.out.trans hkt (fun _ _ h => h))
       clear hbt hkt hgt hlt
       (try simp only [PU]))
    | (go_at_call 51; go_must (refine (concat51 Hbt.out HO.out.bytes (HB.out.keep (X' := X) HK.out (fun _ _ _ => id) (fun _ _ h => h)) (by have := Hst2.out; rw [bl_len]; omega) (by have := Hm.out; omega)).mono ?_; rintro e w3 ⟨⟨v3, rfl, ho3⟩, hk3⟩; obtain ⟨cA, cc, hv3⟩ := ho3.slice; subst hv3)
       have HO3 := Lib.hid ho3
       have HK3 := Lib.hid (HK.out.trans hk3 (fun _ _ h => h))
       clear ho3 hk3
       generalize (bl st ++ bs).length = L3 at *
       (try simp only [PU]))
  )
  go_ret2
  refine ⟨⟨_, rfl, ?_⟩, HK3.out⟩
  rw [← Hst.out]
  exact OwnB.weaken HO3.out HK.out.size
end Go.Proofs.WV

/-
  Lists of bytes in memory; one's own row of them grows by another. No condition.
-/
namespace Go.Proofs.WV
open Go.RowKit Go.Proofs.KL Go.Proofs.WM
set_option linter.unusedVariables false

/-- A slice of slices of bytes. -/
def LsX (W : World) (X : Nat → Prop) (v : Value) (ls : List Bs) : Prop :=
  ∃ A c, v = .slice A ls.length c ∧ ls.length ≤ c ∧ ∀ i, i < ls.length → ∃ b o, A = some ⟨b, o, none⟩ ∧ X b ∧ ∃ B m d, W.cell? ⟨b, o + i, none⟩ = some (.slice B m d) ∧ BytesX W X (.slice B m d) (ls.getD i []) ∧ m ≤ 140737488355328
theorem LsX.keep {M X X' : Nat → Prop} {W W' : World} {v : Value} {ls : List Bs} (h : LsX W X v ls) (hk : Keeps M W W') (hX : ∀ b, b < W.heap.size → X b → ¬ M b) (hX' : ∀ b, b < W.heap.size → X b → X' b) : LsX W' X' v ls := by
  obtain ⟨A, c, e, hc, h⟩ := h
  refine ⟨A, c, e, hc, fun i hi => ?_⟩
  obtain ⟨b, o, e1, hb, B, m, d, hcell, hx, hm⟩ := h i hi
  have hlt := World.block_lt_of_cell? _ _ hcell
  exact ⟨b, o, e1, hX' b hlt hb, B, m, d, hk.cell hcell (hX b hlt hb), hx.keep hk hX hX', hm⟩
/-- A slice of small ints. -/
def CutsX (W : World) (X : Nat → Prop) (v : Value) (zs : List Int) : Prop :=
  ∃ A c, v = .slice A zs.length c ∧ zs.length ≤ c ∧ zs.length ≤ 140737488355328 ∧ ∀ i, i < zs.length → ∃ b o, A = some ⟨b, o, none⟩ ∧ X b ∧ W.cell? ⟨b, o + i, none⟩ = some (.int .u16 (zs.getD i 0)) ∧ 0 ≤ zs.getD i 0 ∧ zs.getD i 0 ≤ 65535
theorem CutsX.keep {M X X' : Nat → Prop} {W W' : World} {v : Value} {zs : List Int} (h : CutsX W X v zs) (hk : Keeps M W W') (hX : ∀ b, b < W.heap.size → X b → ¬ M b) (hX' : ∀ b, b < W.heap.size → X b → X' b) : CutsX W' X' v zs := by
  obtain ⟨A, c, e, hc, hb, h⟩ := h
  refine ⟨A, c, e, hc, hb, fun i hi => ?_⟩
  obtain ⟨b, o, e1, hb, hcell, hr⟩ := h i hi
  have hlt := World.block_lt_of_cell? _ _ hcell
  exact ⟨b, o, e1, hX' b hlt hb, hk.cell hcell (hX b hlt hb), hr⟩
/-- What a row of slices holds, as the appended cells. -/
theorem row_news {W : World} {lo : Nat} {A : Option Addr} {n c : Nat} {xs : List Value} (h : W.ownsRow lo 38 1 (.slice A n c) n xs) : 0 < n → ∃ ad, A = some ad ∧ ∀ j u, xs[j]? = some u → W.cell? (ad.add j) = some u := fun hn => by
  rcases h.2 with ⟨_, h0⟩ | ⟨g, cap, cur, e, hlo, hg, hc, hm, hs, ht⟩
  · omega
  · injection e with e1 e2 e3
    subst e1
    refine ⟨_, rfl, fun j u hj => ?_⟩
    have hl := h.1
    have hj' : j < xs.length := by
      rcases Nat.lt_or_ge j xs.length with h | h
      · exact h
      · rw [List.getElem?_eq_none h] at hj; cases hj
    rw [addr_add0, blk_cell hg j]
    have h1 : (cur.toList.take (n * 1))[j]? = xs[j]? := by rw [ht]
    rw [List.getElem?_take, if_pos (by omega)] at h1
    rw [← Array.getElem?_toList, h1, hj]
theorem row_one {W : World} {lo n : Nat} {v : Value} {xs : List Value} {ls : List Bs} {X : Nat → Prop} (h : W.ownsRow lo 38 1 v n xs) (hn : ls.length = n) (hp : ∀ i, i < ls.length → ∃ A n c, xs.getD i lz = .slice A n c ∧ BytesX W X (.slice A n c) (ls.getD i [])) : ∀ u ∈ xs, u.oneCell' = true := fun u hu => by
  obtain ⟨i, hi⟩ := List.getElem?_of_mem hu
  have hl := h.1
  have hi' : i < xs.length := (List.getElem?_eq_some_iff.1 hi).1
  obtain ⟨A, n', c, e, -⟩ := hp i (by omega)
  rw [List.getD_eq_getElem?_getD, hi] at e
  have e' : u = .slice A n' c := e
  rw [e']
  rfl
/-- Many slices of bytes more. -/
theorem OwnL.appends {W w1 : World} {lo lo2 : Nat} {v v' u : Value} {ls ms : List Bs} {xs ys : List Value} (hr : W.ownsRow lo 38 1 v ls.length xs) (hp : ∀ i, i < ls.length → ∃ A n c, xs.getD i lz = .slice A n c ∧ BytesX W (fun b => lo ≤ b ∧ b < W.heap.size ∧ some b ≠ v.ownBlock) (.slice A n c) (ls.getD i []))
    (hr2 : W.ownsRow lo2 38 1 u ms.length ys) (hp2 : ∀ i, i < ms.length → ∃ A n c, ys.getD i lz = .slice A n c ∧ BytesX W (fun b => lo2 ≤ b ∧ b < W.heap.size ∧ some b ≠ u.ownBlock) (.slice A n c) (ms.getD i [])) (hlo : lo ≤ lo2) (hv : ∀ k, v.ownBlock = some k → k < lo2)
    (hr1 : w1.ownsRow lo 38 1 v' (ls.length + ms.length) (xs ++ ys)) (hk : Keeps (fun k => some k = v.ownBlock) W w1) (hrow : v'.ownBlock = v.ownBlock ∨ ∃ b, v'.ownBlock = some b ∧ W.heap.size ≤ b) : OwnL w1 lo v' (ls ++ ms) := by
  have hxl : xs.length = ls.length := by have := hr.1; omega
  have keep : ∀ {A n c y}, BytesX W (fun b => lo ≤ b ∧ b < W.heap.size ∧ some b ≠ v.ownBlock) (.slice A n c) y → BytesX w1 (fun b => lo ≤ b ∧ b < w1.heap.size ∧ some b ≠ v'.ownBlock) (.slice A n c) y := fun h =>
    h.keep hk (fun b _ hb hm => hb.2.2 hm) (fun b hl hb => ⟨hb.1, Nat.lt_of_lt_of_le hl hk.size, fun e => by
      rcases hrow with e' | ⟨b', e', hb'⟩
      · exact hb.2.2 (by rw [e, e'])
      · rw [e'] at e; injection e with e; omega⟩)
  have turn : ∀ {A n c y}, BytesX W (fun b => lo2 ≤ b ∧ b < W.heap.size ∧ some b ≠ u.ownBlock) (.slice A n c) y → BytesX W (fun b => lo ≤ b ∧ b < W.heap.size ∧ some b ≠ v.ownBlock) (.slice A n c) y := fun h =>
    h.keep (Keeps.refl Nob W) (fun _ _ _ => id) (fun b _ hb => ⟨by omega, hb.2.1, fun e => by have := hv b e.symm; omega⟩)
  refine ⟨xs ++ ys, by rw [List.length_append]; exact hr1, fun i hi => ?_⟩
  rw [List.length_append] at hi
  by_cases hl : i < ls.length
  · obtain ⟨A', n', c', e, hb⟩ := hp i hl
    refine ⟨A', n', c', ?_, ?_⟩
    · rw [List.getD_eq_getElem?_getD, List.getElem?_append_left (by omega), ← List.getD_eq_getElem?_getD]; exact e
    · rw [List.getD_eq_getElem?_getD, List.getElem?_append_left hl, ← List.getD_eq_getElem?_getD]; exact keep hb
  · obtain ⟨A', n', c', e, hb⟩ := hp2 (i - ls.length) (by omega)
    refine ⟨A', n', c', ?_, ?_⟩
    · rw [List.getD_eq_getElem?_getD, List.getElem?_append_right (by omega), hxl, ← List.getD_eq_getElem?_getD]; exact e
    · rw [List.getD_eq_getElem?_getD, List.getElem?_append_right (by omega), ← List.getD_eq_getElem?_getD]; exact keep (turn hb)
theorem framesOf_take {ls : List Bs} {i : Nat} (h : i < ls.length) : framesOf (ls.take (i + 1)) = framesOf (ls.take i) ++ frameOf (ls.getD i []) := by
  rw [List.take_succ_eq_append_getElem h, List.getD_eq_getElem?_getD, List.getElem?_eq_getElem h]
  unfold framesOf
  rw [List.flatMap_append]
  simp only [List.flatMap_cons, List.flatMap_nil, List.append_nil]
  rfl
theorem sumL_take {ls : List Bs} {i : Nat} (h : i < ls.length) : lens (ls.take (i + 1)) = lens (ls.take i) + (ls.getD i []).length := by
  rw [List.take_succ_eq_append_getElem h, List.getD_eq_getElem?_getD, List.getElem?_eq_getElem h, lens_append]
  simp only [lens, List.map_cons, List.map_nil, List.sum_cons, List.sum_nil, Nat.add_zero]
  rfl
theorem len_le_lens : ∀ (ls : List Bs) (b : Bs), b ∈ ls → b.length ≤ lens ls
  | x :: ls, b, h => by
    simp only [lens, List.map_cons, List.sum_cons]
    rcases List.mem_cons.1 h with rfl | h
    · omega
    · have := len_le_lens ls b h
      simp only [lens] at this
      omega
theorem frames_len (ls : List Bs) (hl : ∀ b ∈ ls, b.length ≤ 1000000) : (framesOf ls).length ≤ lens ls + 40 * ls.length := by
  induction ls with
  | nil => simp [framesOf]
  | cons b ls ih =>
    have h1 := ih (fun c hc => hl c (List.mem_cons_of_mem _ hc))
    have hb := hl b List.mem_cons_self
    have h2 := itoa_len (n := (b.length : Int)) (by omega)
    simp only [framesOf, List.flatMap_cons, List.length_append, frameOf, beginB, neckB, List.length_cons, List.length_nil, lens, List.map_cons, List.sum_cons] at h1 h2 ⊢
    omega
end Go.Proofs.WV

/-
  The law WirePieces, by the program, in memory. Condition: the standard library's table of powers lies; the lists and the cuts lie.
-/
namespace Go.Proofs.WV
open Go.RowKit Go.Proofs.KL Go.Proofs.WM
set_option maxRecDepth 100000
set_option linter.unusedSimpArgs false
set_option linter.unusedVariables false

set_option maxHeartbeats 4000000 in
theorem Pieces_many {w : World} (ht : Tab w w.heap.size) {A0 : Option Addr} {n0 c0 : Nat} {ls : List Bs} (hl : LsX w (fun _ => True) (.slice A0 n0 c0) ls) (hn0 : n0 ≤ 140737488355328) (h20 : 20 < n0) (v1 : Value) : Calls Tryd.prog 9 #[.slice A0 n0 c0, v1] w fun e w' => e = .returned (.bool true) ∧ Keeps Nob w w' := by
  obtain ⟨A, c, e, hc, hx⟩ := hl
  injection e with e1 e2 e3
  subst e1; subst e3
  have HX := Lib.hid hx
  have HL := Lib.hid e2
  have HT := Lib.hid ht
  have HK := Lib.hid (Keeps.refl Nob w)
  have h20i : (20 : Int) < n0 := by omega
  have hn0i : (n0 : Int) ≤ 140737488355328 := by omega
  clear hx e2 ht hc
  go_enter Tryd.func9, Tryd.ntmps9
  go_wp2
  go_loopg [22, 5] n0 (fun K iv sv wr => ∃ (i : Nat) (z : Int), iv = .int .i64 i ∧ sv = .int .i64 z ∧ i + K = n0 ∧ Hid (w = wr))
  case atStart => exact ⟨0, 0, rfl, rfl, by omega, Lib.hid rfl⟩
  case round =>
    obtain ⟨i, z, rfl, rfl, hiK, Hw⟩ := hrel
    have hw : w = wr := Hw.out
    subst hw
    by_cases hlt : i < n0
    · obtain ⟨b, o, rfl, -, B, m, d, hcell, hbx, hm⟩ := HX.out i (by rw [← HL.out]; exact hlt)
      clear hbx
      go_wp2
      go_roundg (n0 - i - 1)
      case measure => omega
      case rel => exact ⟨i + 1, _, by rfl, rfl, by omega, by first | exact Lib.hid rfl | exact Lib.hid trivial⟩
    · have hi' : i = n0 := by omega
      subst hi'
      go_wp2_with (first
        | (go_at_call 13; go_must (refine (alive13 (Tab.after HT.out HK.out)).mono ?_; rintro e w9 ⟨rfl, hk9⟩); have HKz := Lib.hid (HK.out.trans hk9 (fun _ _ h => h)); clear hk9; (try simp only [PU]))
      )
      go_ret
      exact ⟨rfl, HKz.out⟩
set_option maxHeartbeats 4000000 in
theorem Pieces_big {w : World} (ht : Tab w w.heap.size) {A0 : Option Addr} {n0 c0 : Nat} {ls : List Bs} (hl : LsX w (fun _ => True) (.slice A0 n0 c0) ls) (h20 : n0 ≤ 20) (hbig : 3000 < lens ls) (v1 : Value) : Calls Tryd.prog 9 #[.slice A0 n0 c0, v1] w fun e w' => e = .returned (.bool true) ∧ Keeps Nob w w' := by
  obtain ⟨A, c, e, hc, hx⟩ := id hl
  injection e with e1 e2 e3
  subst e1; subst e3
  have HX := Lib.hid hx
  have HL := Lib.hid e2
  have HT := Lib.hid ht
  have HK := Lib.hid (Keeps.refl Nob w)
  have h20i : ¬ (20 : Int) < n0 := by omega
  have hn0i : (n0 : Int) ≤ 20 := by omega
  clear hx e2 ht hc hl
  go_enter Tryd.func9, Tryd.ntmps9
  go_wp2
  go_loopg [22, 5] n0 (fun K iv sv wr => ∃ (i s : Nat), iv = .int .i64 i ∧ sv = .int .i64 s ∧ i + K = n0 ∧ Hid (s = lens (ls.take i)) ∧ Hid (s ≤ i * 140737488355328) ∧ Hid (w = wr))
  case atStart => exact ⟨0, 0, rfl, rfl, by omega, Lib.hid rfl, Lib.hid (Nat.zero_le _), Lib.hid rfl⟩
  case round =>
    obtain ⟨i, s, rfl, rfl, hiK, Hs, Hsb, Hw⟩ := hrel
    have hw : w = wr := Hw.out
    subst hw
    by_cases hlt : i < n0
    · obtain ⟨b, o, rfl, -, B, m, d, hcell, hbx, hm⟩ := HX.out i (by rw [← HL.out]; exact hlt)
      have Hnx := Lib.hid (show s + m = lens (ls.take (i + 1)) by rw [sumL_take (by rw [← HL.out]; exact hlt), ← Hs.out, ← hbx.len.1])
      have hsi : (s : Int) ≤ 2814749767106560 := by have := Hsb.out; omega
      have hmi : (m : Int) ≤ 140737488355328 := by omega
      obtain ⟨t, ht'⟩ : ∃ t, s + m = t := ⟨_, rfl⟩
      rw [ht'] at Hnx
      have hcast : (s : Int) + (m : Int) = (t : Int) := by omega
      have Hst := Lib.hid (show t ≤ (i + 1) * 140737488355328 by have := Hsb.out; omega)
      clear ht'
      clear hbx
      go_wp2
      go_roundg (n0 - i - 1)
      case measure => omega
      case rel => exact ⟨i + 1, t, by rfl, rfl, by omega, Hnx, Hst, by first | exact Lib.hid rfl | exact Lib.hid trivial⟩
    · have hi' : i = n0 := by omega
      subst hi'
      have hse : s = lens ls := by
        have := Hs.out
        rw [List.take_of_length_le (by rw [← HL.out]; exact Nat.le_refl _)] at this
        exact this
      clear hlt
      have hbi : (3000 : Int) < (s : Int) := by omega
      go_wp2_with (first
        | (go_at_call 13; go_must (refine (alive13 (Tab.after HT.out HK.out)).mono ?_; rintro e w9 ⟨rfl, hk9⟩); have HKz := Lib.hid (HK.out.trans hk9 (fun _ _ h => h)); clear hk9; (try simp only [PU]))
      )
      go_ret
      exact ⟨rfl, HKz.out⟩
end Go.Proofs.WV

/-
  The law WirePieces, by the program, in memory, whole. Condition: the standard library's table of powers lies; the lists and the cuts lie.
-/
namespace Go.Proofs.WV
open Go.RowKit Go.Proofs.KL Go.Proofs.WM
set_option maxRecDepth 100000
set_option linter.unusedSimpArgs false
set_option linter.unusedVariables false

theorem subA_nil (A : Option Addr) (c : Nat) : subA A 0 c = A := by
  unfold subA
  split
  · rfl
  · cases A with
    | none => rfl
    | some a => simp [Addr.add]
/-- A block that holds no byte is none of a slice of bytes. -/
theorem BytesX.other {W W' : World} {X : Nat → Prop} {v : Value} {bs : Bs} {rb : Nat} {A : Option Addr} {n c : Nat} {x y : Bool} (h : BytesX W X v bs) (hk : Keeps (· = rb) W W') (hg : W.heap[rb]? = some (.cells #[.slice A n c, .bool x, .bool y] 41 (0, 0))) (hs : W.heap.size ≤ W'.heap.size) : BytesX W' X v bs := by
  obtain ⟨B, d, e, hc, hx⟩ := h
  refine ⟨B, d, e, hc, fun i hi => ?_⟩
  obtain ⟨b, o, e1, hb, hcell⟩ := hx i hi
  refine ⟨b, o, e1, hb, hk.cell hcell (fun e2 => ?_)⟩
  have e3 : b = rb := e2
  subst e3
  rw [blk_cell hg] at hcell
  match o + i, hcell with
  | 0, h => cases h
  | 1, h => cases h
  | 2, h => cases h
theorem OwnL.other {W W' : World} {lo rb : Nat} {v : Value} {ls : List Bs} {A : Option Addr} {n c : Nat} {x y : Bool} (h : OwnL W lo v ls) (hk : Keeps (· = rb) W W') (hg : W.heap[rb]? = some (.cells #[.slice A n c, .bool x, .bool y] 41 (0, 0))) (hv : ∀ b, v.ownBlock = some b → b ≠ rb) : OwnL W' lo v ls := by
  obtain ⟨xs, hr, hp⟩ := h
  refine ⟨xs, ownsRow_keep hr hk (fun k hk' e => hv k hk' e), fun i hi => ?_⟩
  obtain ⟨B, m, d, e, hb⟩ := hp i hi
  exact ⟨B, m, d, e, (BytesX.other hb hk hg hk.size).keep (Keeps.refl Nob W') (fun _ _ _ => id) (fun b hl hx => ⟨hx.1, hl, hx.2.2⟩)⟩
set_option maxHeartbeats 16000000 in
theorem Pieces_ok {w : World} (ht : Tab w w.heap.size) {A0 : Option Addr} {n0 c0 : Nat} {ls : List Bs} (hl : LsX w (fun _ => True) (.slice A0 n0 c0) ls) (h20 : n0 ≤ 20) (hsmall : lens ls ≤ 3000) {C0 : Option Addr} {cn cc : Nat} {zs : List Int} (hz : CutsX w (fun _ => True) (.slice C0 cn cc) zs) : Calls Tryd.prog 9 #[.slice A0 n0 c0, .slice C0 cn cc] w fun e w' => e = .returned (.bool true) ∧ Keeps Nob w w' := by
  obtain ⟨A, c, e, hc, hx⟩ := id hl
  injection e with e1 e2 e3
  subst e1; subst e3
  have HX := Lib.hid hx
  have HL := Lib.hid e2
  have HT := Lib.hid ht
  have HK := Lib.hid (Keeps.refl Nob w)
  have h20i : ¬ (20 : Int) < n0 := by omega
  have hn0i : (n0 : Int) ≤ 20 := by omega
  obtain ⟨CA, cc', e', hcc, hcb, hcx⟩ := id hz
  injection e' with e1' e2' e3'
  subst e1'; subst e3'
  have HZ := Lib.hid hcx
  have HZL := Lib.hid e2'
  have hcni : (cn : Int) ≤ 140737488355328 := by omega
  clear hx e2 ht hc hl hz hcx e2' hcc hcb
  go_enter Tryd.func9, Tryd.ntmps9
  go_wp2
  go_loopg [22, 5] n0 (fun K iv sv wr => ∃ (i s : Nat), iv = .int .i64 i ∧ sv = .int .i64 s ∧ i + K = n0 ∧ Hid (s = lens (ls.take i)) ∧ Hid (s ≤ i * 140737488355328) ∧ Hid (w = wr))
  case atStart => exact ⟨0, 0, rfl, rfl, by omega, Lib.hid rfl, Lib.hid (Nat.zero_le _), Lib.hid rfl⟩
  case round =>
    obtain ⟨i, s, rfl, rfl, hiK, Hs, Hsb, Hw⟩ := hrel
    have hw : w = wr := Hw.out
    subst hw
    by_cases hlt : i < n0
    · obtain ⟨b, o, rfl, -, B, m, d, hcell, hbx, hm⟩ := HX.out i (by rw [← HL.out]; exact hlt)
      have Hnx := Lib.hid (show s + m = lens (ls.take (i + 1)) by rw [sumL_take (by rw [← HL.out]; exact hlt), ← Hs.out, ← hbx.len.1])
      have hsi : (s : Int) ≤ 2814749767106560 := by have := Hsb.out; omega
      have hmi : (m : Int) ≤ 140737488355328 := by omega
      obtain ⟨t, ht'⟩ : ∃ t, s + m = t := ⟨_, rfl⟩
      rw [ht'] at Hnx
      have hcast : (s : Int) + (m : Int) = (t : Int) := by omega
      have Hst := Lib.hid (show t ≤ (i + 1) * 140737488355328 by have := Hsb.out; omega)
      clear ht'
      clear hbx
      go_wp2
      go_roundg (n0 - i - 1)
      case measure => omega
      case rel => exact ⟨i + 1, t, by rfl, rfl, by omega, Hnx, Hst, by first | exact Lib.hid rfl | exact Lib.hid trivial⟩
    · have hi' : n0 = i := by omega
      subst hi'
      have hse : s = lens ls := by
        have := Hs.out
        rw [List.take_of_length_le (by rw [← HL.out]; exact Nat.le_refl _)] at this
        exact this
      clear hlt
      have hbi : ¬ (3000 : Int) < (s : Int) := by omega
      have Hml := Lib.hid (show ∀ b ∈ ls, b.length ≤ 3000 from fun b hb => by have := len_le_lens ls b hb; omega)
      have Hfl := Lib.hid (show (framesOf ls).length ≤ 4000 by have := frames_len ls (fun b hb => by have := len_le_lens ls b hb; omega); have := HL.out; omega)
      clear Hs Hsb hse hsmall hiK
      go_wp2
      go_loopg [41, 8] n0 (fun K iv av wr => ∃ (i : Nat) (aA : Option Addr) (an ac : Nat), iv = .int .i64 i ∧ av = .slice aA an ac ∧ i + K = n0 ∧ Hid (OwnB wr w.heap.size (.slice aA an ac) (framesOf (ls.take i))) ∧ Hid (Keeps Nob w wr))
      case atStart => exact ⟨0, none, 0, 0, rfl, rfl, by omega, Lib.hid (OwnB.nil _ _), HK⟩
      case round =>
        obtain ⟨i, aA, an, ac, rfl, rfl, hiK, HO, HK⟩ := hrel
        by_cases hlt : i < n0
        · obtain ⟨b, o, rfl, -, B, m, d, hcell0, hbx, hm⟩ := HX.out i (by rw [← HL.out]; exact hlt)
          have hcell := HK.out.cell hcell0 id
          have Hbx := Lib.hid (hbx.keep (X' := fun _ => True) HK.out (fun _ _ _ => id) (fun _ _ h => h))
          have Hnx := Lib.hid (framesOf_take (ls := ls) (i := i) (by rw [← HL.out]; exact hlt))
          have hml : m ≤ 3000 := by
            rw [hbx.len.1]
            refine Hml.out _ ?_
            rw [List.getD_eq_getElem?_getD, List.getElem?_eq_getElem (by rw [← HL.out]; exact hlt)]
            exact List.getElem_mem _
          have Hmm := Lib.hid hml
          have Hfb := Lib.hid (show (framesOf (ls.take (i + 1))).length ≤ 4000 by
            have h1 := Hfl.out
            have h2 : framesOf ls = framesOf (ls.take (i + 1)) ++ framesOf (ls.drop (i + 1)) := by unfold framesOf; rw [← List.flatMap_append, List.take_append_drop]
            rw [h2, List.length_append] at h1
            omega)
          generalize ls.getD i [] = bi at *
          clear hcell0 hbx hm hml
          go_wp2_with (first
            | (go_at_call 25; go_must (refine (frame25 (Tab.after HT.out HK.out) Hbx.out (by have := Hmm.out; omega)).mono ?_; rintro e w1 ⟨⟨v1, rfl, ho1⟩, hk1⟩; obtain ⟨fA, fc, hv1⟩ := ho1.slice; subst hv1)
               have HO1 := Lib.hid ho1
               have HOk := Lib.hid (HO.out.keep hk1 (fun _ _ => id))
               have HK1 := Lib.hid (HK.out.trans hk1 (fun _ _ h => h))
               clear ho1 hk1
               generalize hfl : (frameOf bi).length = fl at *
               have Hflb := Lib.hid hfl
               clear hfl
               (try simp only [PU]))
            | ((with_reducible refine at_dst (N := 54) rfl ?_); go_must (refine ev_app_sl rfl rfl byteT38 (base := w.heap.size) rfl HOk.out rfl (news := frameOf bi) Hflb.out HO1.out.bytes.news (by have h1 := Hfb.out; rw [Hnx.out, List.length_append, Hflb.out] at h1; omega) HK1.out.size ?_; rw [← Hnx.out]; intro v' w2 ho2 ha2; obtain ⟨nA, nc, hv'⟩ := ho2.slice; subst hv')
               have HO2 := Lib.hid ho2
               have HK2 := Lib.hid (HK1.out.trans ha2.keep (fun i hi e => by have := (HOk.out.lt i e.symm).1; omega))
               clear ho2 ha2
               (try simp only [PU]))
          )
          go_roundg (n0 - i - 1)
          case measure => omega
          case rel => exact ⟨i + 1, nA, _, nc, by rfl, rfl, by omega, HO2, HK2⟩
        · have hi' : n0 = i := by omega
          subst hi'
          rw [List.take_of_length_le (by rw [← HL.out]; exact Nat.le_refl _)] at HO
          have Han := Lib.hid (show an = (framesOf ls).length from HO.out.bytes.len.1)
          clear hlt hiK
          go_wp2_with (first
            | (go_at_call 27; go_must (refine (new27 _).mono ?_; rintro e w2 ⟨rb, rfl, hgr, hlr, hfd, hk2⟩)
               have HF := Lib.hid hfd
               have Hrb := Lib.hid (show w.heap.size ≤ rb ∧ ∀ b, (Value.slice aA an ac).ownBlock = some b → b ≠ rb from ⟨Nat.le_trans HK.out.size hgr, fun b hb e => by have := (HO.out.lt b hb).2; omega⟩)
               have HO := Lib.hid (HO.out.keep hk2 (fun _ _ => id))
               have HK := Lib.hid (HK.out.trans hk2 (fun _ _ h => h))
               have hnil := ptr39_s rb
               clear hk2 hgr hlr hfd
               (try simp only [PU]))
          )
          obtain ⟨kA, hkA⟩ : ∃ x, (Value.slice aA an ac).ownBlock = x := ⟨_, rfl⟩
          have HB0 := Lib.hid (show BytesX w2 (fun b => some b = kA) (.slice aA an ac) (framesOf ls) from HO.out.bytes.keep (X' := fun b => some b = kA) (Keeps.refl Nob w2) (fun _ _ _ => id) (fun b _ hb => by rw [← hkA]; exact hb.symm))
          have HkA := Lib.hid (show ∀ b, kA = some b → w.heap.size ≤ b ∧ b ≠ rb from fun b e => ⟨(HO.out.lt b (hkA.trans e)).1, Hrb.out.2 b (hkA.trans e)⟩)
          have Hw2 := Lib.hid (show ∀ b, kA = some b → b < w2.heap.size from fun b e => (HO.out.lt b (hkA.trans e)).2)
          clear hkA
          obtain ⟨Q0, hQ0⟩ : ∃ Q, framesOf ls = Q := ⟨_, rfl⟩
          have HQ0 := Lib.hid hQ0
          rw [hQ0] at HB0 Han Hfl
          have han := Han.out
          clear hQ0
          go_loopg [8, 15, 14] (cn + Q0.length) (fun K av iv gv wr => ∃ (aA : Option Addr) (qn ac : Nat) (Q : Bs) (i j : Nat) (gA : Option Addr) (gc : Nat) (ws : Bs) (kb : Option Nat), av = .slice aA qn ac ∧ iv = .int .i64 i ∧ gv = .slice gA j gc ∧ (cn - i) + qn ≤ K ∧ i ≤ cn + 1 ∧ (qn = 0 ∨ i ≤ cn) ∧ j ≤ n0 ∧ Hid (qn = Q.length) ∧ Hid (BytesX wr (fun b => some b = kA) (.slice aA qn ac) Q) ∧ Hid (FdX wr rb kb ws false) ∧ Hid (OwnL wr w.heap.size (.slice gA j gc) (ls.take j)) ∧ Hid (ws ++ Q = framesOf (ls.drop j)) ∧ Hid (frameB ws = .part) ∧ Hid (∀ b, (Value.slice gA j gc).ownBlock = some b → kA ≠ some b ∧ kb ≠ some b ∧ b ≠ rb) ∧ Hid (w2.heap.size ≤ wr.heap.size) ∧ Hid (Keeps Nob w wr))
          case atStart => exact ⟨aA, an, ac, Q0, 0, 0, none, 0, [], none, rfl, rfl, rfl, by omega, by omega, .inr (Nat.zero_le _), Nat.zero_le _, Han, HB0, HF, Lib.hid (OwnL.nil _ _), Lib.hid (by rw [HQ0.out.symm]; rfl), Lib.hid frameB_nil, Lib.hid (fun b e => by cases e), Lib.hid (Nat.le_refl _), HK⟩
          case round =>
            obtain ⟨aA, qn, ac, Q, i, j, gA, gc, ws, kb, rfl, rfl, rfl, hK, hib, hic, hj, Hqn, HB, HF, HG, HE, HP, HS, Hw2r, HK⟩ := hrel
            have Hjl := Lib.hid (show (ls.take j).length = j by rw [List.length_take, ← HL.out]; exact Nat.min_eq_left hj)
            have Hdl := Lib.hid (show (ls.drop j).length = n0 - j by rw [List.length_drop, ← HL.out])
            have Hqb := Lib.hid (show ws.length + Q.length ≤ 4000 by
              have h1 := congrArg List.length HE.out
              have h2 : framesOf ls = framesOf (ls.take j) ++ framesOf (ls.drop j) := by unfold framesOf; rw [← List.flatMap_append, List.take_append_drop]
              have h3 := Hfl.out
              rw [← HQ0.out, h2, List.length_append] at h3
              rw [List.length_append] at h1
              omega)
            have hib2 : (i : Int) ≤ 140737488355329 := by omega
            by_cases hq0 : qn = 0
            · have hQ : Q = [] := List.eq_nil_of_length_eq_zero (by rw [← Hqn.out]; exact hq0)
              have hend := frames_end (fun b hb => by have := Hml.out b (List.mem_of_mem_drop hb); omega) (show ws = framesOf (ls.drop j) by rw [← HE.out, hQ, List.append_nil]) HP.out
              have hjn : j = n0 := by have h1 := Hdl.out; rw [hend.1] at h1; simp only [List.length_nil] at h1; omega
              have hws := hend.2
              subst hq0
              subst hws
              subst hjn
              have HG2 := Lib.hid (show OwnL wr w.heap.size (.slice gA j gc) ls from by have h := HG.out; rw [List.take_of_length_le (by rw [← HL.out]; exact Nat.le_refl _)] at h; exact h)
              have h22 := left_fd HF.out
              have H22 := Lib.hid (show Calls Tryd.prog 22 #[.pointer (some ⟨rb, 0, none⟩)] wr fun e w' => e = .returned (.int .i64 0) ∧ w' = wr from h22)
              clear hQ hend h22 hK hic hib han
              go_wp2_with (first
                | (go_at_call 22; go_must (refine H22.out.mono ?_; rintro e w4 ⟨rfl, rfl⟩); (try simp only [PU]))
              )
              rename World => w5
              go_loopg [105] j (fun K iv wr => ∃ i : Nat, iv = .int .i64 i ∧ i + K = j ∧ Hid (Keeps Nob w5 wr))
              case atStart => exact ⟨0, rfl, by omega, Lib.hid (Keeps.refl Nob _)⟩
              case round =>
                obtain ⟨i, rfl, hiK, HK5⟩ := hrel
                by_cases hlt : i < j
                · obtain ⟨b, o, rfl, -, B, m, d, hcell0, hbx, hm⟩ := HX.out i (by rw [← HL.out]; exact hlt)
                  have hcell := (HK.out.trans HK5.out (fun _ _ h => h)).cell hcell0 id
                  have hc1 := run_conv_bs (P := Tryd.prog) Tryd.underlying38 Tryd.underlying5 Tryd.underlying9 (hbx.keep (X' := fun _ => True) (HK.out.trans HK5.out (fun _ _ h => h)) (fun _ _ _ => id) (fun _ _ h => h))
                  obtain ⟨gg, gd, A1, n1, d1, hgv, hcell1, hbx1⟩ := HG2.out.at (i := i) (by rw [← HL.out]; exact hlt)
                  injection hgv with hgv1 hgv2 hgv3
                  subst hgv1
                  subst hgv3
                  have hcell2 := HK5.out.cell hcell1 id
                  have hc2 := run_conv_bs (P := Tryd.prog) Tryd.underlying38 Tryd.underlying5 Tryd.underlying9 (hbx1.keep (X' := fun _ => True) HK5.out (fun _ _ _ => id) (fun _ _ _ => trivial))
                  have hc1d := run_conv_bs (P := Tryd.prog) (W := wr.drew) Tryd.underlying38 Tryd.underlying5 Tryd.underlying9 (hbx.keep (X' := fun _ => True) (HK.out.trans HK5.out (fun _ _ h => h)).drew (fun _ _ _ => id) (fun _ _ h => h))
                  have hc2d := run_conv_bs (P := Tryd.prog) (W := wr.drew) Tryd.underlying38 Tryd.underlying5 Tryd.underlying9 (hbx1.keep (X' := fun _ => True) HK5.out.drew (fun _ _ _ => id) (fun _ _ _ => trivial))
                  generalize mkB (ls.getD i []) = St at *
                  clear hbx hbx1 hcell0 hcell1 hgv2 hm
                  go_wp2_with fail
                  refine wp_region_perm [(0, true), (1, true), (2, true), (3, true), (4, true), (5, true), (6, true), (7, true), (8, true), (9, true), (10, true)] (fun w' => w'.cell? ⟨gg, i, none⟩ = some (.slice A1 n1 d1) ∧ w'.cell? ⟨b, o + i, none⟩ = some (.slice B m d) ∧ (convert 38 9 (.slice A1 n1 d1)).run Tryd.prog w' = .ok (.string St) w' ∧ (convert 38 9 (.slice B m d)).run Tryd.prog w' = .ok (.string St) w') rfl (by kernel_rfl) (by kernel_rfl) (by decide) (fun c a d v w h => by cases d <;> exact h) ⟨hcell2, hcell, hc2d, hc1d⟩ ?_
                  refine perm_q (v := ?v1_0) (some 108) rfl rfl rfl ?q1_0 ?h1_0; (case q1_0 => (intro w' hS; obtain ⟨s1, s2, s3, s4⟩ := hS; first | (go_simp; done) | (go_simp; rfl))); (try simp only [PU])
                  refine perm_q (v := ?v1_1) (some 109) rfl rfl rfl ?q1_1 ?h1_1; (case q1_1 => (intro w' hS; obtain ⟨s1, s2, s3, s4⟩ := hS; first | (go_simp; done) | (go_simp; rfl))); (try simp only [PU])
                  refine perm_q (v := ?v1_2) (some 110) rfl rfl rfl ?q1_2 ?h1_2; (case q1_2 => (intro w' hS; obtain ⟨s1, s2, s3, s4⟩ := hS; first | (go_simp; done) | (go_simp; rfl))); (try simp only [PU])
                  refine perm_q (v := ?v1_3) (some 111) rfl rfl rfl ?q1_3 ?h1_3; (case q1_3 => (intro w' hS; obtain ⟨s1, s2, s3, s4⟩ := hS; first | (go_simp; done) | (go_simp; rfl))); (try simp only [PU])
                  refine perm_q (v := ?v1_4) (some 112) rfl rfl rfl ?q1_4 ?h1_4; (case q1_4 => (intro w' hS; obtain ⟨s1, s2, s3, s4⟩ := hS; first | (go_simp; done) | (go_simp; rfl))); (try simp only [PU])
                  refine perm_q (v := ?v1_5) (some 113) rfl rfl rfl ?q1_5 ?h1_5; (case q1_5 => (intro w' hS; obtain ⟨s1, s2, s3, s4⟩ := hS; first | (go_simp; done) | (go_simp; rfl))); (try simp only [PU])
                  refine perm_q (v := ?v1_6) (some 114) rfl rfl rfl ?q1_6 ?h1_6; (case q1_6 => (intro w' hS; obtain ⟨s1, s2, s3, s4⟩ := hS; first | (go_simp; done) | (go_simp; rfl))); (try simp only [PU])
                  refine perm_q (v := ?v1_7) (some 115) rfl rfl rfl ?q1_7 ?h1_7; (case q1_7 => (intro w' hS; obtain ⟨s1, s2, s3, s4⟩ := hS; first | (go_simp; done) | (go_simp; rfl))); (try simp only [PU])
                  refine perm_q (v := ?v1_8) (some 116) rfl rfl rfl ?q1_8 ?h1_8; (case q1_8 => (intro w' hS; obtain ⟨s1, s2, s3, s4⟩ := hS; first | (go_simp; done) | (go_simp; rfl))); (try simp only [PU])
                  refine perm_q (v := ?v1_9) (some 117) rfl rfl rfl ?q1_9 ?h1_9; (case q1_9 => (intro w' hS; obtain ⟨s1, s2, s3, s4⟩ := hS; first | (go_simp; done) | (go_simp; rfl))); (try simp only [PU])
                  refine perm_q (v := ?v1_10) (some 118) rfl rfl rfl ?q1_10 ?h1_10; (case q1_10 => (intro w' hS; obtain ⟨s1, s2, s3, s4⟩ := hS; first | (go_simp; done) | (go_simp; rfl))); (try simp only [PU])
                  refine perm_nil ?_
                  go_wp2
                  go_roundg (j - i - 1)
                  case measure => omega
                  case rel => exact ⟨i + 1, by rfl, by omega, Lib.hid HK5.out.drew⟩
                · have hi' : i = j := by omega
                  subst hi'
                  have HK := Lib.hid (HK.out.trans HK5.out (fun _ _ h => h))
                  go_wp2_with (first
                    | (go_at_call 13; go_must (refine (alive13 (Tab.after HT.out HK.out)).mono ?_; rintro e w9 ⟨rfl, hk9⟩); have HKz := Lib.hid (HK.out.trans hk9 (fun _ _ h => h)); clear hk9; (try simp only [PU]))
                  )
                  go_ret
                  exact ⟨rfl, HKz.out⟩
            · have hqI : (0 : Int) < (qn : Int) := by omega
              have hicn : i ≤ cn := by omega
              have hqac := HB.out.len.2
              by_cases hcut : i < cn
              · obtain ⟨bz, oz, rfl, -, hcell0, hz0, hz1⟩ := HZ.out i (by rw [← HZL.out]; exact hcut)
                have hcell := HK.out.cell hcell0 id
                obtain ⟨z, hzz⟩ : ∃ z, zs.getD i 0 = z := ⟨_, rfl⟩
                rw [hzz] at hcell hz0 hz1
                obtain ⟨k, hk⟩ : ∃ k, min qn z.toNat = k := ⟨_, rfl⟩
                have hmin : min (qn : Int) z = (k : Int) := by omega
                have hkq : k ≤ qn := by omega
                have hkac : k ≤ ac := by omega
                have Hprog := Lib.hid (show (cn - (i + 1)) + (qn - k) + 1 ≤ (cn - i) + qn ∧ (qn - k = 0 ∨ i + 1 ≤ cn) by omega)
                have hii : (i : Int) < (cn : Int) := by omega
                clear hcell0 hzz hk hq0
                have hsub := HB.out.sub (l := 0) (h := k) (Nat.zero_le _) hkq
                simp only [Nat.sub_zero, List.drop_zero] at hsub
                rw [subA_nil] at hsub
                have hsub2 := HB.out.sub (l := k) (h := qn) hkq (Nat.le_refl _)
                rw [List.take_of_length_le (by rw [List.length_drop, Hqn.out]; exact Nat.le_refl _)] at hsub2
                have Hsub2 := Lib.hid hsub2
                have hlens : ws ++ (Q.take k ++ Q.drop k) = framesOf (ls.drop j) := by rw [List.take_append_drop]; exact HE.out
                obtain ⟨jj, hjj, wq, hfeed, hrest, hpart⟩ := feedB_frames (fun b hb => by have := Hml.out b (List.mem_of_mem_drop hb); omega) hlens
                have hf := feed21 HF.out hsub (by have := Hqb.out; omega) (by have := Hqb.out; have := Hqn.out; omega)
                rw [hfeed] at hf
                obtain ⟨L2, hL2⟩ : ∃ l, (ls.drop j).take jj = l := ⟨_, rfl⟩
                rw [hL2] at hf
                have Hjj := Lib.hid (show L2.length = jj ∧ j + jj ≤ n0 by rw [← hL2, List.length_take]; have := Hdl.out; omega)
                have HL2t := Lib.hid (show ls.take (j + jj) = ls.take j ++ L2 by rw [← hL2, List.take_add])
                have HE2 := Lib.hid (show wq ++ Q.drop k = framesOf (ls.drop (j + jj)) by rw [hrest, List.drop_drop])
                have HP2 := Lib.hid hpart
                have H21 := Lib.hid (show Calls Tryd.prog 21 #[.pointer (some ⟨rb, 0, none⟩), .slice aA k ac] wr (fun e w' => (∃ ov, e = .returned (.tuple #[ov, .int .i64 0]) ∧ OwnL w' wr.heap.size ov L2) ∧ (∃ kb', (∀ b, kb' = some b → wr.heap.size ≤ b ∧ b < w'.heap.size) ∧ FdX w' rb kb' wq false) ∧ Keeps (· = rb) wr w') from hf)
                have Hqk := Lib.hid (show qn - k = (Q.drop k).length by rw [List.length_drop, Hqn.out])
                have hji : (j : Int) ≤ 20 := by omega
                clear hsub hsub2 hlens hfeed hrest hpart hf hL2 hjj
                go_wp2_with (first
                  | ((with_reducible refine at_dst (N := 81) rfl ?_); go_must (refine ev_sub_h (h := k) rfl rfl byteT38 rfl rfl hkac ?_; rw [subA_nil]); (try simp only [PU]))
                  | (go_at_call 21; go_must (refine H21.out.mono ?_; rintro e w6 ⟨⟨ov, rfl, hol⟩, ⟨kb2, hkb2, hfd⟩, hk6⟩; obtain ⟨oA, oc, hov, -⟩ := hol.slice; rw [Hjj.out.1] at hov; subst hov)
                     have HL6 := Lib.hid hol
                     have Hkb2 := Lib.hid hkb2
                     have HF6 := Lib.hid hfd
                     obtain ⟨fA, fn, fc, hfb, -⟩ := HF.out
                     have HG6 := Lib.hid (HG.out.other hk6 hfb (fun b e => (HS.out b e).2.2))
                     have HB6 := Lib.hid (Hsub2.out.keep (X' := fun b => some b = kA) hk6 (fun b _ hb e => (HkA.out b hb.symm).2 e) (fun _ _ h => h))
                     have HK6 := Lib.hid (show Keeps Nob w w6 from HK.out.trans hk6 (fun i hi e => by have := Hrb.out.1; omega))
                     have Hs6 := Lib.hid hk6.size
                     have Hrl := Lib.hid (blk_lt hfb)
                     clear hol hkb2 hfd hfb hk6
                     (try simp only [PU]))
                  | ((with_reducible refine at_dst (N := 89) rfl ?_)
                     obtain ⟨xs, hrow, hp⟩ := HG6.out
                     obtain ⟨ys, hrow2, hp2⟩ := HL6.out
                     have Hp := Lib.hid hp
                     have Hrow := Lib.hid hrow
                     have Hp2 := Lib.hid hp2
                     have Hrow2 := Lib.hid hrow2
                     rw [Hjl.out] at hrow
                     rw [Hjj.out.1] at hrow2
                     have Hrn := Lib.hid hrow
                     have Hrn2 := Lib.hid hrow2
                     clear hp hrow hp2 hrow2
                     go_must (refine ev_append rfl rfl Tryd.underlying43 info38b rfl (by decide) (base := w.heap.size) rfl Hrn.out rfl (news := ys) (Hrn2.out.1) (row_news Hrn2.out) (row_one Hrn2.out Hjj.out.1 Hp2.out) (by have := Hjj.out.2; omega) (by decide) HK6.out.size ?_; intro v7 w7 hown7 hk7 hr7 hf7)
                     have Hpush := Lib.hid (OwnL.appends Hrow.out Hp.out Hrow2.out Hp2.out HK.out.size (fun b e => (HG.out.lt b e).2) (by rw [Hjl.out, Hjj.out.1]; exact hown7) hk7 hr7)
                     have hpush := Hpush.out
                     rw [← HL2t.out] at hpush
                     have hjt : (ls.take (j + jj)).length = j + jj := by rw [List.length_take, ← HL.out]; exact Nat.min_eq_left Hjj.out.2
                     obtain ⟨hA, hcc, hv7, -⟩ := hpush.slice
                     rw [hjt] at hv7
                     subst hv7
                     have HG7 := Lib.hid hpush
                     have Hk7 := Lib.hid (show Keeps (fun b => some b = (Value.slice gA j gc).ownBlock) w6 w7 from hk7)
                     have Hr7 := Lib.hid (show (Value.slice hA (j + jj) hcc).ownBlock = (Value.slice gA j gc).ownBlock ∨ ∃ b, (Value.slice hA (j + jj) hcc).ownBlock = some b ∧ w6.heap.size ≤ b from hr7)
                     clear hown7 hk7 hr7 hf7 hpush hjt
                     (try simp only [PU]))
                  | ((with_reducible refine at_dst (N := 92) rfl ?_); go_must (refine ev_sub_l (l := k) rfl rfl byteT38 rfl rfl hkq ?_); (try simp only [PU]))
                )
                go_roundg ((cn - (i + 1)) + (qn - k))
                case measure => have := Hprog.out.1; omega
                case rel => exact ⟨subA aA k ac, qn - k, ac - k, Q.drop k, i + 1, j + jj, hA, hcc, wq, kb2, (by first | rfl | simp), by rfl, by first | rfl | (congr 1; omega), by omega, by omega, Hprog.out.2, Hjj.out.2, Hqk,
                    Lib.hid (HB6.out.keep (X' := fun b => some b = kA) Hk7.out (fun b _ hb e => (HS.out b e.symm).1 hb.symm) (fun _ _ h => h)),
                    Lib.hid (HF6.out.keep Hk7.out (fun e => (HS.out rb e.symm).2.2 rfl) (fun b hb e => by have h1 := (Hkb2.out b hb.symm).1; have h2 := (HG.out.lt b e.symm).2; omega)),
                    HG7, HE2, HP2,
                    Lib.hid (fun b e => by
                      rcases Hr7.out with h | ⟨b', h, hb'⟩
                      · have e2 : (Value.slice gA j gc).ownBlock = some b := by rw [← h]; exact e
                        refine ⟨(HS.out b e2).1, fun e3 => ?_, (HS.out b e2).2.2⟩
                        have h1 := (Hkb2.out b e3).1
                        have h2 := (HG.out.lt b e2).2
                        omega
                      · rw [h] at e
                        injection e with e
                        refine ⟨fun e3 => ?_, fun e3 => ?_, fun e3 => ?_⟩
                        · have h1 := Hw2.out b e3; have h2 := Hw2r.out; have h3 := Hs6.out; omega
                        · have h1 := (Hkb2.out b e3).2; omega
                        · have h1 := Hrl.out; have h2 := Hs6.out; omega),
                    Lib.hid (Nat.le_trans Hw2r.out (Nat.le_trans Hs6.out Hk7.out.size)),
                    Lib.hid (HK6.out.trans Hk7.out (fun i hi e => by have := (HG.out.lt i e.symm).1; omega))⟩
              · have hkq : qn ≤ qn := Nat.le_refl _
                have hkac : qn ≤ ac := hqac
                have Hprog := Lib.hid (show (cn - (i + 1)) + (qn - qn) + 1 ≤ (cn - i) + qn ∧ (qn - qn = 0 ∨ i + 1 ≤ cn) by omega)
                have hii : ¬ (i : Int) < (cn : Int) := by omega
                clear hq0
                have hsub := HB.out.sub (l := 0) (h := qn) (Nat.zero_le _) hkq
                simp only [Nat.sub_zero, List.drop_zero] at hsub
                rw [subA_nil] at hsub
                have hsub2 := HB.out.sub (l := qn) (h := qn) hkq (Nat.le_refl _)
                rw [List.take_of_length_le (by rw [List.length_drop, Hqn.out]; exact Nat.le_refl _)] at hsub2
                have Hsub2 := Lib.hid hsub2
                have hlens : ws ++ (Q.take qn ++ Q.drop qn) = framesOf (ls.drop j) := by rw [List.take_append_drop]; exact HE.out
                obtain ⟨jj, hjj, wq, hfeed, hrest, hpart⟩ := feedB_frames (fun b hb => by have := Hml.out b (List.mem_of_mem_drop hb); omega) hlens
                have hf := feed21 HF.out hsub (by have := Hqb.out; omega) (by have := Hqb.out; have := Hqn.out; omega)
                rw [hfeed] at hf
                obtain ⟨L2, hL2⟩ : ∃ l, (ls.drop j).take jj = l := ⟨_, rfl⟩
                rw [hL2] at hf
                have Hjj := Lib.hid (show L2.length = jj ∧ j + jj ≤ n0 by rw [← hL2, List.length_take]; have := Hdl.out; omega)
                have HL2t := Lib.hid (show ls.take (j + jj) = ls.take j ++ L2 by rw [← hL2, List.take_add])
                have HE2 := Lib.hid (show wq ++ Q.drop qn = framesOf (ls.drop (j + jj)) by rw [hrest, List.drop_drop])
                have HP2 := Lib.hid hpart
                have H21 := Lib.hid (show Calls Tryd.prog 21 #[.pointer (some ⟨rb, 0, none⟩), .slice aA qn ac] wr (fun e w' => (∃ ov, e = .returned (.tuple #[ov, .int .i64 0]) ∧ OwnL w' wr.heap.size ov L2) ∧ (∃ kb', (∀ b, kb' = some b → wr.heap.size ≤ b ∧ b < w'.heap.size) ∧ FdX w' rb kb' wq false) ∧ Keeps (· = rb) wr w') from hf)
                have Hqk := Lib.hid (show qn - qn = (Q.drop qn).length by rw [List.length_drop, Hqn.out])
                have hji : (j : Int) ≤ 20 := by omega
                clear hsub hsub2 hlens hfeed hrest hpart hf hL2 hjj
                go_wp2_with (first
                  | ((with_reducible refine at_dst (N := 81) rfl ?_); go_must (refine ev_sub_h (h := qn) rfl rfl byteT38 rfl rfl hkac ?_; rw [subA_nil]); (try simp only [PU]))
                  | (go_at_call 21; go_must (refine H21.out.mono ?_; rintro e w6 ⟨⟨ov, rfl, hol⟩, ⟨kb2, hkb2, hfd⟩, hk6⟩; obtain ⟨oA, oc, hov, -⟩ := hol.slice; rw [Hjj.out.1] at hov; subst hov)
                     have HL6 := Lib.hid hol
                     have Hkb2 := Lib.hid hkb2
                     have HF6 := Lib.hid hfd
                     obtain ⟨fA, fn, fc, hfb, -⟩ := HF.out
                     have HG6 := Lib.hid (HG.out.other hk6 hfb (fun b e => (HS.out b e).2.2))
                     have HB6 := Lib.hid (Hsub2.out.keep (X' := fun b => some b = kA) hk6 (fun b _ hb e => (HkA.out b hb.symm).2 e) (fun _ _ h => h))
                     have HK6 := Lib.hid (show Keeps Nob w w6 from HK.out.trans hk6 (fun i hi e => by have := Hrb.out.1; omega))
                     have Hs6 := Lib.hid hk6.size
                     have Hrl := Lib.hid (blk_lt hfb)
                     clear hol hkb2 hfd hfb hk6
                     (try simp only [PU]))
                  | ((with_reducible refine at_dst (N := 89) rfl ?_)
                     obtain ⟨xs, hrow, hp⟩ := HG6.out
                     obtain ⟨ys, hrow2, hp2⟩ := HL6.out
                     have Hp := Lib.hid hp
                     have Hrow := Lib.hid hrow
                     have Hp2 := Lib.hid hp2
                     have Hrow2 := Lib.hid hrow2
                     rw [Hjl.out] at hrow
                     rw [Hjj.out.1] at hrow2
                     have Hrn := Lib.hid hrow
                     have Hrn2 := Lib.hid hrow2
                     clear hp hrow hp2 hrow2
                     go_must (refine ev_append rfl rfl Tryd.underlying43 info38b rfl (by decide) (base := w.heap.size) rfl Hrn.out rfl (news := ys) (Hrn2.out.1) (row_news Hrn2.out) (row_one Hrn2.out Hjj.out.1 Hp2.out) (by have := Hjj.out.2; omega) (by decide) HK6.out.size ?_; intro v7 w7 hown7 hk7 hr7 hf7)
                     have Hpush := Lib.hid (OwnL.appends Hrow.out Hp.out Hrow2.out Hp2.out HK.out.size (fun b e => (HG.out.lt b e).2) (by rw [Hjl.out, Hjj.out.1]; exact hown7) hk7 hr7)
                     have hpush := Hpush.out
                     rw [← HL2t.out] at hpush
                     have hjt : (ls.take (j + jj)).length = j + jj := by rw [List.length_take, ← HL.out]; exact Nat.min_eq_left Hjj.out.2
                     obtain ⟨hA, hcc, hv7, -⟩ := hpush.slice
                     rw [hjt] at hv7
                     subst hv7
                     have HG7 := Lib.hid hpush
                     have Hk7 := Lib.hid (show Keeps (fun b => some b = (Value.slice gA j gc).ownBlock) w6 w7 from hk7)
                     have Hr7 := Lib.hid (show (Value.slice hA (j + jj) hcc).ownBlock = (Value.slice gA j gc).ownBlock ∨ ∃ b, (Value.slice hA (j + jj) hcc).ownBlock = some b ∧ w6.heap.size ≤ b from hr7)
                     clear hown7 hk7 hr7 hf7 hpush hjt
                     (try simp only [PU]))
                  | ((with_reducible refine at_dst (N := 92) rfl ?_); go_must (refine ev_sub_l (l := qn) rfl rfl byteT38 rfl rfl hkq ?_); (try simp only [PU]))
                )
                go_roundg ((cn - (i + 1)) + (qn - qn))
                case measure => have := Hprog.out.1; omega
                case rel => exact ⟨subA aA qn ac, qn - qn, ac - qn, Q.drop qn, i + 1, j + jj, hA, hcc, wq, kb2, (by first | rfl | simp), by rfl, by first | rfl | (congr 1; omega), by omega, by omega, Hprog.out.2, Hjj.out.2, Hqk,
                    Lib.hid (HB6.out.keep (X' := fun b => some b = kA) Hk7.out (fun b _ hb e => (HS.out b e.symm).1 hb.symm) (fun _ _ h => h)),
                    Lib.hid (HF6.out.keep Hk7.out (fun e => (HS.out rb e.symm).2.2 rfl) (fun b hb e => by have h1 := (Hkb2.out b hb.symm).1; have h2 := (HG.out.lt b e.symm).2; omega)),
                    HG7, HE2, HP2,
                    Lib.hid (fun b e => by
                      rcases Hr7.out with h | ⟨b', h, hb'⟩
                      · have e2 : (Value.slice gA j gc).ownBlock = some b := by rw [← h]; exact e
                        refine ⟨(HS.out b e2).1, fun e3 => ?_, (HS.out b e2).2.2⟩
                        have h1 := (Hkb2.out b e3).1
                        have h2 := (HG.out.lt b e2).2
                        omega
                      · rw [h] at e
                        injection e with e
                        refine ⟨fun e3 => ?_, fun e3 => ?_, fun e3 => ?_⟩
                        · have h1 := Hw2.out b e3; have h2 := Hw2r.out; have h3 := Hs6.out; omega
                        · have h1 := (Hkb2.out b e3).2; omega
                        · have h1 := Hrl.out; have h2 := Hs6.out; omega),
                    Lib.hid (Nat.le_trans Hw2r.out (Nat.le_trans Hs6.out Hk7.out.size)),
                    Lib.hid (HK6.out.trans Hk7.out (fun i hi e => by have := (HG.out.lt i e.symm).1; omega))⟩
end Go.Proofs.WV

/-
  How the statements' values lie in memory, out of their readings; how large they are. No condition.
-/
namespace Go.Proofs.WV
open Go.RowKit Go.Proofs.KL Go.Proofs.WM Go.ChangeShapes Go.Proofs.YtcmmnbipaemgiaaDoor
set_option maxRecDepth 100000
set_option linter.unusedVariables false

theorem spot_none {w : World} {a : Addr} {v : Value} (h : w.cell? a = some v) : ∃ b o, a = ⟨b, o, none⟩ := by
  obtain ⟨b, o, s⟩ := a
  cases s with
  | none => exact ⟨b, o, rfl⟩
  | some x => unfold World.cell? at h; simp only [Option.isSome_some, if_true] at h; split at h <;> cases h
theorem add_at (b o i : Nat) : (⟨b, o, none⟩ : Addr).add i = ⟨b, o + i, none⟩ := by
  unfold Addr.add
  split
  · rename_i h; subst h; rfl
  · rfl
theorem one_of {l : List Value} {i : Nat} {v : Value} (h : l[i]? = some v) : (l.drop i).take 1 = [v] := by
  obtain ⟨hi, hv⟩ := List.getElem?_eq_some_iff.1 h
  rw [List.drop_eq_getElem_cons hi, hv]; rfl
theorem list_of {α : Type} [Inhabited α] {n : Nat} {p : Nat → α → Prop} (h : ∀ i, i < n → ∃ a, p i a) : ∃ l : List α, l.length = n ∧ ∀ i, i < n → p i (l.getD i default) := by
  induction n with
  | zero => exact ⟨[], rfl, fun i hi => absurd hi (by omega)⟩
  | succ n ih =>
    obtain ⟨l, hl, hp⟩ := ih (fun i hi => h i (by omega))
    obtain ⟨a, ha⟩ := h n (by omega)
    refine ⟨l ++ [a], by simp [hl], fun i hi => ?_⟩
    rw [List.getD_eq_getElem?_getD, List.getElem?_append]
    by_cases e : i < n
    · rw [if_pos (by omega), ← List.getD_eq_getElem?_getD]; exact hp i e
    · obtain rfl : i = n := by omega
      rw [if_neg (by omega), hl]; simpa using ha
theorem cells9 : Tryd.prog.cellsOf 9 = 1 := by kernel_rfl
theorem cells3 : Tryd.prog.cellsOf 3 = 1 := by kernel_rfl
theorem cells4 : Tryd.prog.cellsOf 4 = 1 := by kernel_rfl
theorem cells2 : Tryd.prog.cellsOf 2 = 1 := by kernel_rfl
theorem cells22 : Tryd.prog.cellsOf 22 = 1 := by kernel_rfl
theorem cells23 : Tryd.prog.cellsOf 23 = 1 := by kernel_rfl
theorem cells25 : Tryd.prog.cellsOf 25 = 6 := by kernel_rfl
theorem bulk_one {H : Type} (d : DataW H) : 1 ≤ Rows.uptoBulk d := by
  cases d with
  | lit l => cases l <;> simp [Rows.uptoBulk]
  | nil => simp [Rows.uptoBulk]
  | ptr d => simp [Rows.uptoBulk]
  | slice elems spare => simp [Rows.uptoBulk]
  | agg parts => simp [Rows.uptoBulk]
  | iface t d => simp [Rows.uptoBulk]
  | map entries => simp [Rows.uptoBulk]
  | held h => simp [Rows.uptoBulk]
theorem bulk_string {H : Type} (s : ByteArray) : Rows.uptoBulk (DataW.lit (H := H) (.string s.data.toList)) = s.size + 1 := by simp [Rows.uptoBulk]
section
variable {H : Type} {enc : TypeId × Value → H} {W : World} {base : Nat} {sp : Nat → Bool} {held : Bool}
/-- A sum over a list of the elements' measures, each bounded by its datum's bulk. -/
theorem bulk_sum {H : Type} {α : Type} (f : α → Nat) : ∀ (l : List α) (es : List (DataW H × List MemPlace)), l.length = es.length → (∀ i, i < l.length → ∀ a x, l[i]? = some a → es[i]? = some x → f a ≤ Rows.uptoBulk x.1) → (l.map f).sum ≤ Rows.uptoBulkAll (es.map (·.1))
  | [], [], _, _ => by simp [Rows.uptoBulkAll]
  | a :: l, x :: es, hl, h => by
    have h0 := h 0 (by simp) a x rfl rfl
    have h1 := bulk_sum f l es (by simpa using hl) (fun i hi a' x' ha hx => h (i + 1) (by simpa using hi) a' x' (by simpa using ha) (by simpa using hx))
    simp only [List.map_cons, List.sum_cons, Rows.uptoBulkAll]
    omega
  | [], _ :: _, hl, _ => by simp at hl
  | _ :: _, [], hl, _ => by simp at hl
theorem strs_of {fuel : Nat} {v : Value} {x : DataW H × List MemPlace} (h : DataW.trod enc Tryd.prog W base sp held fuel 22 [v] = some x) : ∃ ks, StrsX W (fun _ => True) v ks ∧ ks.length + (ks.map ByteArray.size).sum + 1 ≤ Rows.uptoBulk x.1 := by
  rcases DataW.trod_slice Tryd.underlying22 h with ⟨hc, hx⟩ | ⟨a, len, cap, elems, rest, n, _, hc, hx, _, hl, _, hel, hget, _, _⟩
  · injection hc with hc _
    subst hc
    exact ⟨[], strs_nil _ _, by simpa using bulk_one x.1⟩
  · injection hc with hc _
    subst hc
    have key : ∀ i, i < len → ∃ s : ByteArray, (∃ y, elems[i]? = some y ∧ y.1 = .lit (.string s.data.toList)) ∧ ∃ b o, a = ⟨b, o, none⟩ ∧ W.cell? ⟨b, o + i, none⟩ = some (.string s) := by
      intro i hi
      have hg := hget i hi
      rw [List.getElem?_eq_getElem (by omega), cells9, Nat.mul_one] at hg
      obtain ⟨cs, hcs, hst⟩ := Option.bind_eq_some_iff.1 hg
      obtain ⟨_, hlen, hcell⟩ := World.cells?_some hcs
      obtain ⟨s, rfl, hy, _⟩ := DataW.trod_string Tryd.underlying9 hst
      have e0 := hcell 0 (by omega)
      have hadd : (a.add i).add 0 = a.add i := by simp [Addr.add]
      rw [hadd] at e0
      have hsp : ∃ b o, a = ⟨b, o, none⟩ := by
        have hg0 := hget 0 (by omega)
        rw [List.getElem?_eq_getElem (by omega), cells9, Nat.mul_one] at hg0
        obtain ⟨cs0, hcs0, _⟩ := Option.bind_eq_some_iff.1 hg0
        obtain ⟨_, hlen0, hcell0⟩ := World.cells?_some hcs0
        have := hcell0 0 (by omega)
        rw [List.getElem?_eq_getElem (by omega), show (a.add 0).add 0 = a by simp [Addr.add]] at this
        exact spot_none this
      obtain ⟨b, o, rfl⟩ := hsp
      rw [add_at] at e0
      exact ⟨s, ⟨_, List.getElem?_eq_getElem (by omega), by rw [hy]⟩, b, o, rfl, e0⟩
    obtain ⟨ks, hkl, hp⟩ := list_of (α := ByteArray) key
    refine ⟨ks, ⟨some a, cap, by rw [hkl], by omega, fun i hi => ?_⟩, ?_⟩
    · obtain ⟨_, b, o, rfl, hc⟩ := hp i (by omega)
      exact ⟨b, o, rfl, trivial, hc⟩
    · have hs := bulk_sum (fun s : ByteArray => s.size + 1) ks elems (by omega) (fun i hi s y hs hy => by
        obtain ⟨⟨y', hy', hd⟩, _⟩ := hp i (by omega)
        rw [hy] at hy'
        injection hy' with hy'
        subst hy'
        have e : ks.getD i default = s := by rw [List.getD_eq_getElem?_getD, hs]; rfl
        rw [hd, e, bulk_string]
        exact Nat.le_refl _)
      have e2 : (ks.map fun s : ByteArray => s.size + 1).sum = (ks.map ByteArray.size).sum + ks.length := by
        clear hp hkl hs
        induction ks with
        | nil => rfl
        | cons k ks ih => simp only [List.map_cons, List.sum_cons, List.length_cons, ih]; omega
      rw [hx]
      simp only [Rows.uptoBulk]
      omega
theorem sizeL_sum : ∀ vs : List J, sizeL vs = (vs.map sizeJ).sum
  | [] => rfl
  | v :: vs => by unfold sizeL; rw [sizeL_sum vs]; rfl
/-- A value, out of its reading. -/
theorem json_of : ∀ (fuel : Nat) {cs : List Value} {x : DataW H × List MemPlace}, DataW.trod enc Tryd.prog W base sp held fuel 25 cs = some x → ∃ (v0 v1 v2 v3 v4 v5 : Value) (j : J), cs = [v0, v1, v2, v3, v4, v5] ∧ JX W (fun _ => True) (.agg #[v0, v1, v2, v3, v4, v5]) j ∧ sizeJ j ≤ Rows.uptoBulk x.1 := by
  intro fuel
  induction fuel using Nat.strongRecOn with
  | _ fuel ih =>
    intro cs x h
    obtain ⟨xs, n, hfu, hx, hcl, hxl, hf⟩ := DataW.trod_struct Tryd.underlying25 h
    rw [cells25] at hcl
    have f0 : DataW.trod enc Tryd.prog W base sp held n 3 ((cs.drop 0).take (Tryd.prog.cellsOf 3)) = xs[0]? := hf 0 _ rfl
    have f1 : DataW.trod enc Tryd.prog W base sp held n 4 ((cs.drop 1).take (Tryd.prog.cellsOf 4)) = xs[1]? := hf 1 _ rfl
    have f2 : DataW.trod enc Tryd.prog W base sp held n 2 ((cs.drop 2).take (Tryd.prog.cellsOf 2)) = xs[2]? := hf 2 _ rfl
    have f3 : DataW.trod enc Tryd.prog W base sp held n 9 ((cs.drop 3).take (Tryd.prog.cellsOf 9)) = xs[3]? := hf 3 _ rfl
    have f4 : DataW.trod enc Tryd.prog W base sp held n 22 ((cs.drop 4).take (Tryd.prog.cellsOf 22)) = xs[4]? := hf 4 _ rfl
    have f5 : DataW.trod enc Tryd.prog W base sp held n 23 ((cs.drop 5).take (Tryd.prog.cellsOf 23)) = xs[5]? := hf 5 _ rfl
    have hxs : xs.length = 6 := hxl
    obtain ⟨v0, v1, v2, v3, v4, v5, rfl⟩ : ∃ v0 v1 v2 v3 v4 v5, cs = [v0, v1, v2, v3, v4, v5] := by
      match cs, hcl with
      | [v0, v1, v2, v3, v4, v5], _ => exact ⟨v0, v1, v2, v3, v4, v5, rfl⟩
    obtain ⟨x0, x1, x2, x3, x4, x5, rfl⟩ : ∃ x0 x1 x2 x3 x4 x5, xs = [x0, x1, x2, x3, x4, x5] := by
      match xs, hxs with
      | [x0, x1, x2, x3, x4, x5], _ => exact ⟨x0, x1, x2, x3, x4, x5, rfl⟩
    rw [cells3] at f0
    rw [cells4] at f1
    rw [cells2] at f2
    rw [cells9] at f3
    rw [cells22] at f4
    rw [cells23] at f5
    obtain ⟨k, hk, hx0, _⟩ := DataW.trod_int Tryd.underlying3 (show DataW.trod enc Tryd.prog W base sp held n 3 [v0] = some x0 from f0)
    obtain ⟨b, hb, hx1⟩ := DataW.trod_bool Tryd.underlying4 (show DataW.trod enc Tryd.prog W base sp held n 4 [v1] = some x1 from f1)
    obtain ⟨m, hm, hx2, _⟩ := DataW.trod_int Tryd.underlying2 (show DataW.trod enc Tryd.prog W base sp held n 2 [v2] = some x2 from f2)
    obtain ⟨t, ht, hx3, _⟩ := DataW.trod_string Tryd.underlying9 (show DataW.trod enc Tryd.prog W base sp held n 9 [v3] = some x3 from f3)
    obtain ⟨ks, hks, hkb⟩ := strs_of (show DataW.trod enc Tryd.prog W base sp held n 22 [v4] = some x4 from f4)
    injection hk with hk _
    injection hb with hb _
    injection hm with hm _
    injection ht with ht _
    subst hk hb hm ht
    have hvs : ∃ vs, JsX W (fun _ => True) v5 vs ∧ sizeL vs + 1 ≤ Rows.uptoBulk x5.1 := by
      rcases DataW.trod_slice Tryd.underlying23 (show DataW.trod enc Tryd.prog W base sp held n 23 [v5] = some x5 from f5) with ⟨hc, hx⟩ | ⟨a, len, cap, elems, rest, n', hn', hc, hx5, _, hl, _, hel, hget, _, _⟩
      · injection hc with hc _
        subst hc
        exact ⟨[], ⟨none, 0, fun _ _ => .nilIface, rfl, Nat.le_refl _, fun i hi => absurd hi (Nat.not_lt_zero _), fun i hi => absurd hi (Nat.not_lt_zero _)⟩, by simpa [sizeL] using bulk_one x5.1⟩
      · injection hc with hc _
        subst hc
        have hsp : 0 < len → ∃ b o, a = ⟨b, o, none⟩ := by
          intro h0
          have hg0 := hget 0 h0
          rw [List.getElem?_eq_getElem (by omega), cells25] at hg0
          obtain ⟨cs0, hcs0, _⟩ := Option.bind_eq_some_iff.1 hg0
          obtain ⟨_, hlen0, hcell0⟩ := World.cells?_some hcs0
          have := hcell0 0 (by omega)
          rw [List.getElem?_eq_getElem (by omega), show (0 * 6 : Nat) = 0 from rfl, show (a.add 0).add 0 = a by simp [Addr.add]] at this
          exact spot_none this
        have key : ∀ i, i < len → ∃ j : J, ∃ u : Nat → Value, (∃ y, elems[i]? = some y ∧ sizeJ j ≤ Rows.uptoBulk y.1) ∧ JX W (fun _ => True) (.agg #[u 0, u 1, u 2, u 3, u 4, u 5]) j ∧ ∃ b o, a = ⟨b, o, none⟩ ∧ Six W b (o + i * 6) (u 0) (u 1) (u 2) (u 3) (u 4) (u 5) := by
          intro i hi
          have hg := hget i hi
          rw [List.getElem?_eq_getElem (by omega), cells25] at hg
          obtain ⟨cs, hcs, hst⟩ := Option.bind_eq_some_iff.1 hg
          obtain ⟨_, hlen, hcell⟩ := World.cells?_some hcs
          obtain ⟨w0, w1, w2, w3, w4, w5, j, rfl, hj, hjb⟩ := ih n' (by omega) hst
          obtain ⟨b, o, rfl⟩ := hsp (by omega)
          have e0 := hcell 0 (by decide)
          have e1 := hcell 1 (by decide)
          have e2 := hcell 2 (by decide)
          have e3 := hcell 3 (by decide)
          have e4 := hcell 4 (by decide)
          have e5 := hcell 5 (by decide)
          simp only [add_at] at e0 e1 e2 e3 e4 e5
          exact ⟨j, fun i => [w0, w1, w2, w3, w4, w5].getD i .nilIface, ⟨_, List.getElem?_eq_getElem (by omega), hjb⟩, hj, b, o, rfl, ⟨⟨e0, e1, e2⟩, e3, e4, e5⟩⟩
        obtain ⟨vs, hvl, hp⟩ := list_of (α := J) key
        have hchoose : ∀ i : Nat, ∃ u : Nat → Value, i < len → (JX W (fun _ => True) (.agg #[u 0, u 1, u 2, u 3, u 4, u 5]) (vs.getD i default) ∧ ∃ b o, a = ⟨b, o, none⟩ ∧ Six W b (o + i * 6) (u 0) (u 1) (u 2) (u 3) (u 4) (u 5)) := fun i => by
          by_cases hi : i < len
          · obtain ⟨u, _, h1, h2⟩ := hp i hi
            exact ⟨u, fun _ => ⟨h1, h2⟩⟩
          · exact ⟨fun _ => .nilIface, fun h => absurd h hi⟩
        refine ⟨vs, ⟨some a, cap, fun i => (hchoose i).choose, by rw [hvl], by omega, fun i hi => ?_, fun i hi => ((hchoose i).choose_spec (by omega)).1⟩, ?_⟩
        · obtain ⟨b, o, rfl, h6⟩ := ((hchoose i).choose_spec (by omega)).2
          exact ⟨b, o, rfl, trivial, h6⟩
        · have hs := bulk_sum sizeJ vs elems (by omega) (fun i hi j y hj hy => by
            obtain ⟨u, ⟨y', hy', hb⟩, _⟩ := hp i (by omega)
            rw [hy] at hy'
            injection hy' with hy'
            subst hy'
            have e : vs.getD i default = j := by rw [List.getD_eq_getElem?_getD, hj]; rfl
            rw [← e]
            exact hb)
          rw [sizeL_sum, hx5]
          simp only [Rows.uptoBulk]
          omega
    obtain ⟨vs, hvs, hvb⟩ := hvs
    refine ⟨_, _, _, _, _, _, .mk k b m t ks vs, rfl, JX.close hks hvs, ?_⟩
    have h3 : Rows.uptoBulk x3.1 = t.size + 1 := by rw [hx3]; exact bulk_string t
    have h0 := bulk_one x0.1
    have h1 := bulk_one x1.1
    have h2 := bulk_one x2.1
    rw [hx]
    unfold sizeJ
    simp only [Rows.uptoBulk, List.map_cons, List.map_nil, Rows.uptoBulkAll]
    omega
end
end Go.Proofs.WV

/-
  Lists of bytes and cuts, out of their readings; the law WirePieces, by the program, whole. Condition: the standard library's table of powers lies.
-/
namespace Go.Proofs.WV
open Go.RowKit Go.Proofs.KL Go.Proofs.WM Go.ChangeShapes Go.Proofs.YtcmmnbipaemgiaaDoor
set_option maxRecDepth 100000
set_option linter.unusedVariables false

theorem cells59 : Tryd.prog.cellsOf 59 = 1 := by kernel_rfl
theorem cells38 : Tryd.prog.cellsOf 38 = 1 := by kernel_rfl
theorem bytesOf5 : Tryd.prog.bytesOf 5 = 1 := by kernel_rfl
theorem bytesOf59 : Tryd.prog.bytesOf 59 = 2 := by kernel_rfl
theorem bytesOf38 : Tryd.prog.bytesOf 38 = 24 := by kernel_rfl
theorem byteV_of {z : Int} (h : (Lit.int .u8 z).wf = true) : byteV (UInt8.ofNat z.toNat) = .int .u8 z := by
  have h2 : (decide (IntKind.min .u8 ≤ z) && decide (z ≤ IntKind.max .u8)) = true := h
  rw [Bool.and_eq_true, decide_eq_true_eq, decide_eq_true_eq, show IntKind.min .u8 = 0 from rfl, show IntKind.max .u8 = 255 from rfl] at h2
  unfold byteV
  rw [UInt8.toNat_ofNat', Nat.mod_eq_of_lt (by omega)]
  congr 1
  omega
section
variable {H : Type} {enc : TypeId × Value → H} {W : World} {base : Nat} {sp : Nat → Bool} {held : Bool}
theorem bytes_of {fuel : Nat} {v : Value} {x : DataW H × List MemPlace} (h : DataW.trod enc Tryd.prog W base sp held fuel 38 [v] = some x) (hw : ∀ n ∈ x.1.weights Tryd.prog 38, n ≤ reachBytes) :
    ∃ A n c bs, v = .slice A n c ∧ BytesX W (fun _ => True) (.slice A n c) bs ∧ n ≤ 140737488355328 := by
  rcases open_ints Tryd.underlying38 Tryd.underlying5 cells5 h with ⟨hc, hx⟩ | ⟨a, len, cap, zs, hc, _, hl, _, hzl, hx, hcell, hwf⟩
  · injection hc with hc _
    subst hc
    exact ⟨none, 0, 0, [], rfl, BytesX.nil _ _, Nat.zero_le _⟩
  · injection hc with hc _
    subst hc
    have hlz : len ≤ zs.length := by rw [hzl]; split <;> omega
    have hn : len ≤ 140737488355328 := by
      rw [hx] at hw
      have := hw ((zs.take len).length + (zs.drop len).length) (by simp [DataW.weights, Tryd.underlying38, bytesOf5, lits])
      have h2 : reachBytes ≤ 140737488355328 := by decide
      rw [List.length_take, List.length_drop] at this
      omega
    refine ⟨some a, len, cap, (zs.take len).map (fun z => UInt8.ofNat z.toNat), rfl, ⟨some a, cap, by rw [List.length_map, List.length_take, Nat.min_eq_left hlz], by rw [List.length_map, List.length_take, Nat.min_eq_left hlz]; exact hl, fun i hi => ?_⟩, hn⟩
    rw [List.length_map, List.length_take, Nat.min_eq_left hlz] at hi
    have h0 := hcell 0 (by omega)
    rw [show a.add 0 = a by simp [Addr.add]] at h0
    obtain ⟨b, o, rfl⟩ := spot_none h0
    refine ⟨b, o, rfl, trivial, ?_⟩
    have hi2 := hcell i (by omega)
    rw [add_at] at hi2
    rw [hi2]
    have e : ((zs.take len).map (fun z => UInt8.ofNat z.toNat)).getD i 0 = UInt8.ofNat (zs.getD i 0).toNat := by
      rw [List.getD_eq_getElem?_getD, List.getElem?_map, List.getElem?_take, if_pos hi, List.getElem?_eq_getElem (by omega), List.getD_eq_getElem?_getD, List.getElem?_eq_getElem (by omega)]
      rfl
    rw [e, byteV_of (hwf _ (by rw [List.getD_eq_getElem?_getD, List.getElem?_eq_getElem (by omega)]; exact List.getElem_mem _))]
theorem weightsAll_mem {P : Program} {e : TypeId} : ∀ {ds : List (DataW H)} {d : DataW H} {n : Nat}, d ∈ ds → n ∈ d.weights P e → n ∈ DataW.weightsAll P e ds
  | d0 :: ds, d, n, hd, hn => by
    simp only [DataW.weightsAll, List.mem_append]
    rcases List.mem_cons.1 hd with rfl | hd
    · exact .inl hn
    · exact .inr (weightsAll_mem hd hn)
theorem lists_of {fuel : Nat} {v : Value} {x : DataW H × List MemPlace} (h : DataW.trod enc Tryd.prog W base sp held fuel 43 [v] = some x) (hw : ∀ n ∈ x.1.weights Tryd.prog 43, n ≤ reachBytes) :
    ∃ A n c ls, v = .slice A n c ∧ LsX W (fun _ => True) (.slice A n c) ls ∧ n ≤ 140737488355328 := by
  have h47 : reachBytes ≤ 140737488355328 := by decide
  rcases DataW.trod_slice Tryd.underlying43 h with ⟨hc, hx⟩ | ⟨a, len, cap, elems, rest, n, _, hc, hx, _, hl, _, hel, hget, _, _⟩
  · injection hc with hc _
    subst hc
    exact ⟨none, 0, 0, [], rfl, ⟨none, 0, rfl, Nat.le_refl _, fun i hi => absurd hi (Nat.not_lt_zero _)⟩, Nat.zero_le _⟩
  · injection hc with hc _
    subst hc
    rw [hx] at hw
    have hn : len ≤ 140737488355328 := by
      have := hw ((elems.length + rest.length) * 24) (by simp [DataW.weights, Tryd.underlying43, bytesOf38])
      omega
    have key : ∀ i, i < len → ∃ bs : Bs, ∃ b o, a = ⟨b, o, none⟩ ∧ ∃ B m d, W.cell? ⟨b, o + i, none⟩ = some (.slice B m d) ∧ BytesX W (fun _ => True) (.slice B m d) bs ∧ m ≤ 140737488355328 := by
      intro i hi
      have hg := hget i hi
      rw [List.getElem?_eq_getElem (by omega), cells38, Nat.mul_one] at hg
      obtain ⟨cs, hcs, hst⟩ := Option.bind_eq_some_iff.1 hg
      obtain ⟨_, hlen, hcell⟩ := World.cells?_some hcs
      obtain ⟨u, rfl⟩ : ∃ u, cs = [u] := by
        match cs, hlen with
        | [u], _ => exact ⟨u, rfl⟩
      have e0 := hcell 0 (by omega)
      have hadd : (a.add i).add 0 = a.add i := by simp [Addr.add]
      rw [hadd] at e0
      have hsp : ∃ b o, a = ⟨b, o, none⟩ := by
        have hg0 := hget 0 (by omega)
        rw [List.getElem?_eq_getElem (by omega), cells38, Nat.mul_one] at hg0
        obtain ⟨cs0, hcs0, _⟩ := Option.bind_eq_some_iff.1 hg0
        obtain ⟨_, hlen0, hcell0⟩ := World.cells?_some hcs0
        have := hcell0 0 (by omega)
        rw [List.getElem?_eq_getElem (by omega), show (a.add 0).add 0 = a by simp [Addr.add]] at this
        exact spot_none this
      obtain ⟨b, o, rfl⟩ := hsp
      rw [add_at] at e0
      obtain ⟨B, m, d, bs, hu, hbx, hm⟩ := bytes_of hst (fun n hn => hw n (by
        simp only [DataW.weights, Tryd.underlying43, List.mem_cons, List.mem_append]
        exact .inr (.inl (weightsAll_mem (List.mem_map.2 ⟨elems[i], List.getElem_mem _, rfl⟩) hn))))
      refine ⟨bs, b, o, rfl, B, m, d, ?_, hbx, hm⟩
      rw [e0]
      rw [hu]; rfl
    obtain ⟨ls, hll, hp⟩ := list_of (α := Bs) key
    refine ⟨some a, len, cap, ls, rfl, ⟨some a, cap, by rw [hll], by omega, fun i hi => ?_⟩, hn⟩
    obtain ⟨b, o, rfl, B, m, d, hcell, hbx, hm⟩ := hp i (by omega)
    exact ⟨b, o, rfl, trivial, B, m, d, hcell, hbx, hm⟩
theorem cuts_of {fuel : Nat} {v : Value} {x : DataW H × List MemPlace} (h : DataW.trod enc Tryd.prog W base sp held fuel 58 [v] = some x) (hw : ∀ n ∈ x.1.weights Tryd.prog 58, n ≤ reachBytes) :
    ∃ A n c zs, v = .slice A n c ∧ CutsX W (fun _ => True) (.slice A n c) zs := by
  rcases open_ints Tryd.underlying58 Tryd.underlying59 cells59 h with ⟨hc, hx⟩ | ⟨a, len, cap, zs, hc, _, hl, _, hzl, hx, hcell, hwf⟩
  · injection hc with hc _
    subst hc
    exact ⟨none, 0, 0, [], rfl, ⟨none, 0, rfl, Nat.le_refl _, Nat.zero_le _, fun i hi => absurd hi (Nat.not_lt_zero _)⟩⟩
  · injection hc with hc _
    subst hc
    have hlz : len ≤ zs.length := by rw [hzl]; split <;> omega
    have hn : len ≤ 140737488355328 := by
      rw [hx] at hw
      have := hw (((zs.take len).length + (zs.drop len).length) * 2) (by simp [DataW.weights, Tryd.underlying58, bytesOf59, lits])
      have h2 : reachBytes ≤ 140737488355328 := by decide
      rw [List.length_take, List.length_drop] at this
      omega
    have hlt : (zs.take len).length = len := by rw [List.length_take, Nat.min_eq_left hlz]
    refine ⟨some a, len, cap, zs.take len, rfl, ⟨some a, cap, by rw [hlt], by rw [hlt]; exact hl, by rw [hlt]; exact hn, fun i hi => ?_⟩⟩
    rw [hlt] at hi
    have h0 := hcell 0 (by omega)
    rw [show a.add 0 = a by simp [Addr.add]] at h0
    obtain ⟨b, o, rfl⟩ := spot_none h0
    have e : (zs.take len).getD i 0 = zs.getD i 0 := by
      rw [List.getD_eq_getElem?_getD, List.getElem?_take, if_pos hi, ← List.getD_eq_getElem?_getD]
    have hi2 := hcell i (by omega)
    rw [add_at] at hi2
    have h3 := hwf (zs.getD i 0) (by rw [List.getD_eq_getElem?_getD, List.getElem?_eq_getElem (by omega)]; exact List.getElem_mem _)
    have h4 : (decide (IntKind.min .u16 ≤ zs.getD i 0) && decide (zs.getD i 0 ≤ IntKind.max .u16)) = true := h3
    rw [Bool.and_eq_true, decide_eq_true_eq, decide_eq_true_eq, show IntKind.min .u16 = 0 from rfl, show IntKind.max .u16 = 65535 from rfl] at h4
    exact ⟨b, o, rfl, trivial, by rw [hi2, e], by rw [e]; exact h4.1, by rw [e]; exact h4.2⟩
end
theorem WirePieces_any {w : World} (ht : Tab w w.heap.size) {A0 : Option Addr} {n0 c0 : Nat} {ls : List Bs} (hl : LsX w (fun _ => True) (.slice A0 n0 c0) ls) (hn : n0 ≤ 140737488355328) {C0 : Option Addr} {cn cc : Nat} {zs : List Int} (hz : CutsX w (fun _ => True) (.slice C0 cn cc) zs) : Calls Tryd.prog 9 #[.slice A0 n0 c0, .slice C0 cn cc] w fun e w' => e = .returned (.bool true) ∧ Keeps Nob w w' := by
  by_cases h20 : n0 ≤ 20
  · by_cases h3 : lens ls ≤ 3000
    · exact Pieces_ok ht hl h20 h3 hz
    · exact Pieces_big ht hl h20 (by omega) _
  · exact Pieces_many ht hl hn (by omega) _
end Go.Proofs.WV
