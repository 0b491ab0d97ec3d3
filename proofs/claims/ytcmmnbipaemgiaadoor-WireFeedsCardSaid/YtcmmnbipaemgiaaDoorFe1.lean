/-
  Frame, by the program, in memory. Condition: at most a million bytes; the standard library's table of powers lies.
-/
import Derived.Test.YtcmmnbipaemgiaaDoorAl0
import Derived.ChangeSlices
import Derived.ChangeArms
import Derived.Carry
import Derived.SizedLaws
namespace Go.Proofs.WV
open Go.RowKit Go.Proofs.KL Go.Proofs.WM
set_option maxRecDepth 100000
set_option linter.unusedSimpArgs false
set_option linter.unusedVariables false

theorem itoa56 {w : World} {base : Nat} (h : Tab w base) (n : Nat) (hn : n ≤ 1000000) : Calls Tryd.prog 56 #[.int .i64 n] w fun e w' => e = .returned (.string (mkB (Lib.itoa n))) ∧ Keeps Nob w w' := by
  obtain ⟨g, _, _, ht⟩ := h
  refine (Tryd.strconv_Itoa (n : Int) (by omega) (by omega) w ht).mono ?_
  rintro e w' ⟨rfl, k, os, rfl⟩
  exact ⟨rfl, grew _ _ _⟩
set_option maxHeartbeats 4000000 in
theorem frame25 {W : World} {X : Nat → Prop} {B : Option Addr} {m d : Nat} {bs : Bs} (ht : Tab W W.heap.size) (hb : BytesX W X (.slice B m d) bs) (hm : m ≤ 1000000) :
    Calls Tryd.prog 25 #[.slice B m d] W fun e w' => (∃ v, e = .returned (.tuple #[v, .int .i64 0]) ∧ OwnB w' W.heap.size v (frameOf bs)) ∧ Keeps Nob W w' := by
  have hmi : ¬ (1000000 : Int) < (m : Int) := by omega
  have hlen := hb.len.1
  have h56 := fun W => itoa56 (w := W) (base := W.heap.size) (n := m)
  obtain ⟨Z, hZ⟩ : ∃ Z, mkB (Lib.itoa m) = Z := ⟨_, rfl⟩
  have hZs : Z.size ≤ 20 := by
    rw [← hZ]
    have := itoa_len (n := (m : Int)) (by omega)
    show (Lib.itoa m).length ≤ 20
    omega
  have hZi : (Z.size : Int) ≤ 20 := by omega
  have hs1 : (({ data := #[76, 101, 110, 103, 116, 104, 58, 32] } : ByteArray) ++ Z).size = 8 + Z.size := by rw [ByteArray.size_append]; rfl
  have Hst := Lib.hid (show bl ((({ data := #[76, 101, 110, 103, 116, 104, 58, 32] } : ByteArray) ++ Z) ++ { data := #[13, 10, 13, 10] }) ++ bs = frameOf bs by
    unfold frameOf
    rw [← hlen, ← hZ]
    simp [bl, mkB, beginB, neckB, ByteArray.data_append])
  have Hst2 := Lib.hid (show ((({ data := #[76, 101, 110, 103, 116, 104, 58, 32] } : ByteArray) ++ Z) ++ { data := #[13, 10, 13, 10] }).size ≤ 40 by
    rw [ByteArray.size_append, hs1]
    show 8 + Z.size + 4 ≤ 40
    omega)
  have H56 := Lib.hid (h56 W ht hm)
  rw [hZ] at H56
  have HB := Lib.hid hb
  have Hm := Lib.hid hm
  clear h56 hZ hlen hb hm ht
  go_enter Tryd.func25, Tryd.ntmps25
  go_wp2_with (first
    | (go_at_call 56; go_must (refine H56.out.mono ?_; rintro e w1 ⟨rfl, hk1⟩)
       have HK := Lib.hid hk1
       clear hk1
       (try simp only [PU]))
    | ((with_reducible refine at_dst (N := 12) rfl ?_)
       generalize hst : ((({ data := #[76, 101, 110, 103, 116, 104, 58, 32] } : ByteArray) ++ Z) ++ { data := #[13, 10, 13, 10] }) = st at *
       go_must (refine ev_conv_sb rfl rfl Tryd.underlying9 byteT38 Tryd.underlying5 rfl (base := W.heap.size) HK.out.size (by have := Hst2.out; unfold maxLen; omega) ?_; intro v' wc ho hk2 hnew; obtain ⟨oA, oc, hv'⟩ := ho.slice; subst hv')
       have HO := Lib.hid ho
       have HK := Lib.hid (HK.out.trans hk2 (fun _ _ h => h))
       clear ho hk2 hnew hst
       (try simp only [PU]))
    | ((with_reducible refine at_dst (N := 14) rfl ?_); go_must (refine ev_slice (cs := #[.slice oA (bl st).length oc, .slice B m d]) (t := 38) (n := 2) (c := 2) rfl (by first | (go_simp; done) | (go_simp; rfl)) ?_; intro gt w2 hgt hlt hbt hkt)
       have Hbt := Lib.hid hbt
       have HO := Lib.hid (HO.out.keep hkt (fun _ _ => id))
       have HK := Lib.hid (HK.out.trans hkt (fun _ _ h => h))
       clear hbt hkt hgt hlt
       (try simp only [PU]))
    | (go_at_call 51; go_must (refine (concat51 Hbt.out HO.out.bytes (HB.out.keep (X' := X) HK.out (fun _ _ _ => id) (fun _ _ h => h)) (by have := Hst2.out; rw [bl_len]; omega) (by have := Hm.out; omega)).mono ?_; rintro e w3 ⟨⟨v3, rfl, ho3⟩, hk3⟩; obtain ⟨cA, cc, hv3⟩ := ho3.slice; subst hv3)
       have HO3 := Lib.hid ho3
       have HK3 := Lib.hid (HK.out.trans hk3 (fun _ _ h => h))
       clear ho3 hk3
       generalize (bl st ++ bs).length = L3 at *
       (try simp only [PU]))
  )
  go_ret2
  refine ⟨⟨_, rfl, ?_⟩, HK3.out⟩
  rw [← Hst.out]
  exact OwnB.weaken HO3.out HK.out.size
end Go.Proofs.WV

/-
  Lists of bytes in memory; one's own row of them grows by another. No condition.
-/
namespace Go.Proofs.WV
open Go.RowKit Go.Proofs.KL Go.Proofs.WM
set_option linter.unusedVariables false

/-- A slice of slices of bytes. -/
def LsX (W : World) (X : Nat → Prop) (v : Value) (ls : List Bs) : Prop :=
  ∃ A c, v = .slice A ls.length c ∧ ls.length ≤ c ∧ ∀ i, i < ls.length → ∃ b o, A = some ⟨b, o, none⟩ ∧ X b ∧ ∃ B m d, W.cell? ⟨b, o + i, none⟩ = some (.slice B m d) ∧ BytesX W X (.slice B m d) (ls.getD i []) ∧ m ≤ 140737488355328
theorem LsX.keep {M X X' : Nat → Prop} {W W' : World} {v : Value} {ls : List Bs} (h : LsX W X v ls) (hk : Keeps M W W') (hX : ∀ b, b < W.heap.size → X b → ¬ M b) (hX' : ∀ b, b < W.heap.size → X b → X' b) : LsX W' X' v ls := by
  obtain ⟨A, c, e, hc, h⟩ := h
  refine ⟨A, c, e, hc, fun i hi => ?_⟩
  obtain ⟨b, o, e1, hb, B, m, d, hcell, hx, hm⟩ := h i hi
  have hlt := World.block_lt_of_cell? _ _ hcell
  exact ⟨b, o, e1, hX' b hlt hb, B, m, d, hk.cell hcell (hX b hlt hb), hx.keep hk hX hX', hm⟩
/-- A slice of small ints. -/
def CutsX (W : World) (X : Nat → Prop) (v : Value) (zs : List Int) : Prop :=
  ∃ A c, v = .slice A zs.length c ∧ zs.length ≤ c ∧ zs.length ≤ 140737488355328 ∧ ∀ i, i < zs.length → ∃ b o, A = some ⟨b, o, none⟩ ∧ X b ∧ W.cell? ⟨b, o + i, none⟩ = some (.int .u16 (zs.getD i 0)) ∧ 0 ≤ zs.getD i 0 ∧ zs.getD i 0 ≤ 65535
theorem CutsX.keep {M X X' : Nat → Prop} {W W' : World} {v : Value} {zs : List Int} (h : CutsX W X v zs) (hk : Keeps M W W') (hX : ∀ b, b < W.heap.size → X b → ¬ M b) (hX' : ∀ b, b < W.heap.size → X b → X' b) : CutsX W' X' v zs := by
  obtain ⟨A, c, e, hc, hb, h⟩ := h
  refine ⟨A, c, e, hc, hb, fun i hi => ?_⟩
  obtain ⟨b, o, e1, hb, hcell, hr⟩ := h i hi
  have hlt := World.block_lt_of_cell? _ _ hcell
  exact ⟨b, o, e1, hX' b hlt hb, hk.cell hcell (hX b hlt hb), hr⟩
/-- What a row of slices holds, as the appended cells. -/
theorem row_news {W : World} {lo : Nat} {A : Option Addr} {n c : Nat} {xs : List Value} (h : W.ownsRow lo 38 1 (.slice A n c) n xs) : 0 < n → ∃ ad, A = some ad ∧ ∀ j u, xs[j]? = some u → W.cell? (ad.add j) = some u := fun hn => by
  rcases h.2 with ⟨_, h0⟩ | ⟨g, cap, cur, e, hlo, hg, hc, hm, hs, ht⟩
  · omega
  · injection e with e1 e2 e3
    subst e1
    refine ⟨_, rfl, fun j u hj => ?_⟩
    have hl := h.1
    have hj' : j < xs.length := by
      rcases Nat.lt_or_ge j xs.length with h | h
      · exact h
      · rw [List.getElem?_eq_none h] at hj; cases hj
    rw [addr_add0, blk_cell hg j]
    have h1 : (cur.toList.take (n * 1))[j]? = xs[j]? := by rw [ht]
    rw [List.getElem?_take, if_pos (by omega)] at h1
    rw [← Array.getElem?_toList, h1, hj]
theorem row_one {W : World} {lo n : Nat} {v : Value} {xs : List Value} {ls : List Bs} {X : Nat → Prop} (h : W.ownsRow lo 38 1 v n xs) (hn : ls.length = n) (hp : ∀ i, i < ls.length → ∃ A n c, xs.getD i lz = .slice A n c ∧ BytesX W X (.slice A n c) (ls.getD i [])) : ∀ u ∈ xs, u.oneCell' = true := fun u hu => by
  obtain ⟨i, hi⟩ := List.getElem?_of_mem hu
  have hl := h.1
  have hi' : i < xs.length := (List.getElem?_eq_some_iff.1 hi).1
  obtain ⟨A, n', c, e, -⟩ := hp i (by omega)
  rw [List.getD_eq_getElem?_getD, hi] at e
  have e' : u = .slice A n' c := e
  rw [e']
  rfl
/-- Many slices of bytes more. -/
theorem OwnL.appends {W w1 : World} {lo lo2 : Nat} {v v' u : Value} {ls ms : List Bs} {xs ys : List Value} (hr : W.ownsRow lo 38 1 v ls.length xs) (hp : ∀ i, i < ls.length → ∃ A n c, xs.getD i lz = .slice A n c ∧ BytesX W (fun b => lo ≤ b ∧ b < W.heap.size ∧ some b ≠ v.ownBlock) (.slice A n c) (ls.getD i []))
    (hr2 : W.ownsRow lo2 38 1 u ms.length ys) (hp2 : ∀ i, i < ms.length → ∃ A n c, ys.getD i lz = .slice A n c ∧ BytesX W (fun b => lo2 ≤ b ∧ b < W.heap.size ∧ some b ≠ u.ownBlock) (.slice A n c) (ms.getD i [])) (hlo : lo ≤ lo2) (hv : ∀ k, v.ownBlock = some k → k < lo2)
    (hr1 : w1.ownsRow lo 38 1 v' (ls.length + ms.length) (xs ++ ys)) (hk : Keeps (fun k => some k = v.ownBlock) W w1) (hrow : v'.ownBlock = v.ownBlock ∨ ∃ b, v'.ownBlock = some b ∧ W.heap.size ≤ b) : OwnL w1 lo v' (ls ++ ms) := by
  have hxl : xs.length = ls.length := by have := hr.1; omega
  have keep : ∀ {A n c y}, BytesX W (fun b => lo ≤ b ∧ b < W.heap.size ∧ some b ≠ v.ownBlock) (.slice A n c) y → BytesX w1 (fun b => lo ≤ b ∧ b < w1.heap.size ∧ some b ≠ v'.ownBlock) (.slice A n c) y := fun h =>
    h.keep hk (fun b _ hb hm => hb.2.2 hm) (fun b hl hb => ⟨hb.1, Nat.lt_of_lt_of_le hl hk.size, fun e => by
      rcases hrow with e' | ⟨b', e', hb'⟩
      · exact hb.2.2 (by rw [e, e'])
      · rw [e'] at e; injection e with e; omega⟩)
  have turn : ∀ {A n c y}, BytesX W (fun b => lo2 ≤ b ∧ b < W.heap.size ∧ some b ≠ u.ownBlock) (.slice A n c) y → BytesX W (fun b => lo ≤ b ∧ b < W.heap.size ∧ some b ≠ v.ownBlock) (.slice A n c) y := fun h =>
    h.keep (Keeps.refl Nob W) (fun _ _ _ => id) (fun b _ hb => ⟨by omega, hb.2.1, fun e => by have := hv b e.symm; omega⟩)
  refine ⟨xs ++ ys, by rw [List.length_append]; exact hr1, fun i hi => ?_⟩
  rw [List.length_append] at hi
  by_cases hl : i < ls.length
  · obtain ⟨A', n', c', e, hb⟩ := hp i hl
    refine ⟨A', n', c', ?_, ?_⟩
    · rw [List.getD_eq_getElem?_getD, List.getElem?_append_left (by omega), ← List.getD_eq_getElem?_getD]; exact e
    · rw [List.getD_eq_getElem?_getD, List.getElem?_append_left hl, ← List.getD_eq_getElem?_getD]; exact keep hb
  · obtain ⟨A', n', c', e, hb⟩ := hp2 (i - ls.length) (by omega)
    refine ⟨A', n', c', ?_, ?_⟩
    · rw [List.getD_eq_getElem?_getD, List.getElem?_append_right (by omega), hxl, ← List.getD_eq_getElem?_getD]; exact e
    · rw [List.getD_eq_getElem?_getD, List.getElem?_append_right (by omega), ← List.getD_eq_getElem?_getD]; exact keep (turn hb)
theorem framesOf_take {ls : List Bs} {i : Nat} (h : i < ls.length) : framesOf (ls.take (i + 1)) = framesOf (ls.take i) ++ frameOf (ls.getD i []) := by
  rw [List.take_succ_eq_append_getElem h, List.getD_eq_getElem?_getD, List.getElem?_eq_getElem h]
  unfold framesOf
  rw [List.flatMap_append]
  simp only [List.flatMap_cons, List.flatMap_nil, List.append_nil]
  rfl
theorem sumL_take {ls : List Bs} {i : Nat} (h : i < ls.length) : lens (ls.take (i + 1)) = lens (ls.take i) + (ls.getD i []).length := by
  rw [List.take_succ_eq_append_getElem h, List.getD_eq_getElem?_getD, List.getElem?_eq_getElem h, lens_append]
  simp only [lens, List.map_cons, List.map_nil, List.sum_cons, List.sum_nil, Nat.add_zero]
  rfl
theorem len_le_lens : ∀ (ls : List Bs) (b : Bs), b ∈ ls → b.length ≤ lens ls
  | x :: ls, b, h => by
    simp only [lens, List.map_cons, List.sum_cons]
    rcases List.mem_cons.1 h with rfl | h
    · omega
    · have := len_le_lens ls b h
      simp only [lens] at this
      omega
theorem frames_len (ls : List Bs) (hl : ∀ b ∈ ls, b.length ≤ 1000000) : (framesOf ls).length ≤ lens ls + 40 * ls.length := by
  induction ls with
  | nil => simp [framesOf]
  | cons b ls ih =>
    have h1 := ih (fun c hc => hl c (List.mem_cons_of_mem _ hc))
    have hb := hl b List.mem_cons_self
    have h2 := itoa_len (n := (b.length : Int)) (by omega)
    simp only [framesOf, List.flatMap_cons, List.length_append, frameOf, beginB, neckB, List.length_cons, List.length_nil, lens, List.map_cons, List.sum_cons] at h1 h2 ⊢
    omega
end Go.Proofs.WV

/-
  The plain law of layer 30 (wire): blanks outside of strings mean nothing. No program in sight; no condition.
-/
namespace Go.Proofs.WM

/-- Without the blanks that stand outside of strings; 'true': inside of one. -/
def bareB : Bool → Bs → Bs
  | _, [] => []
  | false, c :: r => if isBlank c then bareB false r else if c = 34 then c :: bareB true r else c :: bareB false r
  | true, [c] => [c]
  | true, c :: d :: r => if c = 92 then c :: d :: bareB true r else if c = 34 then c :: bareB false (d :: r) else c :: bareB true (d :: r)
theorem bare_nil (b : Bool) : bareB b [] = [] := by cases b <;> rfl
theorem bare_blank {c : UInt8} (h : isBlank c = true) (r : Bs) : bareB false (c :: r) = bareB false r := by
  show (if isBlank c then _ else _) = _
  rw [if_pos h]
theorem bare_quote (r : Bs) : bareB false (34 :: r) = 34 :: bareB true r := rfl
theorem bare_plain {c : UInt8} (h : isBlank c = false) (h2 : c ≠ 34) (r : Bs) : bareB false (c :: r) = c :: bareB false r := by
  show (if isBlank c then _ else if c = 34 then _ else _) = _
  rw [if_neg (by rw [h]; decide), if_neg h2]
theorem bare_end (r : Bs) : bareB true (34 :: r) = 34 :: bareB false r := by
  cases r with
  | nil => rfl
  | cons d r => rfl
theorem bare_esc (d : UInt8) (r : Bs) : bareB true (92 :: d :: r) = 92 :: d :: bareB true r := rfl
theorem bare_in {c : UInt8} (h : c ≠ 92) (h2 : c ≠ 34) (r : Bs) : bareB true (c :: r) = c :: bareB true r := by
  cases r with
  | nil => rfl
  | cons d r =>
    show (if c = 92 then _ else if c = 34 then _ else _) = _
    rw [if_neg h, if_neg h2]
theorem bare_blanks : ∀ r : Bs, bareB false (blanksB r) = bareB false r
  | [] => rfl
  | c :: r => by
    unfold blanksB
    split
    · rename_i h; rw [bare_blank h]; exact bare_blanks r
    · rfl
theorem blanksB_head : ∀ {r : Bs} {c : UInt8} {q : Bs}, blanksB r = c :: q → isBlank c = false
  | [], c, q, h => by cases h
  | d :: r, c, q, h => by
    unfold blanksB at h
    split at h
    · exact blanksB_head h
    · rename_i hd; injection h with h _; subst h; simpa using hd
theorem bare_cons {r : Bs} {c : UInt8} {q : Bs} (h : blanksB r = c :: q) : ∃ q', bareB false r = c :: q' := by
  rw [← bare_blanks, h]
  by_cases h2 : c = 34
  · subst h2; exact ⟨_, rfl⟩
  · exact ⟨_, bare_plain (blanksB_head h) h2 q⟩
theorem blanks_bare (r : Bs) : blanksB (bareB false r) = bareB false r := by
  rcases h : blanksB r with _ | ⟨c, q⟩
  · rw [← bare_blanks, h]; rfl
  · obtain ⟨q', e⟩ := bare_cons h
    rw [e, blanksB_stop (blanksB_head h)]
theorem starts_bare {r : Bs} (h : startsDigit (blanksB r) = false) : startsDigit (bareB false r) = false := by
  rcases hb : blanksB r with _ | ⟨c, q⟩
  · rw [← bare_blanks, hb]; rfl
  · obtain ⟨q', e⟩ := bare_cons hb
    rw [e]
    rw [hb] at h
    exact h
def Clear (w : Bs) : Prop := ∀ c ∈ w, isBlank c = false ∧ c ≠ 34
instance (w : Bs) : Decidable (Clear w) := inferInstanceAs (Decidable (∀ c ∈ w, isBlank c = false ∧ c ≠ 34))
theorem wordB_bare : ∀ (w r r' : Bs), Clear w → wordB w r = .ok r' → wordB w (bareB false r) = .ok (bareB false r')
  | [], r, r', _, h => by unfold wordB at h; injection h with h; subst h; unfold wordB; rfl
  | c :: w, [], r', _, h => by unfold wordB at h; cases h
  | c :: w, d :: r, r', hc, h => by
    unfold wordB at h
    split at h
    · rename_i e
      subst e
      obtain ⟨h1, h2⟩ := hc d List.mem_cons_self
      rw [bare_plain h1 h2]
      unfold wordB
      rw [if_pos rfl]
      exact wordB_bare w r r' (fun c hc' => hc c (List.mem_cons_of_mem _ hc')) h
    · cases h
theorem digit_clear {c : UInt8} (h : isDigit c = true) : isBlank c = false ∧ c ≠ 34 := by
  have : ∀ i : Fin 256, isDigit (UInt8.ofNat i.val) = true → isBlank (UInt8.ofNat i.val) = false ∧ UInt8.ofNat i.val ≠ 34 := by decide +kernel
  have h2 := this ⟨c.toNat, c.toNat_lt⟩
  simp only at h2
  rw [← u8_of] at h2
  exact h2 h
theorem numB_first {m first : Bool} {n : Nat} {x : Bs} (hx : startsDigit x = false) : numB m first n x = .ok (n, x) := by
  cases x with
  | nil => rfl
  | cons c r => unfold numB; rw [if_neg (by simpa [startsDigit] using hx)]
theorem numB_bare {m : Bool} : ∀ (r : Bs) (first : Bool) (n k : Nat) (r' : Bs), numB m first n r = .ok (k, r') → startsDigit (blanksB r') = false → numB m first n (bareB false r) = .ok (k, bareB false r')
  | [], first, n, k, r', h, _ => by unfold numB at h; injection h with h; injection h with h1 h2; subst h1; subst h2; rfl
  | c :: r, first, n, k, r', h, hs => by
    unfold numB at h
    split at h
    · rename_i hd
      split at h
      · cases h
      · rename_i hn
        obtain ⟨h1, h2⟩ := digit_clear hd
        rw [bare_plain h1 h2]
        unfold numB
        rw [if_pos hd, if_neg hn]
        exact numB_bare r false _ k r' h hs
    · injection h with h; injection h with h1 h2; subst h1; subst h2
      exact numB_first (starts_bare hs)
theorem digitsB_bare {m : Bool} {r r' : Bs} {k : Nat} (h : digitsB m r = .ok (k, r')) (hs : startsDigit (blanksB r') = false) : digitsB m (bareB false r) = .ok (k, bareB false r') := by
  unfold digitsB at h ⊢
  split at h
  · rename_i hd
    have : startsDigit (bareB false r) = true := by
      cases r with
      | nil => cases hd
      | cons c r => obtain ⟨h1, h2⟩ := digit_clear (c := c) hd; rw [bare_plain h1 h2]; exact hd
    rw [if_pos this]
    exact numB_bare r true 0 k r' h hs
  · cases h
theorem intB_minus (q : Bs) : intB (45 :: q) = match digitsB true q with
    | .ok (n, r1) => .ok (-(n : Int), r1)
    | .error e => .error e := rfl
theorem escB_cons (c : UInt8) (r : Bs) : escB (c :: r) = match shortB c with
    | some b => .ok (b, r)
    | none => if c = 117 then (match hexB4 4 0 r with
      | .ok (n, r1) => .ok (UInt8.ofNat n, r1)
      | .error e => .error e) else .error (r.length + 1) := rfl
theorem intB_bare {r r' : Bs} {n : Int} (h : intB r = .ok (n, r')) (hs : startsDigit (blanksB r') = false) : intB (bareB false r) = .ok (n, bareB false r') := by
  unfold intB at h
  split at h
  · rename_i q
    rcases hd : digitsB true q with e | ⟨k, r1⟩
    · rw [hd] at h; cases h
    · rw [hd] at h; injection h with h; injection h with h1 h2; subst h1; subst h2
      rw [bare_plain (by decide) (by decide), intB_minus, digitsB_bare hd hs]
  · rename_i hne
    rcases hd : digitsB false r with e | ⟨k, r1⟩
    · rw [hd] at h; cases h
    · rw [hd] at h; injection h with h; injection h with h1 h2; subst h1; subst h2
      have hb := digitsB_bare hd hs
      unfold intB
      split
      · rename_i q hq
        rw [hq] at hb
        unfold digitsB at hb
        rw [if_neg (by simp [startsDigit]; decide)] at hb
        cases hb
      · rw [hb]
theorem hexB4_bare : ∀ (k n : Nat) (r r' : Bs) (m : Nat), hexB4 k n r = .ok (m, r') → hexB4 k n (bareB true r) = .ok (m, bareB true r')
  | 0, n, r, r', m, h => by unfold hexB4 at h ⊢; injection h with h; injection h with h1 h2; subst h1; subst h2; rfl
  | k + 1, n, [], r', m, h => by unfold hexB4 at h; cases h
  | k + 1, n, c :: r, r', m, h => by
    unfold hexB4 at h
    rcases hd : hexD c with _ | d
    · rw [hd] at h; cases h
    · rw [hd] at h
      simp only at h
      split at h
      · cases h
      · rename_i hn
        have h1 : c ≠ 92 := fun e => by subst e; cases hd
        have h2 : c ≠ 34 := fun e => by subst e; cases hd
        rw [bare_in h1 h2]
        unfold hexB4
        rw [hd]
        simp only
        rw [if_neg hn]
        exact hexB4_bare k _ r r' m h
theorem strGo_bare : ∀ (f : Nat) (acc r s r' : Bs), strGo f acc r = .ok (s, r') → ∀ f', (bareB true r).length < f' → strGo f' acc (bareB true r) = .ok (s, bareB false r')
  | 0, acc, r, s, r', h, _, _ => by unfold strGo at h; cases h
  | f + 1, acc, [], s, r', h, _, _ => by unfold strGo at h; cases h
  | f + 1, acc, c :: r, s, r', h, 0, hf => by omega
  | f + 1, acc, c :: r, s, r', h, f' + 1, hf => by
    unfold strGo at h
    split at h
    · rename_i hc
      injection h with h; injection h with h1 h2; subst h1; subst h2; subst hc
      rw [bare_end]
      unfold strGo
      rw [if_pos rfl]
    · rename_i hc
      split at h
      · cases h
      · rename_i h32
        split at h
        · rename_i h92
          subst h92
          rcases hd : escB r with e | ⟨b, r1⟩
          · rw [hd] at h; cases h
          · rw [hd] at h
            simp only at h
            cases r with
            | nil => unfold escB at hd; cases hd
            | cons d r =>
              rw [bare_esc] at hf ⊢
              have key : escB (d :: bareB true r) = .ok (b, bareB true r1) := by
                rw [escB_cons] at hd ⊢
                rcases hs : shortB d with _ | x
                · rw [hs] at hd
                  simp only at hd ⊢
                  split at hd
                  · rename_i h117
                    rw [if_pos h117]
                    rcases hx : hexB4 4 0 r with e | ⟨n, r2⟩
                    · rw [hx] at hd; cases hd
                    · rw [hx] at hd
                      injection hd with hd; injection hd with h1 h2; subst h1; subst h2
                      rw [hexB4_bare 4 0 r _ n hx]
                  · cases hd
                · rw [hs] at hd
                  injection hd with hd; injection hd with h1 h2; subst h1; subst h2
                  rfl
              unfold strGo
              rw [if_neg (by decide), if_neg (by decide), if_pos rfl, key]
              simp only
              have hl := escB_len key
              refine strGo_bare f _ r1 s r' h f' ?_
              simp only [List.length_cons] at hf hl
              omega
        · rename_i h92
          rw [bare_in h92 hc] at hf ⊢
          unfold strGo
          rw [if_neg hc, if_neg h32, if_neg h92]
          refine strGo_bare f _ r s r' h f' ?_
          simp only [List.length_cons] at hf
          omega
theorem strB_bare {r s r' : Bs} (h : strB r = .ok (s, r')) : strB (bareB false r) = .ok (s, bareB false r') := by
  unfold strB at h
  rcases hw : wordB [34] r with e | r1
  · rw [hw] at h; cases h
  · rw [hw] at h
    have e := wordB_len _ _ _ hw
    subst e
    rw [List.singleton_append, bare_quote]
    unfold strB
    have : wordB [34] (34 :: bareB true r1) = .ok (bareB true r1) := by simp [wordB]
    rw [this]
    exact strGo_bare _ _ _ _ _ h _ (Nat.lt_succ_self _)
theorem keyB_bare {ks : List ByteArray} {r r' : Bs} {k : ByteArray} (h : keyB ks r = .ok (k, r')) : keyB ks (bareB false r) = .ok (k, bareB false r') := by
  unfold keyB at h
  rcases hs : strB r with e | ⟨s, r1⟩
  · rw [hs] at h; cases h
  · rw [hs] at h
    simp only at h
    split at h
    · cases h
    · rename_i hk
      rcases hw : wordB [58] (blanksB r1) with e | r2
      · rw [hw] at h; cases h
      · rw [hw] at h
        injection h with h; injection h with h1 h2; subst h1; subst h2
        unfold keyB
        rw [strB_bare hs]
        simp only
        rw [if_neg hk]
        have := wordB_bare _ _ _ (by decide) hw
        rw [bare_blanks] at this
        rw [blanks_bare, this]
        simp only
        rw [blanks_bare, bare_blanks]
theorem moreB_bare {c : UInt8} (hc : c = 93 ∨ c = 125) {r r' : Bs} : (moreB c r = .done r' → moreB c (bareB false r) = .done (bareB false r') ∧ startsDigit (blanksB r) = false) ∧ (moreB c r = .more r' → moreB c (bareB false r) = .more (bareB false r') ∧ startsDigit (blanksB r) = false) := by
  have hcl : isBlank c = false ∧ c ≠ 34 ∧ isDigit c = false := by rcases hc with rfl | rfl <;> decide
  constructor
  · intro h
    unfold moreB at h
    rcases hb : blanksB r with _ | ⟨d, q⟩
    · rw [hb] at h; cases h
    · rw [hb] at h
      simp only at h
      split at h
      · rename_i e
        subst e
        injection h with h; subst h
        refine ⟨?_, hcl.2.2⟩
        unfold moreB
        rw [blanks_bare, ← bare_blanks, hb, bare_plain hcl.1 hcl.2.1]
        simp
      · split at h <;> cases h
  · intro h
    unfold moreB at h
    rcases hb : blanksB r with _ | ⟨d, q⟩
    · rw [hb] at h; cases h
    · rw [hb] at h
      simp only at h
      split at h
      · cases h
      · rename_i hne
        split at h
        · rename_i e
          subst e
          injection h with h; subst h
          refine ⟨?_, by rfl⟩
          unfold moreB
          rw [blanks_bare, ← bare_blanks r, hb, bare_plain (by decide) (by decide)]
          simp only
          rw [if_neg hne, blanks_bare, bare_blanks]
          simp
        · cases h
theorem openB_bare {c : UInt8} (hc : c = 93 ∨ c = 125) {r : Bs} : openB c (bareB false r) = (openB c r).map (bareB false) := by
  have hcl : isBlank c = false ∧ c ≠ 34 := by rcases hc with rfl | rfl <;> decide
  unfold openB
  rw [blanks_bare]
  rcases hb : blanksB r with _ | ⟨d, q⟩
  · rw [← bare_blanks, hb]; rfl
  · by_cases e : d = c
    · subst e
      rw [← bare_blanks, hb, bare_plain hcl.1 hcl.2]
      simp
    · obtain ⟨q', e'⟩ := bare_cons hb
      rw [e']
      simp [e]
theorem read_bare : ∀ f : Nat,
    (∀ deep r v r', valueF f deep r = .ok (v, r') → startsDigit (blanksB r') = false → valueF f deep (bareB false r) = .ok (v, bareB false r')) ∧
    (∀ deep r v r', innerF f deep r = .ok (v, r') → startsDigit (blanksB r') = false → innerF f deep (bareB false r) = .ok (v, bareB false r')) ∧
    (∀ deep acc r vs r', itemsF f deep acc r = .ok (vs, r') → itemsF f deep acc (bareB false r) = .ok (vs, bareB false r')) ∧
    (∀ deep ks vs r x r', pairsF f deep ks vs r = .ok (x, r') → pairsF f deep ks vs (bareB false r) = .ok (x, bareB false r')) := by
  intro f
  induction f with
  | zero =>
    refine ⟨fun deep r v r' h => ?_, fun deep r v r' h => ?_, fun deep acc r vs r' h => ?_, fun deep ks vs r x r' h => ?_⟩
    · unfold valueF at h; cases h
    · unfold innerF at h; cases h
    · unfold itemsF at h; cases h
    · unfold pairsF at h; cases h
  | succ f ih =>
    obtain ⟨ihV, ihI, ihL, ihP⟩ := ih
    refine ⟨fun deep r v r' h hs => ?_, fun deep r v r' h hs => ?_, fun deep acc r vs r' h => ?_, fun deep ks vs r x r' h => ?_⟩
    · cases r with
      | nil => unfold valueF at h; cases h
      | cons c q =>
        unfold valueF at h
        split at h
        · rename_i hc
          rcases hw : wordB [110, 117, 108, 108] (c :: q) with e | r1
          · rw [hw] at h; cases h
          · rw [hw] at h; injection h with h; injection h with h1 h2; subst h1; subst h2
            have := wordB_bare _ _ _ (by decide) hw
            subst hc
            rw [bare_plain (by decide) (by decide)] at this ⊢
            unfold valueF
            rw [if_pos rfl, this]
        rename_i n1
        split at h
        · rename_i hc
          rcases hw : wordB [116, 114, 117, 101] (c :: q) with e | r1
          · rw [hw] at h; cases h
          · rw [hw] at h; injection h with h; injection h with h1 h2; subst h1; subst h2
            have := wordB_bare _ _ _ (by decide) hw
            subst hc
            rw [bare_plain (by decide) (by decide)] at this ⊢
            unfold valueF
            rw [if_neg n1, if_pos rfl, this]
        rename_i n2
        split at h
        · rename_i hc
          rcases hw : wordB [102, 97, 108, 115, 101] (c :: q) with e | r1
          · rw [hw] at h; cases h
          · rw [hw] at h; injection h with h; injection h with h1 h2; subst h1; subst h2
            have := wordB_bare _ _ _ (by decide) hw
            subst hc
            rw [bare_plain (by decide) (by decide)] at this ⊢
            unfold valueF
            rw [if_neg n1, if_neg n2, if_pos rfl, this]
        rename_i n3
        split at h
        · rename_i hc
          rcases hw : strB (c :: q) with e | ⟨s, r1⟩
          · rw [hw] at h; cases h
          · rw [hw] at h; injection h with h; injection h with h1 h2; subst h1; subst h2
            have := strB_bare hw
            subst hc
            rw [bare_quote] at this ⊢
            unfold valueF
            rw [if_neg n1, if_neg n2, if_neg n3, if_pos rfl, this]
        rename_i n4
        split at h
        · rename_i hc
          rcases hw : intB (c :: q) with e | ⟨n, r1⟩
          · rw [hw] at h; cases h
          · rw [hw] at h; injection h with h; injection h with h1 h2; subst h1; subst h2
            have := intB_bare hw hs
            have hcl : isBlank c = false ∧ c ≠ 34 := by
              rcases hc with rfl | hc
              · decide
              · exact digit_clear hc
            rw [bare_plain hcl.1 hcl.2] at this ⊢
            unfold valueF
            rw [if_neg n1, if_neg n2, if_neg n3, if_neg n4, if_pos hc, this]
        rename_i n5
        split at h
        · rename_i hc
          subst hc
          rw [bare_plain (by decide) (by decide)]
          unfold valueF
          rw [if_neg n1, if_neg n2, if_neg n3, if_neg n4, if_neg n5, if_pos rfl, openB_bare (.inl rfl)]
          rcases ho : openB 93 q with _ | r1
          · rw [ho] at h
            simp only at h
            rcases hi : itemsF f deep [] (blanksB q) with e | ⟨vs, r1⟩
            · rw [hi] at h; cases h
            · rw [hi] at h; injection h with h; injection h with h1 h2; subst h1; subst h2
              have := ihL _ _ _ _ _ hi
              rw [bare_blanks] at this
              simp only [Option.map_none]
              rw [blanks_bare, this]
          · rw [ho] at h; injection h with h; injection h with h1 h2; subst h1; subst h2
            rfl
        rename_i n6
        split at h
        · rename_i hc
          subst hc
          rw [bare_plain (by decide) (by decide)]
          unfold valueF
          rw [if_neg n1, if_neg n2, if_neg n3, if_neg n4, if_neg n5, if_neg n6, if_pos rfl, openB_bare (.inr rfl)]
          rcases ho : openB 125 q with _ | r1
          · rw [ho] at h
            simp only at h
            rcases hi : pairsF f deep [] [] (blanksB q) with e | ⟨⟨ks, vs⟩, r1⟩
            · rw [hi] at h; cases h
            · rw [hi] at h; injection h with h; injection h with h1 h2; subst h1; subst h2
              have := ihP _ _ _ _ _ _ hi
              rw [bare_blanks] at this
              simp only [Option.map_none]
              rw [blanks_bare, this]
          · rw [ho] at h; injection h with h; injection h with h1 h2; subst h1; subst h2
            rfl
        · cases h
    · unfold innerF at h ⊢
      split at h
      · cases h
      · rename_i hd
        rw [if_neg hd]
        exact ihV _ _ _ _ h hs
    · unfold itemsF at h ⊢
      rcases hi : innerF f deep r with e | ⟨v, r1⟩
      · rw [hi] at h; cases h
      · rw [hi] at h
        simp only at h
        rcases hm : moreB 93 r1 with r2 | r2 | e
        · rw [hm] at h; injection h with h; injection h with h1 h2; subst h1; subst h2
          obtain ⟨hb, hs⟩ := (moreB_bare (.inl rfl)).1 hm
          rw [ihI _ _ _ _ hi hs]
          simp only
          rw [hb]
        · rw [hm] at h
          obtain ⟨hb, hs⟩ := (moreB_bare (.inl rfl)).2 hm
          rw [ihI _ _ _ _ hi hs]
          simp only
          rw [hb]
          exact ihL _ _ _ _ _ h
        · rw [hm] at h; cases h
    · unfold pairsF at h ⊢
      rcases hk : keyB ks r with e | ⟨k, r0⟩
      · rw [hk] at h; cases h
      · rw [hk] at h
        simp only at h
        rw [keyB_bare hk]
        simp only
        rcases hi : innerF f deep r0 with e | ⟨v, r1⟩
        · rw [hi] at h; cases h
        · rw [hi] at h
          simp only at h
          rcases hm : moreB 125 r1 with r2 | r2 | e
          · rw [hm] at h; injection h with h; injection h with h1 h2; subst h1; subst h2
            obtain ⟨hb, hs⟩ := (moreB_bare (.inr rfl)).1 hm
            rw [ihI _ _ _ _ hi hs]
            simp only
            rw [hb]
          · rw [hm] at h
            obtain ⟨hb, hs⟩ := (moreB_bare (.inr rfl)).2 hm
            rw [ihI _ _ _ _ hi hs]
            simp only
            rw [hb]
            exact ihP _ _ _ _ _ _ h
          · rw [hm] at h; cases h
/-- Fuel that is enough changes nothing. -/
theorem fuel_V : ∀ f : Nat,
    (∀ f' deep r, 3 * r.length + 1 ≤ f → 3 * r.length + 1 ≤ f' → valueF f deep r = valueF f' deep r) ∧
    (∀ f' deep r, 3 * r.length + 2 ≤ f → 3 * r.length + 2 ≤ f' → innerF f deep r = innerF f' deep r) ∧
    (∀ f' deep acc r, 3 * r.length + 3 ≤ f → 3 * r.length + 3 ≤ f' → itemsF f deep acc r = itemsF f' deep acc r) ∧
    (∀ f' deep ks vs r, 3 * r.length + 3 ≤ f → 3 * r.length + 3 ≤ f' → pairsF f deep ks vs r = pairsF f' deep ks vs r) := by
  intro f
  induction f with
  | zero => exact ⟨fun _ _ _ h => by omega, fun _ _ _ h => by omega, fun _ _ _ _ h => by omega, fun _ _ _ _ _ h => by omega⟩
  | succ f ih =>
    obtain ⟨ihV, ihI, ihL, ihP⟩ := ih
    refine ⟨fun f' deep r h h' => ?_, fun f' deep r h h' => ?_, fun f' deep acc r h h' => ?_, fun f' deep ks vs r h h' => ?_⟩
    · obtain ⟨g, rfl⟩ : ∃ g, f' = g + 1 := ⟨f' - 1, by omega⟩
      cases r with
      | nil => unfold valueF; rfl
      | cons c q =>
        simp only [List.length_cons] at h h'
        have hb := blanksB_le q
        unfold valueF
        rw [ihL g deep [] (blanksB q) (by omega) (by omega), ihP g deep [] [] (blanksB q) (by omega) (by omega)]
    · obtain ⟨g, rfl⟩ : ∃ g, f' = g + 1 := ⟨f' - 1, by omega⟩
      unfold innerF
      rw [ihV g (deep - 1) r (by omega) (by omega)]
    · obtain ⟨g, rfl⟩ : ∃ g, f' = g + 1 := ⟨f' - 1, by omega⟩
      unfold itemsF
      rw [ihI g deep r (by omega) (by omega)]
      rcases hi : innerF g deep r with e | ⟨v, r1⟩
      · rfl
      · simp only
        have hl := ((read_ok g).2.1 _ _ _ _ hi).2.1
        rcases hm : moreB 93 r1 with r2 | r2 | e
        · rfl
        · have := moreB_len (.inr hm)
          simp only
          exact ihL g deep _ r2 (by omega) (by omega)
        · rfl
    · obtain ⟨g, rfl⟩ : ∃ g, f' = g + 1 := ⟨f' - 1, by omega⟩
      unfold pairsF
      rcases hk : keyB ks r with e | ⟨k, r0⟩
      · rfl
      · simp only
        have hkl := (keyB_len hk).1
        rw [ihI g deep r0 (by omega) (by omega)]
        rcases hi : innerF g deep r0 with e | ⟨v, r1⟩
        · rfl
        · simp only
          have hl := ((read_ok g).2.1 _ _ _ _ hi).2.1
          rcases hm : moreB 125 r1 with r2 | r2 | e
          · rfl
          · have := moreB_len (.inr hm)
            simp only
            exact ihP g deep _ _ r2 (by omega) (by omega)
          · rfl
theorem bare_le : ∀ (b : Bool) (r : Bs), (bareB b r).length ≤ r.length
  | b, [] => by rw [bare_nil]; exact Nat.le_refl _
  | false, c :: r => by
    show (if isBlank c then bareB false r else if c = 34 then c :: bareB true r else c :: bareB false r).length ≤ _
    have h1 := bare_le false r
    have h2 := bare_le true r
    split
    · exact Nat.le_succ_of_le h1
    · split
      · exact Nat.succ_le_succ h2
      · exact Nat.succ_le_succ h1
  | true, [c] => Nat.le_refl _
  | true, c :: d :: r => by
    show (if c = 92 then c :: d :: bareB true r else if c = 34 then c :: bareB false (d :: r) else c :: bareB true (d :: r)).length ≤ _
    have h1 := bare_le true r
    have h2 := bare_le false (d :: r)
    have h3 := bare_le true (d :: r)
    split
    · exact Nat.succ_le_succ (Nat.succ_le_succ h1)
    · split
      · exact Nat.succ_le_succ h2
      · exact Nat.succ_le_succ h3
/-- BLANKS MEAN NOTHING. -/
theorem readJ_bare {t : Bs} {v : J} (h : readJ t = .ok v) : readJ (bareB false t) = .ok v := by
  unfold readJ at h ⊢
  rcases hv : valueF (4 * t.length + 8) 40 (blanksB t) with e | ⟨w, r⟩
  · rw [hv] at h; cases h
  · rw [hv] at h
    simp only at h
    rcases hr : blanksB r with _ | ⟨c, q⟩
    · rw [hr] at h
      injection h with h; subst h
      have hb := (read_bare _).1 _ _ _ _ hv (by rw [hr]; rfl)
      rw [bare_blanks] at hb
      have hl := bare_le false t
      rw [blanks_bare, (fuel_V _).1 (4 * t.length + 8) 40 (bareB false t) (by omega) (by omega), hb]
      simp only
      rw [blanks_bare, ← bare_blanks, hr]
      rfl
    · rw [hr] at h; cases h
theorem bare_esc1 (c : UInt8) (x : Bs) : bareB true (esc c ++ x) = esc c ++ bareB true x := by
  unfold esc
  split
  · exact bare_esc _ _
  · rename_i hc
    simp only [not_or] at hc
    split
    · exact bare_esc _ _
    · split
      · have hh : ∀ i : Fin 256, (hexB (UInt8.ofNat i.val / 16) ≠ 92 ∧ hexB (UInt8.ofNat i.val / 16) ≠ 34) ∧ (hexB (UInt8.ofNat i.val % 16) ≠ 92 ∧ hexB (UInt8.ofNat i.val % 16) ≠ 34) := by decide +kernel
        have h2 := hh ⟨c.toNat, c.toNat_lt⟩
        simp only at h2
        rw [← u8_of] at h2
        simp only [List.cons_append, List.nil_append]
        rw [bare_esc, bare_in (by decide) (by decide), bare_in (by decide) (by decide), bare_in h2.1.1 h2.1.2, bare_in h2.2.1 h2.2.2]
      · exact bare_in hc.2 hc.1 x
theorem bare_quoteB (s x : Bs) : bareB false (quoteB s ++ x) = quoteB s ++ bareB false x := by
  have key : ∀ s : Bs, bareB true (s.flatMap esc ++ ([34] ++ x)) = s.flatMap esc ++ (34 :: bareB false x) := fun s => by
    induction s with
    | nil => exact bare_end x
    | cons c s ih => rw [List.flatMap_cons, List.append_assoc, bare_esc1, ih, List.append_assoc]
  have e : quoteB s ++ x = 34 :: (s.flatMap esc ++ ([34] ++ x)) := by simp [quoteB]
  rw [e, bare_quote, key]
  simp [quoteB]
theorem bare_clear : ∀ (w x : Bs), Clear w → bareB false (w ++ x) = w ++ bareB false x
  | [], x, _ => rfl
  | c :: w, x, h => by
    obtain ⟨h1, h2⟩ := h c List.mem_cons_self
    rw [List.cons_append, bare_plain h1 h2, bare_clear w x (fun c hc => h c (List.mem_cons_of_mem _ hc))]; rfl
theorem dec_clear (u : Nat) : Clear (Lib.decDigits u) := by
  induction u using Nat.strongRecOn with
  | _ u ih =>
    intro c hc
    by_cases h : u < 10
    · rw [Lib.decDigits_one h] at hc
      simp only [List.mem_singleton] at hc
      subst hc
      exact digit_clear (dig_at h).1
    · rw [decDigits_big h, List.mem_append] at hc
      rcases hc with hc | hc
      · exact ih (u / 10) (by omega) c hc
      · simp only [List.mem_singleton] at hc
        subst hc
        exact digit_clear (dig_at (Nat.mod_lt _ (by decide))).1
theorem itoa_clear (n : Int) : Clear (Lib.itoa n) := by
  unfold Lib.itoa
  split
  · intro c hc
    rcases List.mem_cons.1 hc with rfl | hc
    · decide
    · exact dec_clear _ c hc
  · exact dec_clear _
/-- Parts that stay as they are. -/
def Stays (p : Bs) : Prop := ∀ x, bareB false (p ++ x) = p ++ bareB false x
theorem Stays.append {a b : Bs} (ha : Stays a) (hb : Stays b) : Stays (a ++ b) := fun x => by rw [List.append_assoc, ha, hb, List.append_assoc]
theorem stays_joinC : ∀ l : List Bs, (∀ p ∈ l, Stays p) → Stays (joinC l)
  | [], _ => fun x => rfl
  | a :: l, h => by
    have key : ∀ l : List Bs, (∀ p ∈ l, Stays p) → Stays (l.flatMap (44 :: ·)) := fun l => by
      induction l with
      | nil => exact fun _ x => rfl
      | cons b l ih =>
        intro h
        rw [List.flatMap_cons]
        exact Stays.append (Stays.append (a := [44]) (fun x => bare_clear [44] x (by decide)) (h b List.mem_cons_self)) (ih (fun p hp => h p (List.mem_cons_of_mem _ hp)))
    exact Stays.append (h a List.mem_cons_self) (key l (fun p hp => h p (List.mem_cons_of_mem _ hp)))
theorem stays_pairs : ∀ (ks : List ByteArray) (ps : List Bs), (∀ p ∈ ps, Stays p) → ∀ p ∈ List.zipWith (fun q p => quoteB (bl q) ++ [58] ++ p) ks ps, Stays p
  | [], _, _, p, hp => by simp at hp
  | _ :: _, [], _, p, hp => by simp at hp
  | k :: ks, a :: ps, h, p, hp => by
    rw [List.zipWith_cons_cons] at hp
    rcases List.mem_cons.1 hp with rfl | hp
    · exact Stays.append (Stays.append (fun x => bare_quoteB _ x) (fun x => bare_clear [58] x (by decide))) (h a List.mem_cons_self)
    · exact stays_pairs ks ps (fun p hp => h p (List.mem_cons_of_mem _ hp)) p hp
mutual
theorem stays_text : ∀ v : J, Stays (textJ v)
  | .mk k b n t ks vs => by
    have hl := stays_textL vs
    unfold textJ
    split
    · exact fun x => bare_clear _ x (by decide)
    split
    · split
      · exact fun x => bare_clear _ x (by decide)
      · exact fun x => bare_clear _ x (by decide)
    split
    · exact fun x => bare_clear _ x (itoa_clear n)
    split
    · exact fun x => bare_quoteB _ x
    split
    · exact Stays.append (Stays.append (fun x => bare_clear [91] x (by decide)) (stays_joinC _ hl)) (fun x => bare_clear [93] x (by decide))
    · exact Stays.append (Stays.append (fun x => bare_clear [123] x (by decide)) (stays_joinC _ (stays_pairs ks _ hl))) (fun x => bare_clear [125] x (by decide))
theorem stays_textL : ∀ vs : List J, ∀ p ∈ textL vs, Stays p
  | [], p, hp => by simp [textL] at hp
  | v :: r, p, hp => by
    unfold textL at hp
    rcases List.mem_cons.1 hp with rfl | hp
    · exact stays_text v
    · exact stays_textL r p hp
end
/-- A value's text has no blanks outside of strings. -/
theorem bare_textJ (v : J) : bareB false (textJ v) = textJ v := by
  have := stays_text v []
  rwa [List.append_nil, bare_nil, List.append_nil] at this
end Go.Proofs.WM

/-
  The laws' bare (a string without the blanks outside of its strings), by the program, in memory. Condition: at most a thousand million bytes.
-/
namespace Go.Proofs.WV
open Go.RowKit Go.Proofs.KL Go.Proofs.WM
set_option maxRecDepth 100000
set_option linter.unusedSimpArgs false
set_option linter.unusedVariables false

theorem str_at {T : ByteArray} {i : Nat} {c : UInt8} {q : Bs} (h : (bl T).drop i = c :: q) : ∃ hi : i < T.size, ((T[i].toNat : Nat) : Int) = (c.toNat : Int) := by
  obtain ⟨h1, h2, -⟩ := drop_cons h
  have hi : i < T.size := by rw [bl_len] at h1; exact h1
  refine ⟨hi, ?_⟩
  have h3 : (bl T)[i]? = some T[i] := by
    rw [List.getElem?_eq_getElem h1]; rfl
  rw [List.getD_eq_getElem?_getD, h3] at h2
  have h4 : T[i] = c := h2
  rw [h4]
theorem blank_cases (c : UInt8) : isBlank c = true ↔ ((c.toNat : Int) = 32 ∨ (c.toNat : Int) = 9 ∨ (c.toNat : Int) = 10 ∨ (c.toNat : Int) = 13) := by
  have e : ∀ n : UInt8, (c == n) = true ↔ (c.toNat : Int) = (n.toNat : Int) := fun n => by
    rw [beq_iff_eq]
    constructor
    · rintro rfl; rfl
    · intro h; exact UInt8.toNat_inj.1 (by omega)
  unfold isBlank
  rw [Bool.or_eq_true, Bool.or_eq_true, Bool.or_eq_true, e, e, e, e]
  show ((((c.toNat : Int) = 32 ∨ (c.toNat : Int) = 9) ∨ (c.toNat : Int) = 10) ∨ (c.toNat : Int) = 13) ↔ _
  constructor
  · rintro (((h | h) | h) | h)
    · exact .inl h
    · exact .inr (.inl h)
    · exact .inr (.inr (.inl h))
    · exact .inr (.inr (.inr h))
  · rintro (h | h | h | h)
    · exact .inl (.inl (.inl h))
    · exact .inl (.inl (.inr h))
    · exact .inl (.inr h)
    · exact .inr h
theorem byte_eq (c : UInt8) (n : Nat) (hn : n < 256) : c = UInt8.ofNat n ↔ (c.toNat : Int) = (n : Int) := by
  constructor
  · rintro rfl
    simp [Nat.mod_eq_of_lt hn]
  · intro h
    exact UInt8.toNat_inj.1 (by simp [Nat.mod_eq_of_lt hn]; omega)
set_option maxHeartbeats 8000000 in
theorem bare24 {w : World} {T : ByteArray} (hT : T.size ≤ 1000000000) : Calls Tryd.prog 24 #[.string T] w fun e w' => e = .returned (.string (mkB (bareB false (bl T)))) ∧ Keeps Nob w w' := by
  obtain ⟨R, hR⟩ : ∃ x, bareB false (bl T) = x := ⟨_, rfl⟩
  have hRl : R.length ≤ 1000000000 := by have := bare_le false (bl T); rw [hR, bl_len] at this; omega
  have HRl := Lib.hid hRl
  have HR := Lib.hid hR
  rw [hR]
  obtain ⟨n, hn⟩ : ∃ n, T.size = n := ⟨_, rfl⟩
  have Hn := Lib.hid hn
  have hni : (n : Int) ≤ 1000000000 := by omega
  clear hR hT hRl
  go_enter Tryd.func24, Tryd.ntmps24
  go_upto_region 4 with fail
  go_loopg [5, 4, 3] n (fun K iv fv ov wr => ∃ (i : Nat) (f : Bool) (oA : Option Addr) (oc : Nat) (out r : Bs), iv = .int .i64 i ∧ fv = .bool f ∧ ov = .slice oA out.length oc ∧ i + K = n ∧ i + r.length = n ∧ Hid ((bl T).drop i = r) ∧ Hid (OwnB wr w.heap.size (.slice oA out.length oc) out) ∧ Hid (Keeps Nob w wr) ∧ Hid (out ++ bareB f r = R))
  case atStart => exact ⟨0, false, none, 0, [], bl T, rfl, rfl, rfl, by omega, by rw [bl_len]; omega, Lib.hid rfl, Lib.hid (OwnB.nil _ _), Lib.hid (Keeps.refl _ _), HR⟩
  case round =>
    obtain ⟨i, f, oA, oc, out, r, rfl, rfl, rfl, hK, hir, Hr, HO, HK, HE⟩ := hrel
    rcases r with _ | ⟨ch, q⟩
    · have e : i = n := by simpa using hir
      subst e
      have hii : (i : Int) = T.size := by omega
      have HRR := Lib.hid (show out = R by rw [← HE.out, bare_nil, List.append_nil])
      clear hir hK
      go_wp2_with (first
        | ((with_reducible refine at_dst (N := 63) rfl ?_); go_must (refine ev_conv_bs rfl rfl Tryd.underlying38 Tryd.underlying5 Tryd.underlying9 (bs := out) rfl HO.out.bytes ?_); (try simp only [PU]))
      )
      go_ret
      rw [HRR.out]
      exact ⟨rfl, HK.out⟩
    · obtain ⟨hlt, hc⟩ := str_at Hr.out
      obtain ⟨hin, hget, hdrop⟩ := drop_cons Hr.out
      simp only [List.length_cons] at hir
      have Hq := Lib.hid hdrop
      have Hol := Lib.hid (show out.length ≤ 1000000000 by have := congrArg List.length HE.out; rw [List.length_append] at this; have := HRl.out; omega)
      have Hbl := Lib.hid (blank_cases ch)
      have H34 := Lib.hid (byte_eq ch 34 (by decide))
      have H92 := Lib.hid (byte_eq ch 92 (by decide))
      obtain ⟨cv, hcv⟩ : ∃ x : Int, (ch.toNat : Int) = x := ⟨_, rfl⟩
      have Hcv := Lib.hid hcv
      rw [hcv] at hc Hbl H34 H92
      have hini : (i : Int) < (T.size : Int) := by omega
      clear hin hget hdrop hcv
      cases f
      · rcases hb : isBlank ch with _ | _
        · have hnb : ¬ (cv = 32 ∨ cv = 9 ∨ cv = 10 ∨ cv = 13) := fun h => by have := Hbl.out.2 h; rw [hb] at this; cases this
          have b1 : (cv == 32) = false := beq_eq_false_iff_ne.2 (fun e => hnb (.inl e))
          have b2 : (cv == 9) = false := beq_eq_false_iff_ne.2 (fun e => hnb (.inr (.inl e)))
          have b3 : (cv == 10) = false := beq_eq_false_iff_ne.2 (fun e => hnb (.inr (.inr (.inl e))))
          have b4 : (cv == 13) = false := beq_eq_false_iff_ne.2 (fun e => hnb (.inr (.inr (.inr e))))
          have Hb := Lib.hid hb
          clear hnb hb
          by_cases h34 : cv = 34
          · have Hc34 := Lib.hid (H34.out.2 h34)
            subst h34
            go_wp2_with (first
              | ((with_reducible refine at_dst (N := 36) rfl ?_); go_must (refine ev_slice (cs := #[.int .u8 34]) (t := 5) (n := 1) (c := 1) rfl (by first | (go_simp; done) | (go_simp; rfl)) ?_; intro gb wb hgb hlb hbb hkb)
                 have Hbb := Lib.hid hbb
                 have HKb := Lib.hid (HK.out.trans hkb (fun _ _ h => h))
                 have HOb := Lib.hid (HO.out.keep hkb (fun _ _ => id))
                 clear hbb hkb hgb hlb
                 (try simp only [PU]))
              | ((with_reducible refine at_dst (N := 37) rfl ?_); go_must (refine ev_app_sl rfl rfl byteT38 (base := w.heap.size) rfl HOb.out rfl (news := [ch]) rfl (fun _ => ⟨_, rfl, by rw [List.map_cons, List.map_nil]; unfold byteV; rw [Hcv.out]; exact World.news_of_block Hbb.out⟩) (by have := Hol.out; omega) HKb.out.size ?_; intro v' wc ho2 ha2; obtain ⟨nA, nc, hv'⟩ := ho2.slice; subst hv')
                 have HO2 := Lib.hid ho2
                 have HK2 := Lib.hid (HKb.out.trans ha2.keep (fun i hi e => by have := (HOb.out.lt i e.symm).1; omega))
                 clear ho2 ha2
                 (try simp only [PU]))
            )
            go_roundg (n - i - 1)
            case measure => omega
            case rel => exact ⟨i + 1, true, nA, nc, out ++ [ch], q, by rfl, rfl, by rw [List.length_append] <;> rfl, by omega, by omega, Lib.hid Hq.out, HO2, HK2, Lib.hid (by rw [← HE.out, (show bareB false (ch :: q) = ch :: bareB true q by rw [Hc34.out] <;> rfl), List.append_assoc] <;> rfl)⟩
          · have Hc34 := Lib.hid (show ch ≠ 34 from fun e => h34 (H34.out.1 e))
            have b5 : (cv == 34) = false := beq_eq_false_iff_ne.2 h34
            go_wp2_with (first
              | ((with_reducible refine at_dst (N := 36) rfl ?_); go_must (refine ev_slice (cs := #[.int .u8 cv]) (t := 5) (n := 1) (c := 1) rfl (by first | (go_simp; done) | (go_simp; rfl)) ?_; intro gb wb hgb hlb hbb hkb)
                 have Hbb := Lib.hid hbb
                 have HKb := Lib.hid (HK.out.trans hkb (fun _ _ h => h))
                 have HOb := Lib.hid (HO.out.keep hkb (fun _ _ => id))
                 clear hbb hkb hgb hlb
                 (try simp only [PU]))
              | ((with_reducible refine at_dst (N := 37) rfl ?_); go_must (refine ev_app_sl rfl rfl byteT38 (base := w.heap.size) rfl HOb.out rfl (news := [ch]) rfl (fun _ => ⟨_, rfl, by rw [List.map_cons, List.map_nil]; unfold byteV; rw [Hcv.out]; exact World.news_of_block Hbb.out⟩) (by have := Hol.out; omega) HKb.out.size ?_; intro v' wc ho2 ha2; obtain ⟨nA, nc, hv'⟩ := ho2.slice; subst hv')
                 have HO2 := Lib.hid ho2
                 have HK2 := Lib.hid (HKb.out.trans ha2.keep (fun i hi e => by have := (HOb.out.lt i e.symm).1; omega))
                 clear ho2 ha2
                 (try simp only [PU]))
            )
            go_roundg (n - i - 1)
            case measure => omega
            case rel => exact ⟨i + 1, false, nA, nc, out ++ [ch], q, by rfl, rfl, by rw [List.length_append] <;> rfl, by omega, by omega, Lib.hid Hq.out, HO2, HK2, Lib.hid (by rw [← HE.out, (bare_plain Hb.out Hc34.out), List.append_assoc] <;> rfl)⟩
        · have hcase := Hbl.out.1 hb
          have Hb := Lib.hid hb
          clear hb
          rcases hcase with e | e | e | e
          · subst e
            go_wp2
            go_roundg (n - i - 1)
            case measure => omega
            case rel => exact ⟨i + 1, false, oA, oc, out, q, by rfl, rfl, rfl, by omega, by omega, Lib.hid Hq.out, HO, HK, Lib.hid (by rw [← HE.out, bare_blank Hb.out])⟩
          · subst e
            go_wp2
            go_roundg (n - i - 1)
            case measure => omega
            case rel => exact ⟨i + 1, false, oA, oc, out, q, by rfl, rfl, rfl, by omega, by omega, Lib.hid Hq.out, HO, HK, Lib.hid (by rw [← HE.out, bare_blank Hb.out])⟩
          · subst e
            go_wp2
            go_roundg (n - i - 1)
            case measure => omega
            case rel => exact ⟨i + 1, false, oA, oc, out, q, by rfl, rfl, rfl, by omega, by omega, Lib.hid Hq.out, HO, HK, Lib.hid (by rw [← HE.out, bare_blank Hb.out])⟩
          · subst e
            go_wp2
            go_roundg (n - i - 1)
            case measure => omega
            case rel => exact ⟨i + 1, false, oA, oc, out, q, by rfl, rfl, rfl, by omega, by omega, Lib.hid Hq.out, HO, HK, Lib.hid (by rw [← HE.out, bare_blank Hb.out])⟩
      · by_cases h92 : cv = 92
        · have Hc92 := Lib.hid (H92.out.2 h92)
          subst h92
          rcases hqq : q with _ | ⟨d, q'⟩
          · have hlast : ¬ ((i : Int) + 1 < (T.size : Int)) := by rw [hqq] at hir; simp only [List.length_nil] at hir; omega
            have HQQ := Lib.hid hqq
            clear hqq
            go_wp2_with (first
              | ((with_reducible refine at_dst (N := 36) rfl ?_); go_must (refine ev_slice (cs := #[.int .u8 92]) (t := 5) (n := 1) (c := 1) rfl (by first | (go_simp; done) | (go_simp; rfl)) ?_; intro gb wb hgb hlb hbb hkb)
                 have Hbb := Lib.hid hbb
                 have HKb := Lib.hid (HK.out.trans hkb (fun _ _ h => h))
                 have HOb := Lib.hid (HO.out.keep hkb (fun _ _ => id))
                 clear hbb hkb hgb hlb
                 (try simp only [PU]))
              | ((with_reducible refine at_dst (N := 37) rfl ?_); go_must (refine ev_app_sl rfl rfl byteT38 (base := w.heap.size) rfl HOb.out rfl (news := [ch]) rfl (fun _ => ⟨_, rfl, by rw [List.map_cons, List.map_nil]; unfold byteV; rw [Hcv.out]; exact World.news_of_block Hbb.out⟩) (by have := Hol.out; omega) HKb.out.size ?_; intro v' wc ho2 ha2; obtain ⟨nA, nc, hv'⟩ := ho2.slice; subst hv')
                 have HO2 := Lib.hid ho2
                 have HK2 := Lib.hid (HKb.out.trans ha2.keep (fun i hi e => by have := (HOb.out.lt i e.symm).1; omega))
                 clear ho2 ha2
                 (try simp only [PU]))
            )
            go_roundg (n - i - 1)
            case measure => omega
            case rel => exact ⟨i + 1, true, nA, nc, out ++ [ch], q, by rfl, rfl, by rw [List.length_append] <;> rfl, by omega, by omega, Lib.hid Hq.out, HO2, HK2, Lib.hid (by rw [← HE.out, (show bareB true (ch :: q) = ch :: bareB true q by rw [HQQ.out] <;> rfl), List.append_assoc] <;> rfl)⟩
          · subst hqq
            obtain ⟨hlt2, hd⟩ := str_at Hq.out
            obtain ⟨hin2, hget2, hdrop2⟩ := drop_cons Hq.out
            have Hq2 := Lib.hid hdrop2
            simp only [List.length_cons] at hir
            obtain ⟨dv, hdv⟩ : ∃ x : Int, (d.toNat : Int) = x := ⟨_, rfl⟩
            have Hdv := Lib.hid hdv
            rw [hdv] at hd
            have hmore : (i : Int) + 1 < (T.size : Int) := by omega
            clear hin2 hget2 hdrop2 hdv
            go_wp2_with (first
              | ((with_reducible refine at_dst (N := 36) rfl ?_); go_must (refine ev_slice (cs := #[.int .u8 92]) (t := 5) (n := 1) (c := 1) rfl (by first | (go_simp; done) | (go_simp; rfl)) ?_; intro gb wb hgb hlb hbb hkb)
                 have Hbb := Lib.hid hbb
                 have HKb := Lib.hid (HK.out.trans hkb (fun _ _ h => h))
                 have HOb := Lib.hid (HO.out.keep hkb (fun _ _ => id))
                 clear hbb hkb hgb hlb
                 (try simp only [PU]))
              | ((with_reducible refine at_dst (N := 37) rfl ?_); go_must (refine ev_app_sl rfl rfl byteT38 (base := w.heap.size) rfl HOb.out rfl (news := [ch]) rfl (fun _ => ⟨_, rfl, by rw [List.map_cons, List.map_nil]; unfold byteV; rw [Hcv.out]; exact World.news_of_block Hbb.out⟩) (by have := Hol.out; omega) HKb.out.size ?_; intro v' wc ho2 ha2; obtain ⟨nA, nc, hv'⟩ := ho2.slice; subst hv')
                 have HO2 := Lib.hid ho2
                 have HK2 := Lib.hid (HKb.out.trans ha2.keep (fun i hi e => by have := (HOb.out.lt i e.symm).1; omega))
                 clear ho2 ha2
                 (try simp only [PU]))
              | ((with_reducible refine at_dst (N := 56) rfl ?_); go_must (refine ev_slice (cs := #[.int .u8 dv]) (t := 5) (n := 1) (c := 1) rfl (by first | (go_simp; done) | (go_simp; rfl)) ?_; intro gd wd hgd hld hbd hkd)
                 have Hbd := Lib.hid hbd
                 have HKd := Lib.hid (HK2.out.trans hkd (fun _ _ h => h))
                 have HOd := Lib.hid (HO2.out.keep hkd (fun _ _ => id))
                 clear hbd hkd hgd hld
                 (try simp only [PU]))
              | ((with_reducible refine at_dst (N := 57) rfl ?_); go_must (refine ev_app_sl rfl rfl byteT38 (base := w.heap.size) rfl HOd.out rfl (news := [d]) rfl (fun _ => ⟨_, rfl, by rw [List.map_cons, List.map_nil]; unfold byteV; rw [Hdv.out]; exact World.news_of_block Hbd.out⟩) (by have := Hol.out; simp only [List.length_append, List.length_cons, List.length_nil]; omega) HKd.out.size ?_; intro v' we ho3 ha3; obtain ⟨mA, mc, hv'⟩ := ho3.slice; subst hv')
                 have HO3 := Lib.hid ho3
                 have HK3 := Lib.hid (HKd.out.trans ha3.keep (fun i hi e => by have := (HOd.out.lt i e.symm).1; omega))
                 clear ho3 ha3
                 (try simp only [PU]))
            )
            go_roundg (n - i - 2)
            case measure => omega
            case rel => exact ⟨i + 2, true, mA, mc, out ++ [ch] ++ [d], q', by first | rfl | (congr 1; omega), rfl, by simp only [List.length_append, List.length_cons, List.length_nil], by omega, by omega, Lib.hid Hq2.out, HO3, HK3, Lib.hid (by rw [← HE.out, Hc92.out, show bareB true (UInt8.ofNat 92 :: d :: q') = UInt8.ofNat 92 :: d :: bareB true q' from rfl, List.append_assoc, List.append_assoc]; rfl)⟩
        · have Hc92 := Lib.hid (show ch ≠ 92 from fun e => h92 (H92.out.1 e))
          have b6 : (cv == 92) = false := beq_eq_false_iff_ne.2 h92
          by_cases h34 : cv = 34
          · have Hc34 := Lib.hid (H34.out.2 h34)
            subst h34
            go_wp2_with (first
              | ((with_reducible refine at_dst (N := 36) rfl ?_); go_must (refine ev_slice (cs := #[.int .u8 34]) (t := 5) (n := 1) (c := 1) rfl (by first | (go_simp; done) | (go_simp; rfl)) ?_; intro gb wb hgb hlb hbb hkb)
                 have Hbb := Lib.hid hbb
                 have HKb := Lib.hid (HK.out.trans hkb (fun _ _ h => h))
                 have HOb := Lib.hid (HO.out.keep hkb (fun _ _ => id))
                 clear hbb hkb hgb hlb
                 (try simp only [PU]))
              | ((with_reducible refine at_dst (N := 37) rfl ?_); go_must (refine ev_app_sl rfl rfl byteT38 (base := w.heap.size) rfl HOb.out rfl (news := [ch]) rfl (fun _ => ⟨_, rfl, by rw [List.map_cons, List.map_nil]; unfold byteV; rw [Hcv.out]; exact World.news_of_block Hbb.out⟩) (by have := Hol.out; omega) HKb.out.size ?_; intro v' wc ho2 ha2; obtain ⟨nA, nc, hv'⟩ := ho2.slice; subst hv')
                 have HO2 := Lib.hid ho2
                 have HK2 := Lib.hid (HKb.out.trans ha2.keep (fun i hi e => by have := (HOb.out.lt i e.symm).1; omega))
                 clear ho2 ha2
                 (try simp only [PU]))
            )
            go_roundg (n - i - 1)
            case measure => omega
            case rel => exact ⟨i + 1, false, nA, nc, out ++ [ch], q, by rfl, rfl, by rw [List.length_append] <;> rfl, by omega, by omega, Lib.hid Hq.out, HO2, HK2, Lib.hid (by rw [← HE.out, (show bareB true (ch :: _) = ch :: bareB false _ by rw [Hc34.out]; exact bare_end _), List.append_assoc] <;> rfl)⟩
          · have Hc34 := Lib.hid (show ch ≠ 34 from fun e => h34 (H34.out.1 e))
            have b5 : (cv == 34) = false := beq_eq_false_iff_ne.2 h34
            go_wp2_with (first
              | ((with_reducible refine at_dst (N := 36) rfl ?_); go_must (refine ev_slice (cs := #[.int .u8 cv]) (t := 5) (n := 1) (c := 1) rfl (by first | (go_simp; done) | (go_simp; rfl)) ?_; intro gb wb hgb hlb hbb hkb)
                 have Hbb := Lib.hid hbb
                 have HKb := Lib.hid (HK.out.trans hkb (fun _ _ h => h))
                 have HOb := Lib.hid (HO.out.keep hkb (fun _ _ => id))
                 clear hbb hkb hgb hlb
                 (try simp only [PU]))
              | ((with_reducible refine at_dst (N := 37) rfl ?_); go_must (refine ev_app_sl rfl rfl byteT38 (base := w.heap.size) rfl HOb.out rfl (news := [ch]) rfl (fun _ => ⟨_, rfl, by rw [List.map_cons, List.map_nil]; unfold byteV; rw [Hcv.out]; exact World.news_of_block Hbb.out⟩) (by have := Hol.out; omega) HKb.out.size ?_; intro v' wc ho2 ha2; obtain ⟨nA, nc, hv'⟩ := ho2.slice; subst hv')
                 have HO2 := Lib.hid ho2
                 have HK2 := Lib.hid (HKb.out.trans ha2.keep (fun i hi e => by have := (HOb.out.lt i e.symm).1; omega))
                 clear ho2 ha2
                 (try simp only [PU]))
            )
            go_roundg (n - i - 1)
            case measure => omega
            case rel => exact ⟨i + 1, true, nA, nc, out ++ [ch], q, by rfl, rfl, by rw [List.length_append] <;> rfl, by omega, by omega, Lib.hid Hq.out, HO2, HK2, Lib.hid (by rw [← HE.out, (bare_in Hc92.out Hc34.out), List.append_assoc] <;> rfl)⟩
end Go.Proofs.WV

/-
  The first frame of bytes by the specification (first), in memory. Condition: at most two thousand million bytes.
-/
namespace Go.Proofs.KL
open Go.RowKit
theorem run_sub_m {P : Program} {t : TypeId} (ht : ByteT P t) (A : Option Addr) (n c l h : Nat) (hlh : l ≤ h) (hh : h ≤ c) (w : World) :
    (Instr.slice t (.slice A n c) (some (.int .i64 l)) (some (.int .i64 h)) (some (.int .i64 h))).run P w = .ok (.slice (subA A l h) (h - l) (h - l)) w := by
  obtain ⟨i, hi, hz⟩ := Option.map_eq_some_iff.1 ht.info
  simp only [Prod.mk.injEq] at hz
  have e1 : (0 : Int) ≤ (l : Int) ∧ (l : Int) ≤ (h : Int) := by omega
  have e2 : (0 : Int) ≤ (h : Int) ∧ (h : Int) ≤ (c : Int) := by omega
  simp [Instr.slice, run_underlying ht.under, Instr.sliceBounds, Instr.sliceBound, asIntOf, e1, e2, hlh, hh, sizeOf, typeInfo, hi, hz.2.1, subA]
section
variable {P : Program} {ops : Array Oper} {rest : List Oper} {o : Oper} {a : Act} {Q : Exit → Act → World → Prop}
/-- b[l:h:h]. -/
theorem ev_sub_m {W : World} (hgd : o.guard = none) {x lo hi mx : Operand} {t : TypeId} (ho : o.op = .slice t x (some lo) (some hi) (some mx)) (ht : ByteT P t) {A : Option Addr} {n c l h : Nat} (hx : a.eval x = .slice A n c) (hlo : a.eval lo = .int .i64 l) (hhi : a.eval hi = .int .i64 h) (hmx : a.eval mx = .int .i64 h) (hlh : l ≤ h) (hh : h ≤ c)
    (k : wpList P ops Q rest (a.put o.dst (.slice (subA A l h) (h - l) (h - l))) W) : wpList P ops Q (o :: rest) a W := by
  refine ev_run hgd (v := .slice (subA A l h) (h - l) (h - l)) (w1 := W) ?_ k
  simp [execOp, ho, hx, hlo, hhi, hmx, run_sliceAt_b ht, run_sub_m ht A n c l h hlh hh]
end
theorem BytesX.sub_m {W : World} {X : Nat → Prop} {A : Option Addr} {n c : Nat} {s : WM.Bs} (hb : BytesX W X (.slice A n c) s) {l h : Nat} (hlh : l ≤ h) (hh : h ≤ n) : BytesX W X (.slice (subA A l h) (h - l) (h - l)) ((s.drop l).take (h - l)) := by
  obtain ⟨A', c', e, hc, hx⟩ := hb.sub hlh hh
  have hlen : ((s.drop l).take (h - l)).length = h - l := by
    injection e with e1 e2 e3
    exact e2.symm
  refine ⟨subA A l h, h - l, by rw [hlen], by rw [hlen]; exact Nat.le_refl _, fun i hi => ?_⟩
  have hlt : l < h := by rw [hlen] at hi; omega
  obtain ⟨b, o, e1, hX, hcell⟩ := hx i hi
  have hnc := hb.len.2
  injection e with e4 e5 e6
  refine ⟨b, o, ?_, hX, hcell⟩
  rw [← e1, ← e4]
  unfold subA
  rw [if_neg (by omega), if_neg (by omega)]
end Go.Proofs.KL
namespace Go.Proofs.WV
open Go.RowKit Go.Proofs.KL Go.Proofs.WM
set_option maxRecDepth 100000
set_option linter.unusedSimpArgs false
set_option linter.unusedVariables false

/-- What the specification's first comes to. -/
def FirstEnd (W : World) (X : Nat → Prop) (s : Bs) (F : Fr) (e : Ending) (w' : World) : Prop :=
  (match F with
  | .bad => e = .returned (.tuple #[.slice none 0 0, .int .i64 (-1)])
  | .part => e = .returned (.tuple #[.slice none 0 0, .int .i64 0])
  | .whole x r => ∃ A c k, e = .returned (.tuple #[.slice A x.length c, .int .i64 (k : Nat)]) ∧ BytesX w' X (.slice A x.length c) x ∧ k ≤ s.length ∧ 0 < k ∧ r = s.drop k) ∧ Keeps Nob W w'
def neckA (any : Bool) (m : Nat) (w r : Bs) : Fr := if any = false then (if r = [] then .part else .bad) else neckF m w r
theorem byte_ne {a b : UInt8} {x y : Int} (ha : (a.toNat : Int) = x) (hb : (b.toNat : Int) = y) : a = b ↔ x = y := by
  rw [← UInt8.toNat_inj]; omega
set_option maxHeartbeats 8000000 in
theorem first57 {W : World} {X : Nat → Prop} {A : Option Addr} {n c : Nat} {s : Bs} (hb : BytesX W X (.slice A n c) s) (hl : n ≤ 2000000000) : Calls Tryd.prog 57 #[.slice A n c] W (FirstEnd W X s (frameB s)) := by
  obtain ⟨F, hF⟩ : ∃ F, frameB s = F := ⟨_, rfl⟩
  rw [hF]
  have HF0 := Lib.hid (show headF (beginB.drop 0) (s.drop 0) = F from hF)
  have HB := Lib.hid hb
  have Hn := Lib.hid hb.len
  have hni : (n : Int) ≤ 2000000000 := by omega
  clear hb hF
  go_enter Tryd.func57, Tryd.ntmps57
  go_wp2
  go_loopg [4] 8 (fun K iv wr => ∃ i : Nat, iv = .int .i64 i ∧ i + K = 8 ∧ i ≤ n ∧ Hid (headF (beginB.drop i) (s.drop i) = F) ∧ Hid (Keeps Nob W wr))
  case atStart => exact ⟨0, rfl, rfl, Nat.zero_le _, HF0, Lib.hid (Keeps.refl Nob W)⟩
  case round =>
    obtain ⟨i, rfl, hK, hin, HE, HK⟩ := hrel
    by_cases h8 : i < 8
    · by_cases hend : n ≤ i
      · have HF := Lib.hid (show Fr.part = F by
          rw [← HE.out, List.drop_of_length_le (i := i) (l := s) (by have := Hn.out; omega)]
          rw [List.drop_eq_getElem_cons (show i < beginB.length from h8)]
          rfl)
        have HKz := HK
        have hendi : (n : Int) ≤ (i : Int) := by omega
        clear hend
        go_wp2
        go_ret2
        refine ⟨?_, HKz.out⟩
        rw [← HF.out]; rfl
      · have hlt : i < n := by omega
        obtain ⟨b, o, rfl, hX, hcell⟩ := (HB.out.keep (X' := X) HK.out (fun _ _ _ => id) (fun _ _ h => h)).at (by omega)
        have ci := hcell i hlt
        obtain ⟨ch, q, hdr⟩ : ∃ ch q, s.drop i = ch :: q := ⟨_, _, List.drop_eq_getElem_cons (by have := Hn.out; omega)⟩
        obtain ⟨dh, dq, hdr2⟩ : ∃ ch q, beginB.drop i = ch :: q := ⟨_, _, List.drop_eq_getElem_cons (show i < beginB.length from h8)⟩
        obtain ⟨-, hget, hdrop⟩ := drop_cons hdr
        obtain ⟨-, hget2, hdrop2⟩ := drop_cons hdr2
        rw [hget] at ci
        unfold byteV at ci
        have hE2 := HE.out
        rw [hdr, hdr2] at hE2
        unfold headF at hE2
        obtain ⟨hsz, hix⟩ := str_at (T := ⟨#[76, 101, 110, 103, 116, 104, 58, 32]⟩) (show (bl ⟨#[76, 101, 110, 103, 116, 104, 58, 32]⟩).drop i = dh :: dq from hdr2)
        obtain ⟨cv, hcv⟩ : ∃ x : Int, (ch.toNat : Int) = x := ⟨_, rfl⟩
        obtain ⟨dv, hdv⟩ : ∃ x : Int, (dh.toNat : Int) = x := ⟨_, rfl⟩
        have Hne := Lib.hid (byte_ne hcv hdv)
        rw [hcv] at ci
        rw [hdv] at hix
        have HE2 := Lib.hid hE2
        have Hdr := Lib.hid (And.intro hdrop hdrop2)
        have hii : ¬ (n : Int) ≤ (i : Int) := by omega
        clear hcell hdr hdr2 hget hget2 hdrop hdrop2 hE2 hcv hdv HE hX hend
        go_wp2_with fail
        refine wp_region_perm [(0, true), (1, true), (2, true), (3, true), (4, true), (5, true), (6, true)] (fun w' => w'.cell? ⟨b, o + i, none⟩ = some (.int .u8 cv)) rfl (by kernel_rfl) (by kernel_rfl) (by decide) (fun c a d v w h => by cases d <;> exact h) ci ?_
        refine perm_q (v := ?v1_0) (some 16) rfl rfl rfl ?q1_0 ?h1_0; (case q1_0 => (intro w' hS; skip; first | (go_simp; done) | (go_simp; rfl))); (try simp only [PU])
        refine perm_q (v := ?v1_1) (some 17) rfl rfl rfl ?q1_1 ?h1_1; (case q1_1 => (intro w' hS; skip; first | (go_simp; done) | (go_simp; rfl))); (try simp only [PU])
        refine perm_q (v := ?v1_2) (some 18) rfl rfl rfl ?q1_2 ?h1_2; (case q1_2 => (intro w' hS; skip; first | (go_simp; done) | (go_simp; rfl))); (try simp only [PU])
        refine perm_q (v := ?v1_3) (some 19) rfl rfl rfl ?q1_3 ?h1_3; (case q1_3 => (intro w' hS; skip; first | (go_simp; done) | (go_simp; rfl))); (try simp only [PU])
        refine perm_q (v := ?v1_4) (some 20) rfl rfl rfl ?q1_4 ?h1_4; (case q1_4 => (intro w' hS; skip; first | (go_simp; done) | (go_simp; rfl))); (try simp only [PU])
        refine perm_q (v := ?v1_5) (some 21) rfl rfl rfl ?q1_5 ?h1_5; (case q1_5 => (intro w' hS; skip; first | (go_simp; done) | (go_simp; rfl))); (try simp only [PU])
        refine perm_q (v := ?v1_6) (some 22) rfl rfl rfl ?q1_6 ?h1_6; (case q1_6 => (intro w' hS; skip; first | (go_simp; done) | (go_simp; rfl))); (try simp only [PU])
        refine perm_nil ?_
        by_cases hcd : cv = dv
        · subst hcd
          have hlen : q.length + 1 + i = n := by have := congrArg List.length Hdr.out.1; rw [List.length_drop] at this; have := Hn.out; omega
          have HE := Lib.hid (show headF (beginB.drop (i + 1)) (s.drop (i + 1)) = F by rw [Hdr.out.1, Hdr.out.2, ← HE2.out, if_pos (Hne.out.2 rfl)])
          clear hix hsz
          go_wp2
          go_roundg (8 - i - 1)
          case measure => omega
          case rel => exact ⟨i + 1, by rfl, by omega, by omega, HE, Lib.hid HK.out.drew⟩
        · have hcdb : (cv != dv) = true := bne_iff_ne.2 hcd
          have HF := Lib.hid (show Fr.bad = F by rw [← HE2.out, if_neg (fun e => hcd (Hne.out.1 e))])
          have HKz := Lib.hid HK.out.drew
          clear hix hsz
          go_wp2
          go_ret2
          refine ⟨?_, HKz.out⟩
          rw [← HF.out]; rfl
    · obtain rfl : i = 8 := by omega
      have HS0 := Lib.hid (show sizeF false 0 (s.drop 8) = F from HE.out)
      have HK0 := HK
      clear hK h8 HE HK
      go_wp2
      go_loopg [4, 5, 6] (n - 8) (fun K atv mv dv wr => ∃ (i m d : Nat) (any : Bool) (r : Bs), atv = .int .i64 i ∧ mv = .int .i64 m ∧ dv = .int .i64 d ∧ r.length ≤ K ∧ i + r.length = n ∧ m ≤ 1000000 ∧ d ≤ i ∧ 8 ≤ i ∧ Hid ((any = true ↔ 0 < d) ∧ s.drop i = r ∧ (any = false → m = 0)) ∧ Hid (sizeF any m r = F) ∧ Hid (Keeps Nob W wr))
      case atStart => exact ⟨8, 0, 0, false, s.drop 8, rfl, rfl, rfl, by rw [List.length_drop]; have := Hn.out; omega, by rw [List.length_drop]; have := Hn.out; omega, by omega, by omega, Nat.le_refl _, Lib.hid ⟨by simp, rfl, fun _ => rfl⟩, HS0, HK0⟩
      case round =>
        obtain ⟨i, m, d, any, r, rfl, rfl, rfl, hl, hi, hm, hd, hi8, Hr, HE, HK⟩ := hrel
        rcases r with _ | ⟨ch, q⟩
        · have e : i = n := by simpa using hi
          subst e
          have HE4 := Lib.hid (show neckA any m (neckB.drop 0) (s.drop i) = F by rw [← HE.out, Hr.out.2.1]; unfold sizeF neckA; cases any <;> rfl)
          have hin : i ≤ i := Nat.le_refl _
          clear hi hl HE
          have HK4 := HK
          have hd0 : 0 ≤ d := Nat.zero_le _
          have Hdi := Lib.hid (show i + (s.drop i).length = i by rw [List.length_drop]; have := Hn.out; omega)
          clear HK
          go_wp2
          rename World => w4
          go_loopg [4, 7] 4 (fun K atv jv wr => ∃ (p j : Nat) (r : Bs), atv = .int .i64 p ∧ jv = .int .i64 j ∧ j + K = 4 ∧ p + r.length = i ∧ 8 ≤ p ∧ Hid (s.drop p = r) ∧ Hid (any = false → j = 0) ∧ Hid (neckA any m (neckB.drop j) r = F) ∧ Hid (Keeps Nob W wr))
          case atStart => exact ⟨i, 0, s.drop i, rfl, rfl, rfl, Hdi.out, hi8, Lib.hid rfl, Lib.hid (fun _ => rfl), HE4, HK4⟩
          case round =>
            obtain ⟨i4, j, r, rfl, rfl, hK, hi4, hi48, Hr4, Ha, HE, HK⟩ := hrel
            by_cases h4 : j < 4
            · rcases r with _ | ⟨ch4, q4⟩
              · have hge : (i : Int) ≤ (i4 : Int) := by simp only [List.length_nil] at hi4; omega
                have HF := Lib.hid (show Fr.part = F by
                  rw [← HE.out, List.drop_eq_getElem_cons (show j < neckB.length from h4)]
                  cases any <;> rfl)
                have HKz := HK
                clear HE
                go_wp2
                go_ret2
                refine ⟨?_, HKz.out⟩
                rw [← HF.out]; rfl
              · simp only [List.length_cons] at hi4
                have hge : ¬ (i : Int) ≤ (i4 : Int) := by omega
                obtain ⟨dh, dq, hdr2⟩ : ∃ ch q, neckB.drop j = ch :: q := ⟨_, _, List.drop_eq_getElem_cons (show j < neckB.length from h4)⟩
                have hE2 := HE.out
                rw [hdr2] at hE2
                cases any
                · have hdz : ((d : Int) == 0) = true := beq_iff_eq.2 (by have h' : ¬ 0 < d := (fun h => Bool.noConfusion (Hr.out.1.2 h)); omega)
                  have HF := Lib.hid (show Fr.bad = F from hE2)
                  have HKz := Lib.hid HK.out.drew
                  clear HE hE2
                  go_wp2_with fail
                  refine wp_region_perm [(0, true), (1, true), (2, true), (3, true), (4, true), (5, true), (6, true), (7, true), (8, true), (9, true), (10, true)] (fun w' => True) rfl (by kernel_rfl) (by kernel_rfl) (by decide) (fun c a d v w h => by cases d <;> exact h) trivial ?_
                  refine perm_q (v := ?v2_0) (some 80) rfl rfl rfl ?q2_0 ?h2_0; (case q2_0 => (intro w' hS; skip; first | (go_simp; done) | (go_simp; rfl))); (try simp only [PU])
                  refine perm_q (v := ?v2_1) (some 81) rfl rfl rfl ?q2_1 ?h2_1; (case q2_1 => (intro w' hS; skip; first | (go_simp; done) | (go_simp; rfl))); (try simp only [PU])
                  refine perm_q (v := ?v2_2) (some 82) rfl rfl rfl ?q2_2 ?h2_2; (case q2_2 => (intro w' hS; skip; first | (go_simp; done) | (go_simp; rfl))); (try simp only [PU])
                  refine perm_skip (some 83) rfl rfl rfl ?_; (try simp only [PU])
                  refine perm_skip (some 84) rfl rfl rfl ?_; (try simp only [PU])
                  refine perm_skip (some 85) rfl rfl rfl ?_; (try simp only [PU])
                  refine perm_skip (some 86) rfl rfl rfl ?_; (try simp only [PU])
                  refine perm_skip (some 87) rfl rfl rfl ?_; (try simp only [PU])
                  refine perm_skip (some 88) rfl rfl rfl ?_; (try simp only [PU])
                  refine perm_skip (some 89) rfl rfl rfl ?_; (try simp only [PU])
                  refine perm_q (v := ?v2_10) (some 90) rfl rfl rfl ?q2_10 ?h2_10; (case q2_10 => (intro w' hS; skip; first | (go_simp; done) | (go_simp; rfl))); (try simp only [PU])
                  refine perm_nil ?_
                  go_wp2
                  go_ret2
                  refine ⟨?_, HKz.out⟩
                  rw [← HF.out]; rfl
                · have hdz : ((d : Int) == 0) = false := beq_eq_false_iff_ne.2 (by have := Hr.out.1.1 rfl; omega)
                  obtain ⟨hin4, hget4, hdrop4⟩ := drop_cons Hr4.out
                  rw [← Hn.out.1] at hin4
                  obtain ⟨b4, o4, hA4, hX4, hcell4⟩ := (HB.out.keep (X' := X) HK.out (fun _ _ _ => id) (fun _ _ h => h)).at (by omega)
                  have ci4 := hcell4 i4 hin4
                  rw [hget4] at ci4
                  unfold byteV at ci4
                  obtain ⟨-, hget2, hdrop2⟩ := drop_cons hdr2
                  have hE3 : (if ch4 = dh then neckF m dq q4 else Fr.bad) = F := hE2
                  obtain ⟨hsz, hix⟩ := str_at (T := ⟨#[13, 10, 13, 10]⟩) (show (bl ⟨#[13, 10, 13, 10]⟩).drop j = dh :: dq from hdr2)
                  obtain ⟨cw, hcw⟩ : ∃ x : Int, (ch4.toNat : Int) = x := ⟨_, rfl⟩
                  obtain ⟨dv, hdv⟩ : ∃ x : Int, (dh.toNat : Int) = x := ⟨_, rfl⟩
                  have Hne := Lib.hid (byte_ne hcw hdv)
                  rw [hcw] at ci4
                  rw [hdv] at hix
                  have HE2 := Lib.hid hE3
                  have Hdr := Lib.hid (And.intro hdrop4 hdrop2)
                  clear hcell4 hdr2 hget4 hget2 hdrop4 hdrop2 hE2 hE3 hcw hdv HE hX4
                  first | subst hA4 | (injection hA4 with hA5; injection hA5 with hA6 hA7; subst hA6; subst hA7)
                  go_wp2_with fail
                  refine wp_region_perm [(0, true), (1, true), (2, true), (3, true), (4, true), (5, true), (6, true), (7, true), (8, true), (9, true), (10, true)] (fun w' => w'.cell? ⟨b4, o4 + i4, none⟩ = some (.int .u8 cw)) rfl (by kernel_rfl) (by kernel_rfl) (by decide) (fun c a d v w h => by cases d <;> exact h) ci4 ?_
                  refine perm_q (v := ?v3_0) (some 80) rfl rfl rfl ?q3_0 ?h3_0; (case q3_0 => (intro w' hS; skip; first | (go_simp; done) | (go_simp; rfl))); (try simp only [PU])
                  refine perm_q (v := ?v3_1) (some 81) rfl rfl rfl ?q3_1 ?h3_1; (case q3_1 => (intro w' hS; skip; first | (go_simp; done) | (go_simp; rfl))); (try simp only [PU])
                  refine perm_q (v := ?v3_2) (some 82) rfl rfl rfl ?q3_2 ?h3_2; (case q3_2 => (intro w' hS; skip; first | (go_simp; done) | (go_simp; rfl))); (try simp only [PU])
                  refine perm_q (v := ?v3_3) (some 83) rfl rfl rfl ?q3_3 ?h3_3; (case q3_3 => (intro w' hS; skip; first | (go_simp; done) | (go_simp; rfl))); (try simp only [PU])
                  refine perm_q (v := ?v3_4) (some 84) rfl rfl rfl ?q3_4 ?h3_4; (case q3_4 => (intro w' hS; skip; first | (go_simp; done) | (go_simp; rfl))); (try simp only [PU])
                  refine perm_q (v := ?v3_5) (some 85) rfl rfl rfl ?q3_5 ?h3_5; (case q3_5 => (intro w' hS; skip; first | (go_simp; done) | (go_simp; rfl))); (try simp only [PU])
                  refine perm_q (v := ?v3_6) (some 86) rfl rfl rfl ?q3_6 ?h3_6; (case q3_6 => (intro w' hS; skip; first | (go_simp; done) | (go_simp; rfl))); (try simp only [PU])
                  refine perm_q (v := ?v3_7) (some 87) rfl rfl rfl ?q3_7 ?h3_7; (case q3_7 => (intro w' hS; skip; first | (go_simp; done) | (go_simp; rfl))); (try simp only [PU])
                  refine perm_q (v := ?v3_8) (some 88) rfl rfl rfl ?q3_8 ?h3_8; (case q3_8 => (intro w' hS; skip; first | (go_simp; done) | (go_simp; rfl))); (try simp only [PU])
                  refine perm_q (v := ?v3_9) (some 89) rfl rfl rfl ?q3_9 ?h3_9; (case q3_9 => (intro w' hS; skip; first | (go_simp; done) | (go_simp; rfl))); (try simp only [PU])
                  refine perm_q (v := ?v3_10) (some 90) rfl rfl rfl ?q3_10 ?h3_10; (case q3_10 => (intro w' hS; skip; first | (go_simp; done) | (go_simp; rfl))); (try simp only [PU])
                  refine perm_nil ?_
                  by_cases hcd : cw = dv
                  · subst hcd
                    have HE := Lib.hid (show neckA true m (neckB.drop (j + 1)) q4 = F by rw [Hdr.out.2, ← HE2.out, if_pos (Hne.out.2 rfl)]; rfl)
                    clear hix hsz
                    go_wp2
                    go_roundg (4 - j - 1)
                    case measure => omega
                    case rel => exact ⟨i4 + 1, j + 1, q4, by rfl, by rfl, by omega, by omega, by omega, Lib.hid Hdr.out.1, Lib.hid (fun h => by cases h), HE, Lib.hid HK.out.drew⟩
                  · have hcdb : (cw != dv) = true := bne_iff_ne.2 hcd
                    have HF := Lib.hid (show Fr.bad = F by rw [← HE2.out, if_neg (fun e => hcd (Hne.out.1 e))])
                    have HKz := Lib.hid HK.out.drew
                    clear hix hsz
                    go_wp2
                    go_ret2
                    refine ⟨?_, HKz.out⟩
                    rw [← HF.out]; rfl
            · obtain rfl : j = 4 := by omega
              cases any
              · exact absurd (Ha.out rfl) (by decide)
              · have HE2 := Lib.hid (show (if r.length < m then Fr.part else Fr.whole (r.take m) (r.drop m)) = F from HE.out)
                have HKz := HK
                have hmi2 : (m : Int) ≤ 1000000 := by omega
                have hi4i : (i4 : Int) ≤ 2000000000 := by omega
                have hi4n : (i4 : Int) ≤ (i : Int) := by omega
                clear HE
                by_cases hlt : r.length < m
                · have HF := Lib.hid (show Fr.part = F by rw [← HE2.out, if_pos hlt])
                  have hlti : (i : Int) - (i4 : Int) < (m : Int) := by omega
                  clear hlt
                  go_wp2
                  go_ret2
                  refine ⟨?_, HKz.out⟩
                  rw [← HF.out]; rfl
                · have HF := Lib.hid (show Fr.whole (r.take m) (r.drop m) = F by rw [← HE2.out, if_neg hlt])
                  have hlti : ¬ (i : Int) - (i4 : Int) < (m : Int) := by omega
                  obtain ⟨e4, he4⟩ : ∃ e, i4 + m = e := ⟨_, rfl⟩
                  have hcast : (i4 : Int) + (m : Int) = (e4 : Int) := by omega
                  have He4 := Lib.hid (show e4 - i4 = m ∧ i4 ≤ e4 ∧ e4 ≤ i ∧ e4 = i4 + m by omega)
                  have hsub := (HB.out.keep (X' := X) HKz.out (fun _ _ _ => id) (fun _ _ h => h)).sub_m (l := i4) (h := e4) He4.out.2.1 He4.out.2.2.1
                  rw [Hr4.out, He4.out.1] at hsub
                  have Hsub := Lib.hid hsub
                  have Hxl := Lib.hid (show (r.take m).length = m by rw [List.length_take]; omega)
                  clear hlt hsub he4
                  go_wp2_with (first
                    | ((with_reducible refine at_dst (N := 107) rfl ?_); go_must (refine ev_sub_m (l := i4) (h := e4) rfl rfl byteT38 rfl rfl rfl rfl He4.out.2.1 (by have := Hn.out.2; have := He4.out.2.2.1; omega) ?_; rw [He4.out.1]); (try simp only [PU]))
                  )
                  go_ret2
                  refine ⟨?_, HKz.out⟩
                  rw [← HF.out]
                  exact ⟨_, m, e4, by rw [Hxl.out]; rfl, by rw [Hxl.out]; exact Hsub.out, by rw [← Hn.out.1]; exact He4.out.2.2.1, by have := He4.out.2.2.2; omega, by rw [← Hr4.out, List.drop_drop, He4.out.2.2.2]⟩
        · obtain ⟨hin, hget, hdrop⟩ := drop_cons Hr.out.2.1
          rw [← Hn.out.1] at hin
          simp only [List.length_cons] at hi hl
          obtain ⟨b, o, rfl, hX, hcell⟩ := (HB.out.keep (X' := X) HK.out (fun _ _ _ => id) (fun _ _ h => h)).at (by omega)
          have ci := hcell i hin
          rw [hget] at ci
          unfold byteV at ci
          have hini : (i : Int) < n := by omega
          obtain ⟨cv, hcv⟩ : ∃ x : Int, (ch.toNat : Int) = x := ⟨_, rfl⟩
          have hcb : 0 ≤ cv ∧ cv ≤ 255 := by have := ch.toNat_lt; omega
          rcases hdg : isDigit ch with _ | _
          · have hrange := notdig ch hdg
            rw [hcv] at ci hrange
            have HE4 := Lib.hid (show neckA any m (neckB.drop 0) (s.drop i) = F by rw [← HE.out, Hr.out.2.1]; unfold sizeF neckA; rw [hdg]; rfl)
            have hin : i ≤ n := by omega
            clear hi hl HE hget hdrop hcell hdg hcv hX
            rcases hrange with hr | hr
            · skip
              have HK4 := HK
              have hd0 : 0 ≤ d := Nat.zero_le _
              have Hdi := Lib.hid (show i + (s.drop i).length = n by rw [List.length_drop]; have := Hn.out; omega)
              clear HK
              go_wp2
              rename World => w4
              go_loopg [4, 7] 4 (fun K atv jv wr => ∃ (p j : Nat) (r : Bs), atv = .int .i64 p ∧ jv = .int .i64 j ∧ j + K = 4 ∧ p + r.length = n ∧ 8 ≤ p ∧ Hid (s.drop p = r) ∧ Hid (any = false → j = 0) ∧ Hid (neckA any m (neckB.drop j) r = F) ∧ Hid (Keeps Nob W wr))
              case atStart => exact ⟨i, 0, s.drop i, rfl, rfl, rfl, Hdi.out, hi8, Lib.hid rfl, Lib.hid (fun _ => rfl), HE4, HK4⟩
              case round =>
                obtain ⟨i4, j, r, rfl, rfl, hK, hi4, hi48, Hr4, Ha, HE, HK⟩ := hrel
                by_cases h4 : j < 4
                · rcases r with _ | ⟨ch4, q4⟩
                  · have hge : (n : Int) ≤ (i4 : Int) := by simp only [List.length_nil] at hi4; omega
                    have HF := Lib.hid (show Fr.part = F by
                      rw [← HE.out, List.drop_eq_getElem_cons (show j < neckB.length from h4)]
                      cases any <;> rfl)
                    have HKz := HK
                    clear HE
                    go_wp2
                    go_ret2
                    refine ⟨?_, HKz.out⟩
                    rw [← HF.out]; rfl
                  · simp only [List.length_cons] at hi4
                    have hge : ¬ (n : Int) ≤ (i4 : Int) := by omega
                    obtain ⟨dh, dq, hdr2⟩ : ∃ ch q, neckB.drop j = ch :: q := ⟨_, _, List.drop_eq_getElem_cons (show j < neckB.length from h4)⟩
                    have hE2 := HE.out
                    rw [hdr2] at hE2
                    cases any
                    · have hdz : ((d : Int) == 0) = true := beq_iff_eq.2 (by have h' : ¬ 0 < d := (fun h => Bool.noConfusion (Hr.out.1.2 h)); omega)
                      have HF := Lib.hid (show Fr.bad = F from hE2)
                      have HKz := Lib.hid HK.out.drew
                      clear HE hE2
                      go_wp2_with fail
                      refine wp_region_perm [(0, true), (1, true), (2, true), (3, true), (4, true), (5, true), (6, true), (7, true), (8, true), (9, true), (10, true)] (fun w' => True) rfl (by kernel_rfl) (by kernel_rfl) (by decide) (fun c a d v w h => by cases d <;> exact h) trivial ?_
                      refine perm_q (v := ?v4_0) (some 80) rfl rfl rfl ?q4_0 ?h4_0; (case q4_0 => (intro w' hS; skip; first | (go_simp; done) | (go_simp; rfl))); (try simp only [PU])
                      refine perm_q (v := ?v4_1) (some 81) rfl rfl rfl ?q4_1 ?h4_1; (case q4_1 => (intro w' hS; skip; first | (go_simp; done) | (go_simp; rfl))); (try simp only [PU])
                      refine perm_q (v := ?v4_2) (some 82) rfl rfl rfl ?q4_2 ?h4_2; (case q4_2 => (intro w' hS; skip; first | (go_simp; done) | (go_simp; rfl))); (try simp only [PU])
                      refine perm_skip (some 83) rfl rfl rfl ?_; (try simp only [PU])
                      refine perm_skip (some 84) rfl rfl rfl ?_; (try simp only [PU])
                      refine perm_skip (some 85) rfl rfl rfl ?_; (try simp only [PU])
                      refine perm_skip (some 86) rfl rfl rfl ?_; (try simp only [PU])
                      refine perm_skip (some 87) rfl rfl rfl ?_; (try simp only [PU])
                      refine perm_skip (some 88) rfl rfl rfl ?_; (try simp only [PU])
                      refine perm_skip (some 89) rfl rfl rfl ?_; (try simp only [PU])
                      refine perm_q (v := ?v4_10) (some 90) rfl rfl rfl ?q4_10 ?h4_10; (case q4_10 => (intro w' hS; skip; first | (go_simp; done) | (go_simp; rfl))); (try simp only [PU])
                      refine perm_nil ?_
                      go_wp2
                      go_ret2
                      refine ⟨?_, HKz.out⟩
                      rw [← HF.out]; rfl
                    · have hdz : ((d : Int) == 0) = false := beq_eq_false_iff_ne.2 (by have := Hr.out.1.1 rfl; omega)
                      obtain ⟨hin4, hget4, hdrop4⟩ := drop_cons Hr4.out
                      rw [← Hn.out.1] at hin4
                      obtain ⟨b4, o4, hA4, hX4, hcell4⟩ := (HB.out.keep (X' := X) HK.out (fun _ _ _ => id) (fun _ _ h => h)).at (by omega)
                      have ci4 := hcell4 i4 hin4
                      rw [hget4] at ci4
                      unfold byteV at ci4
                      obtain ⟨-, hget2, hdrop2⟩ := drop_cons hdr2
                      have hE3 : (if ch4 = dh then neckF m dq q4 else Fr.bad) = F := hE2
                      obtain ⟨hsz, hix⟩ := str_at (T := ⟨#[13, 10, 13, 10]⟩) (show (bl ⟨#[13, 10, 13, 10]⟩).drop j = dh :: dq from hdr2)
                      obtain ⟨cw, hcw⟩ : ∃ x : Int, (ch4.toNat : Int) = x := ⟨_, rfl⟩
                      obtain ⟨dv, hdv⟩ : ∃ x : Int, (dh.toNat : Int) = x := ⟨_, rfl⟩
                      have Hne := Lib.hid (byte_ne hcw hdv)
                      rw [hcw] at ci4
                      rw [hdv] at hix
                      have HE2 := Lib.hid hE3
                      have Hdr := Lib.hid (And.intro hdrop4 hdrop2)
                      clear hcell4 hdr2 hget4 hget2 hdrop4 hdrop2 hE2 hE3 hcw hdv HE hX4
                      first | subst hA4 | (injection hA4 with hA5; injection hA5 with hA6 hA7; subst hA6; subst hA7)
                      go_wp2_with fail
                      refine wp_region_perm [(0, true), (1, true), (2, true), (3, true), (4, true), (5, true), (6, true), (7, true), (8, true), (9, true), (10, true)] (fun w' => w'.cell? ⟨b, o + i4, none⟩ = some (.int .u8 cw)) rfl (by kernel_rfl) (by kernel_rfl) (by decide) (fun c a d v w h => by cases d <;> exact h) ci4 ?_
                      refine perm_q (v := ?v5_0) (some 80) rfl rfl rfl ?q5_0 ?h5_0; (case q5_0 => (intro w' hS; skip; first | (go_simp; done) | (go_simp; rfl))); (try simp only [PU])
                      refine perm_q (v := ?v5_1) (some 81) rfl rfl rfl ?q5_1 ?h5_1; (case q5_1 => (intro w' hS; skip; first | (go_simp; done) | (go_simp; rfl))); (try simp only [PU])
                      refine perm_q (v := ?v5_2) (some 82) rfl rfl rfl ?q5_2 ?h5_2; (case q5_2 => (intro w' hS; skip; first | (go_simp; done) | (go_simp; rfl))); (try simp only [PU])
                      refine perm_q (v := ?v5_3) (some 83) rfl rfl rfl ?q5_3 ?h5_3; (case q5_3 => (intro w' hS; skip; first | (go_simp; done) | (go_simp; rfl))); (try simp only [PU])
                      refine perm_q (v := ?v5_4) (some 84) rfl rfl rfl ?q5_4 ?h5_4; (case q5_4 => (intro w' hS; skip; first | (go_simp; done) | (go_simp; rfl))); (try simp only [PU])
                      refine perm_q (v := ?v5_5) (some 85) rfl rfl rfl ?q5_5 ?h5_5; (case q5_5 => (intro w' hS; skip; first | (go_simp; done) | (go_simp; rfl))); (try simp only [PU])
                      refine perm_q (v := ?v5_6) (some 86) rfl rfl rfl ?q5_6 ?h5_6; (case q5_6 => (intro w' hS; skip; first | (go_simp; done) | (go_simp; rfl))); (try simp only [PU])
                      refine perm_q (v := ?v5_7) (some 87) rfl rfl rfl ?q5_7 ?h5_7; (case q5_7 => (intro w' hS; skip; first | (go_simp; done) | (go_simp; rfl))); (try simp only [PU])
                      refine perm_q (v := ?v5_8) (some 88) rfl rfl rfl ?q5_8 ?h5_8; (case q5_8 => (intro w' hS; skip; first | (go_simp; done) | (go_simp; rfl))); (try simp only [PU])
                      refine perm_q (v := ?v5_9) (some 89) rfl rfl rfl ?q5_9 ?h5_9; (case q5_9 => (intro w' hS; skip; first | (go_simp; done) | (go_simp; rfl))); (try simp only [PU])
                      refine perm_q (v := ?v5_10) (some 90) rfl rfl rfl ?q5_10 ?h5_10; (case q5_10 => (intro w' hS; skip; first | (go_simp; done) | (go_simp; rfl))); (try simp only [PU])
                      refine perm_nil ?_
                      by_cases hcd : cw = dv
                      · subst hcd
                        have HE := Lib.hid (show neckA true m (neckB.drop (j + 1)) q4 = F by rw [Hdr.out.2, ← HE2.out, if_pos (Hne.out.2 rfl)]; rfl)
                        clear hix hsz
                        go_wp2
                        go_roundg (4 - j - 1)
                        case measure => omega
                        case rel => exact ⟨i4 + 1, j + 1, q4, by rfl, by rfl, by omega, by omega, by omega, Lib.hid Hdr.out.1, Lib.hid (fun h => by cases h), HE, Lib.hid HK.out.drew⟩
                      · have hcdb : (cw != dv) = true := bne_iff_ne.2 hcd
                        have HF := Lib.hid (show Fr.bad = F by rw [← HE2.out, if_neg (fun e => hcd (Hne.out.1 e))])
                        have HKz := Lib.hid HK.out.drew
                        clear hix hsz
                        go_wp2
                        go_ret2
                        refine ⟨?_, HKz.out⟩
                        rw [← HF.out]; rfl
                · obtain rfl : j = 4 := by omega
                  cases any
                  · exact absurd (Ha.out rfl) (by decide)
                  · have HE2 := Lib.hid (show (if r.length < m then Fr.part else Fr.whole (r.take m) (r.drop m)) = F from HE.out)
                    have HKz := HK
                    have hmi2 : (m : Int) ≤ 1000000 := by omega
                    have hi4i : (i4 : Int) ≤ 2000000000 := by omega
                    have hi4n : (i4 : Int) ≤ (n : Int) := by omega
                    clear HE
                    by_cases hlt : r.length < m
                    · have HF := Lib.hid (show Fr.part = F by rw [← HE2.out, if_pos hlt])
                      have hlti : (n : Int) - (i4 : Int) < (m : Int) := by omega
                      clear hlt
                      go_wp2
                      go_ret2
                      refine ⟨?_, HKz.out⟩
                      rw [← HF.out]; rfl
                    · have HF := Lib.hid (show Fr.whole (r.take m) (r.drop m) = F by rw [← HE2.out, if_neg hlt])
                      have hlti : ¬ (n : Int) - (i4 : Int) < (m : Int) := by omega
                      obtain ⟨e4, he4⟩ : ∃ e, i4 + m = e := ⟨_, rfl⟩
                      have hcast : (i4 : Int) + (m : Int) = (e4 : Int) := by omega
                      have He4 := Lib.hid (show e4 - i4 = m ∧ i4 ≤ e4 ∧ e4 ≤ n ∧ e4 = i4 + m by omega)
                      have hsub := (HB.out.keep (X' := X) HKz.out (fun _ _ _ => id) (fun _ _ h => h)).sub_m (l := i4) (h := e4) He4.out.2.1 He4.out.2.2.1
                      rw [Hr4.out, He4.out.1] at hsub
                      have Hsub := Lib.hid hsub
                      have Hxl := Lib.hid (show (r.take m).length = m by rw [List.length_take]; omega)
                      clear hlt hsub he4
                      go_wp2_with (first
                        | ((with_reducible refine at_dst (N := 107) rfl ?_); go_must (refine ev_sub_m (l := i4) (h := e4) rfl rfl byteT38 rfl rfl rfl rfl He4.out.2.1 (by have := Hn.out.2; have := He4.out.2.2.1; omega) ?_; rw [He4.out.1]); (try simp only [PU]))
                      )
                      go_ret2
                      refine ⟨?_, HKz.out⟩
                      rw [← HF.out]
                      exact ⟨_, m, e4, by rw [Hxl.out]; rfl, by rw [Hxl.out]; exact Hsub.out, by rw [← Hn.out.1]; exact He4.out.2.2.1, by have := He4.out.2.2.2; omega, by rw [← Hr4.out, List.drop_drop, He4.out.2.2.2]⟩
            · skip
              have HK4 := HK
              have hd0 : 0 ≤ d := Nat.zero_le _
              have Hdi := Lib.hid (show i + (s.drop i).length = n by rw [List.length_drop]; have := Hn.out; omega)
              clear HK
              go_wp2
              rename World => w4
              go_loopg [4, 7] 4 (fun K atv jv wr => ∃ (p j : Nat) (r : Bs), atv = .int .i64 p ∧ jv = .int .i64 j ∧ j + K = 4 ∧ p + r.length = n ∧ 8 ≤ p ∧ Hid (s.drop p = r) ∧ Hid (any = false → j = 0) ∧ Hid (neckA any m (neckB.drop j) r = F) ∧ Hid (Keeps Nob W wr))
              case atStart => exact ⟨i, 0, s.drop i, rfl, rfl, rfl, Hdi.out, hi8, Lib.hid rfl, Lib.hid (fun _ => rfl), HE4, HK4⟩
              case round =>
                obtain ⟨i4, j, r, rfl, rfl, hK, hi4, hi48, Hr4, Ha, HE, HK⟩ := hrel
                by_cases h4 : j < 4
                · rcases r with _ | ⟨ch4, q4⟩
                  · have hge : (n : Int) ≤ (i4 : Int) := by simp only [List.length_nil] at hi4; omega
                    have HF := Lib.hid (show Fr.part = F by
                      rw [← HE.out, List.drop_eq_getElem_cons (show j < neckB.length from h4)]
                      cases any <;> rfl)
                    have HKz := HK
                    clear HE
                    go_wp2
                    go_ret2
                    refine ⟨?_, HKz.out⟩
                    rw [← HF.out]; rfl
                  · simp only [List.length_cons] at hi4
                    have hge : ¬ (n : Int) ≤ (i4 : Int) := by omega
                    obtain ⟨dh, dq, hdr2⟩ : ∃ ch q, neckB.drop j = ch :: q := ⟨_, _, List.drop_eq_getElem_cons (show j < neckB.length from h4)⟩
                    have hE2 := HE.out
                    rw [hdr2] at hE2
                    cases any
                    · have hdz : ((d : Int) == 0) = true := beq_iff_eq.2 (by have h' : ¬ 0 < d := (fun h => Bool.noConfusion (Hr.out.1.2 h)); omega)
                      have HF := Lib.hid (show Fr.bad = F from hE2)
                      have HKz := Lib.hid HK.out.drew
                      clear HE hE2
                      go_wp2_with fail
                      refine wp_region_perm [(0, true), (1, true), (2, true), (3, true), (4, true), (5, true), (6, true), (7, true), (8, true), (9, true), (10, true)] (fun w' => True) rfl (by kernel_rfl) (by kernel_rfl) (by decide) (fun c a d v w h => by cases d <;> exact h) trivial ?_
                      refine perm_q (v := ?v6_0) (some 80) rfl rfl rfl ?q6_0 ?h6_0; (case q6_0 => (intro w' hS; skip; first | (go_simp; done) | (go_simp; rfl))); (try simp only [PU])
                      refine perm_q (v := ?v6_1) (some 81) rfl rfl rfl ?q6_1 ?h6_1; (case q6_1 => (intro w' hS; skip; first | (go_simp; done) | (go_simp; rfl))); (try simp only [PU])
                      refine perm_q (v := ?v6_2) (some 82) rfl rfl rfl ?q6_2 ?h6_2; (case q6_2 => (intro w' hS; skip; first | (go_simp; done) | (go_simp; rfl))); (try simp only [PU])
                      refine perm_skip (some 83) rfl rfl rfl ?_; (try simp only [PU])
                      refine perm_skip (some 84) rfl rfl rfl ?_; (try simp only [PU])
                      refine perm_skip (some 85) rfl rfl rfl ?_; (try simp only [PU])
                      refine perm_skip (some 86) rfl rfl rfl ?_; (try simp only [PU])
                      refine perm_skip (some 87) rfl rfl rfl ?_; (try simp only [PU])
                      refine perm_skip (some 88) rfl rfl rfl ?_; (try simp only [PU])
                      refine perm_skip (some 89) rfl rfl rfl ?_; (try simp only [PU])
                      refine perm_q (v := ?v6_10) (some 90) rfl rfl rfl ?q6_10 ?h6_10; (case q6_10 => (intro w' hS; skip; first | (go_simp; done) | (go_simp; rfl))); (try simp only [PU])
                      refine perm_nil ?_
                      go_wp2
                      go_ret2
                      refine ⟨?_, HKz.out⟩
                      rw [← HF.out]; rfl
                    · have hdz : ((d : Int) == 0) = false := beq_eq_false_iff_ne.2 (by have := Hr.out.1.1 rfl; omega)
                      obtain ⟨hin4, hget4, hdrop4⟩ := drop_cons Hr4.out
                      rw [← Hn.out.1] at hin4
                      obtain ⟨b4, o4, hA4, hX4, hcell4⟩ := (HB.out.keep (X' := X) HK.out (fun _ _ _ => id) (fun _ _ h => h)).at (by omega)
                      have ci4 := hcell4 i4 hin4
                      rw [hget4] at ci4
                      unfold byteV at ci4
                      obtain ⟨-, hget2, hdrop2⟩ := drop_cons hdr2
                      have hE3 : (if ch4 = dh then neckF m dq q4 else Fr.bad) = F := hE2
                      obtain ⟨hsz, hix⟩ := str_at (T := ⟨#[13, 10, 13, 10]⟩) (show (bl ⟨#[13, 10, 13, 10]⟩).drop j = dh :: dq from hdr2)
                      obtain ⟨cw, hcw⟩ : ∃ x : Int, (ch4.toNat : Int) = x := ⟨_, rfl⟩
                      obtain ⟨dv, hdv⟩ : ∃ x : Int, (dh.toNat : Int) = x := ⟨_, rfl⟩
                      have Hne := Lib.hid (byte_ne hcw hdv)
                      rw [hcw] at ci4
                      rw [hdv] at hix
                      have HE2 := Lib.hid hE3
                      have Hdr := Lib.hid (And.intro hdrop4 hdrop2)
                      clear hcell4 hdr2 hget4 hget2 hdrop4 hdrop2 hE2 hE3 hcw hdv HE hX4
                      first | subst hA4 | (injection hA4 with hA5; injection hA5 with hA6 hA7; subst hA6; subst hA7)
                      go_wp2_with fail
                      refine wp_region_perm [(0, true), (1, true), (2, true), (3, true), (4, true), (5, true), (6, true), (7, true), (8, true), (9, true), (10, true)] (fun w' => w'.cell? ⟨b, o + i4, none⟩ = some (.int .u8 cw)) rfl (by kernel_rfl) (by kernel_rfl) (by decide) (fun c a d v w h => by cases d <;> exact h) ci4 ?_
                      refine perm_q (v := ?v7_0) (some 80) rfl rfl rfl ?q7_0 ?h7_0; (case q7_0 => (intro w' hS; skip; first | (go_simp; done) | (go_simp; rfl))); (try simp only [PU])
                      refine perm_q (v := ?v7_1) (some 81) rfl rfl rfl ?q7_1 ?h7_1; (case q7_1 => (intro w' hS; skip; first | (go_simp; done) | (go_simp; rfl))); (try simp only [PU])
                      refine perm_q (v := ?v7_2) (some 82) rfl rfl rfl ?q7_2 ?h7_2; (case q7_2 => (intro w' hS; skip; first | (go_simp; done) | (go_simp; rfl))); (try simp only [PU])
                      refine perm_q (v := ?v7_3) (some 83) rfl rfl rfl ?q7_3 ?h7_3; (case q7_3 => (intro w' hS; skip; first | (go_simp; done) | (go_simp; rfl))); (try simp only [PU])
                      refine perm_q (v := ?v7_4) (some 84) rfl rfl rfl ?q7_4 ?h7_4; (case q7_4 => (intro w' hS; skip; first | (go_simp; done) | (go_simp; rfl))); (try simp only [PU])
                      refine perm_q (v := ?v7_5) (some 85) rfl rfl rfl ?q7_5 ?h7_5; (case q7_5 => (intro w' hS; skip; first | (go_simp; done) | (go_simp; rfl))); (try simp only [PU])
                      refine perm_q (v := ?v7_6) (some 86) rfl rfl rfl ?q7_6 ?h7_6; (case q7_6 => (intro w' hS; skip; first | (go_simp; done) | (go_simp; rfl))); (try simp only [PU])
                      refine perm_q (v := ?v7_7) (some 87) rfl rfl rfl ?q7_7 ?h7_7; (case q7_7 => (intro w' hS; skip; first | (go_simp; done) | (go_simp; rfl))); (try simp only [PU])
                      refine perm_q (v := ?v7_8) (some 88) rfl rfl rfl ?q7_8 ?h7_8; (case q7_8 => (intro w' hS; skip; first | (go_simp; done) | (go_simp; rfl))); (try simp only [PU])
                      refine perm_q (v := ?v7_9) (some 89) rfl rfl rfl ?q7_9 ?h7_9; (case q7_9 => (intro w' hS; skip; first | (go_simp; done) | (go_simp; rfl))); (try simp only [PU])
                      refine perm_q (v := ?v7_10) (some 90) rfl rfl rfl ?q7_10 ?h7_10; (case q7_10 => (intro w' hS; skip; first | (go_simp; done) | (go_simp; rfl))); (try simp only [PU])
                      refine perm_nil ?_
                      by_cases hcd : cw = dv
                      · subst hcd
                        have HE := Lib.hid (show neckA true m (neckB.drop (j + 1)) q4 = F by rw [Hdr.out.2, ← HE2.out, if_pos (Hne.out.2 rfl)]; rfl)
                        clear hix hsz
                        go_wp2
                        go_roundg (4 - j - 1)
                        case measure => omega
                        case rel => exact ⟨i4 + 1, j + 1, q4, by rfl, by rfl, by omega, by omega, by omega, Lib.hid Hdr.out.1, Lib.hid (fun h => by cases h), HE, Lib.hid HK.out.drew⟩
                      · have hcdb : (cw != dv) = true := bne_iff_ne.2 hcd
                        have HF := Lib.hid (show Fr.bad = F by rw [← HE2.out, if_neg (fun e => hcd (Hne.out.1 e))])
                        have HKz := Lib.hid HK.out.drew
                        clear hix hsz
                        go_wp2
                        go_ret2
                        refine ⟨?_, HKz.out⟩
                        rw [← HF.out]; rfl
                · obtain rfl : j = 4 := by omega
                  cases any
                  · exact absurd (Ha.out rfl) (by decide)
                  · have HE2 := Lib.hid (show (if r.length < m then Fr.part else Fr.whole (r.take m) (r.drop m)) = F from HE.out)
                    have HKz := HK
                    have hmi2 : (m : Int) ≤ 1000000 := by omega
                    have hi4i : (i4 : Int) ≤ 2000000000 := by omega
                    have hi4n : (i4 : Int) ≤ (n : Int) := by omega
                    clear HE
                    by_cases hlt : r.length < m
                    · have HF := Lib.hid (show Fr.part = F by rw [← HE2.out, if_pos hlt])
                      have hlti : (n : Int) - (i4 : Int) < (m : Int) := by omega
                      clear hlt
                      go_wp2
                      go_ret2
                      refine ⟨?_, HKz.out⟩
                      rw [← HF.out]; rfl
                    · have HF := Lib.hid (show Fr.whole (r.take m) (r.drop m) = F by rw [← HE2.out, if_neg hlt])
                      have hlti : ¬ (n : Int) - (i4 : Int) < (m : Int) := by omega
                      obtain ⟨e4, he4⟩ : ∃ e, i4 + m = e := ⟨_, rfl⟩
                      have hcast : (i4 : Int) + (m : Int) = (e4 : Int) := by omega
                      have He4 := Lib.hid (show e4 - i4 = m ∧ i4 ≤ e4 ∧ e4 ≤ n ∧ e4 = i4 + m by omega)
                      have hsub := (HB.out.keep (X' := X) HKz.out (fun _ _ _ => id) (fun _ _ h => h)).sub_m (l := i4) (h := e4) He4.out.2.1 He4.out.2.2.1
                      rw [Hr4.out, He4.out.1] at hsub
                      have Hsub := Lib.hid hsub
                      have Hxl := Lib.hid (show (r.take m).length = m by rw [List.length_take]; omega)
                      clear hlt hsub he4
                      go_wp2_with (first
                        | ((with_reducible refine at_dst (N := 107) rfl ?_); go_must (refine ev_sub_m (l := i4) (h := e4) rfl rfl byteT38 rfl rfl rfl rfl He4.out.2.1 (by have := Hn.out.2; have := He4.out.2.2.1; omega) ?_; rw [He4.out.1]); (try simp only [PU]))
                      )
                      go_ret2
                      refine ⟨?_, HKz.out⟩
                      rw [← HF.out]
                      exact ⟨_, m, e4, by rw [Hxl.out]; rfl, by rw [Hxl.out]; exact Hsub.out, by rw [← Hn.out.1]; exact He4.out.2.2.1, by have := He4.out.2.2.2; omega, by rw [← Hr4.out, List.drop_drop, He4.out.2.2.2]⟩
          · obtain ⟨hd0, hd1, hd2⟩ := dig_int ch hdg
            rw [hcv] at ci hd0 hd1 hd2
            have HS := Lib.hid (show (if (any = true ∧ m = 0) ∨ 1000000 < m * 10 + digB ch then Fr.bad else sizeF true (m * 10 + digB ch) q) = F by rw [← HE.out]; conv => rhs; unfold sizeF; rw [if_pos hdg])
            have Hd := Lib.hid (show ((m * 10 + digB ch : Nat) : Int) = 10 * (m : Int) + (cv - 48) by have := hd2; omega)
            have Hq := Lib.hid (And.intro hget hdrop)
            have hmi : (m : Int) ≤ 1000000 := by omega
            have hdi : (d : Int) ≤ 2000000000 := by omega
            have HKz := HK
            clear hget hdrop hcell hdg hcv hX hd2 HE
            by_cases hmx : 1000000 < 10 * (m : Int) + (cv - 48)
            · have HF := Lib.hid (show Fr.bad = F by rw [← HS.out, if_pos (.inr (by have := Hd.out; omega))])
              by_cases h0 : any = true ∧ m = 0
              · exfalso; omega
              · cases any
                · have hdp : ¬ (0 : Int) < (d : Int) := by have := Hr.out.1; intro h; have := this.2 (by omega); cases this
                  go_wp2
                  go_ret2
                  refine ⟨?_, HKz.out⟩
                  rw [← HF.out]; rfl
                · have hdp : (0 : Int) < (d : Int) := by have := Hr.out.1.1 rfl; omega
                  have hmz : ((m : Int) == 0) = false := beq_eq_false_iff_ne.2 (by have : ¬ m = 0 := fun e => h0 ⟨rfl, e⟩; omega)
                  go_wp2
                  go_ret2
                  refine ⟨?_, HKz.out⟩
                  rw [← HF.out]; rfl
            · by_cases h0 : any = true ∧ m = 0
              · have HF := Lib.hid (show Fr.bad = F by rw [← HS.out, if_pos (.inl h0)])
                have hdp : (0 : Int) < (d : Int) := by have := Hr.out.1.1 h0.1; omega
                obtain ⟨ha, rfl⟩ := h0
                go_wp2
                go_ret2
                refine ⟨?_, HKz.out⟩
                rw [← HF.out]; rfl
              · have HR := Lib.hid (show sizeF true (m * 10 + digB ch) q = F by rw [← HS.out, if_neg (by have := Hd.out; simp only [not_or]; exact ⟨h0, by omega⟩)])
                cases any
                · have hdp : ¬ (0 : Int) < (d : Int) := by have := Hr.out.1; intro h; have := this.2 (by omega); cases this
                  go_wp2
                  go_roundg (n - i - 1)
                  case measure => omega
                  case rel => exact ⟨i + 1, m * 10 + digB ch, d + 1, true, q, by rfl, by rw [Hd.out], by rfl, by omega, by omega, by have := Hd.out; omega, by omega, by omega, Lib.hid ⟨by simp, Hq.out.2, by simp⟩, HR, HK⟩
                · have hdp : (0 : Int) < (d : Int) := by have := Hr.out.1.1 rfl; omega
                  have hmz : ((m : Int) == 0) = false := beq_eq_false_iff_ne.2 (by have : ¬ m = 0 := fun e => h0 ⟨rfl, e⟩; omega)
                  go_wp2
                  go_roundg (n - i - 1)
                  case measure => omega
                  case rel => exact ⟨i + 1, m * 10 + digB ch, d + 1, true, q, by rfl, by rw [Hd.out], by rfl, by omega, by omega, by have := Hd.out; omega, by omega, by omega, Lib.hid ⟨by simp, Hq.out.2, by simp⟩, HR, HK⟩
end Go.Proofs.WV

/-
  Frame and Feed by the specification, in memory. Condition: at most a million bytes; the standard library's table of powers lies.
-/
namespace Go.Proofs.WV
open Go.RowKit Go.Proofs.KL Go.Proofs.WM
set_option maxRecDepth 100000
set_option linter.unusedSimpArgs false
set_option linter.unusedVariables false

set_option maxHeartbeats 4000000 in
theorem rframe26 {W : World} {X : Nat → Prop} {B : Option Addr} {m d : Nat} {bs : Bs} (ht : Tab W W.heap.size) (hb : BytesX W X (.slice B m d) bs) (hm : m ≤ 1000000) :
    Calls Tryd.prog 26 #[.slice B m d] W (NewB W (frameOf bs)) := by
  have hlen := hb.len.1
  have h56 := fun W => itoa56 (w := W) (base := W.heap.size) (n := m)
  obtain ⟨Z, hZ⟩ : ∃ Z, mkB (Lib.itoa m) = Z := ⟨_, rfl⟩
  have hZs : Z.size ≤ 20 := by
    rw [← hZ]
    have := itoa_len (n := (m : Int)) (by omega)
    show (Lib.itoa m).length ≤ 20
    omega
  have hZi : (Z.size : Int) ≤ 20 := by omega
  have hs1 : (({ data := #[76, 101, 110, 103, 116, 104, 58, 32] } : ByteArray) ++ Z).size = 8 + Z.size := by rw [ByteArray.size_append]; rfl
  have Hst := Lib.hid (show bl ((({ data := #[76, 101, 110, 103, 116, 104, 58, 32] } : ByteArray) ++ Z) ++ { data := #[13, 10, 13, 10] }) ++ bs = frameOf bs by
    unfold frameOf
    rw [← hlen, ← hZ]
    simp [bl, mkB, beginB, neckB, ByteArray.data_append])
  have Hst2 := Lib.hid (show ((({ data := #[76, 101, 110, 103, 116, 104, 58, 32] } : ByteArray) ++ Z) ++ { data := #[13, 10, 13, 10] }).size ≤ 40 by
    rw [ByteArray.size_append, hs1]
    show 8 + Z.size + 4 ≤ 40
    omega)
  have H56 := Lib.hid (h56 W ht hm)
  rw [hZ] at H56
  have HB := Lib.hid hb
  have Hm := Lib.hid hm
  have Hlen := Lib.hid hlen
  clear h56 hZ hlen hb hm ht
  go_enter Tryd.func26, Tryd.ntmps26
  go_wp2_with (first
    | (go_at_call 56; go_must (refine H56.out.mono ?_; rintro e w1 ⟨rfl, hk1⟩)
       have HK := Lib.hid hk1
       clear hk1
       (try simp only [PU]))
    | ((with_reducible refine at_dst (N := 8) rfl ?_)
       generalize hst : ((({ data := #[76, 101, 110, 103, 116, 104, 58, 32] } : ByteArray) ++ Z) ++ { data := #[13, 10, 13, 10] }) = st at *
       go_must (refine ev_conv_sb rfl rfl Tryd.underlying9 byteT38 Tryd.underlying5 rfl (base := W.heap.size) HK.out.size (by have := Hst2.out; unfold maxLen; omega) ?_; intro v' wc ho hk2 hnew; obtain ⟨oA, oc, hv'⟩ := ho.slice; subst hv')
       have HO := Lib.hid ho
       have HK := Lib.hid (HK.out.trans hk2 (fun _ _ h => h))
       clear ho hk2 hnew hst
       (try simp only [PU]))
    | ((with_reducible refine at_dst (N := 10) rfl ?_); go_must (refine ev_app_sl rfl rfl byteT38 (base := W.heap.size) rfl HO.out rfl (news := bs) Hlen.out.symm (HB.out.keep (X' := X) HK.out (fun _ _ _ => id) (fun _ _ h => h)).news (by have := Hst2.out; have := Hm.out; rw [bl_len]; omega) HK.out.size ?_; intro v' w2 ho2 ha2; obtain ⟨nA, nc, hv'⟩ := ho2.slice; subst hv')
       have HO2 := Lib.hid ho2
       have HK2 := Lib.hid (HK.out.trans ha2.keep (fun i hi e => by have := (HO.out.lt i e.symm).1; omega))
       clear ho2 ha2
       (try simp only [PU]))
  )
  go_ret
  rw [← Hst.out]
  exact ⟨⟨_, rfl, HO2.out⟩, HK2.out⟩
/-- A reader of the specification's: what waits, in the block kb. -/
def RfX (W : World) (rb : Nat) (kb : Option Nat) (waits : Bs) (dead : Bool) : Prop :=
  ∃ A n c, W.heap[rb]? = some (.cells #[.slice A n c, .bool dead] 55 (0, 0)) ∧ BytesX W (fun b => some b = kb) (.slice A n c) waits
theorem RfX.keep {M : Nat → Prop} {W W' : World} {rb : Nat} {kb : Option Nat} {waits : Bs} {dead : Bool} (h : RfX W rb kb waits dead) (hk : Keeps M W W') (hr : ¬ M rb) (hb : ∀ b, some b = kb → ¬ M b) : RfX W' rb kb waits dead := by
  obtain ⟨A, n, c, hblk, hx⟩ := h
  exact ⟨A, n, c, hk.blk hblk hr, hx.keep hk (fun b _ hx => hb b hx) (fun _ _ h => h)⟩
/-- What the specification's Feed comes to. -/
def RFeedEnd (W0 : World) (rb : Nat) (F : Fed) (e : Ending) (w' : World) : Prop :=
  (∃ ov, e = .returned (.tuple #[ov, .int .i64 (if F.dead = true then 4 else 0)]) ∧ OwnL w' W0.heap.size ov F.out) ∧ (∃ kb, (∀ b, kb = some b → W0.heap.size ≤ b ∧ b < w'.heap.size) ∧ RfX w' rb kb F.waits F.dead) ∧ Keeps (· = rb) W0 w'
theorem feedF_fr (f : Nat) (out : List Bs) (w : Bs) : feedF (f + 1) out w = match frameB w with
    | .bad => ⟨out, [], true⟩
    | .part => ⟨out, w, false⟩
    | .whole x r => feedF f (out ++ [x]) r := by
  (conv => lhs; unfold feedF) <;> (cases frameB w <;> rfl)
theorem rfeed_dead {rb : Nat} {kb : Option Nat} {ws : Bs} {W : World} (v : Value) (h : RfX W rb kb ws true) : Calls Tryd.prog 28 #[.pointer (some ⟨rb, 0, none⟩), v] W (NoFeed W 8) := by
  obtain ⟨A, n, c, hblk, -⟩ := h
  have c1 : W.cell? ⟨rb, 1, none⟩ = some (.bool true) := (blk_cell hblk 1).trans rfl
  clear hblk
  go_enter Tryd.func28, Tryd.ntmps28
  go_wp2
  go_ret2
  exact ⟨rfl, rfl⟩
theorem rfeed_long {rb : Nat} {kb : Option Nat} {ws : Bs} {W : World} {B : Option Addr} {m d : Nat} (hm : 1000000 < m) (h : RfX W rb kb ws false) : Calls Tryd.prog 28 #[.pointer (some ⟨rb, 0, none⟩), .slice B m d] W (NoFeed W 3) := by
  obtain ⟨A, n, c, hblk, -⟩ := h
  have c1 : W.cell? ⟨rb, 1, none⟩ = some (.bool false) := (blk_cell hblk 1).trans rfl
  have hmi : (1000000 : Int) < (m : Int) := by omega
  clear hblk
  go_enter Tryd.func28, Tryd.ntmps28
  go_wp2
  go_ret2
  exact ⟨rfl, rfl⟩
set_option maxHeartbeats 8000000 in
theorem rfeed28 {W : World} {rb : Nat} {kb : Option Nat} {ws bs : Bs} {X : Nat → Prop} {B : Option Addr} {m d : Nat} (h : RfX W rb kb ws false) (hb : BytesX W X (.slice B m d) bs) (hw : ws.length ≤ 999000000) (hm : m ≤ 1000000) :
    Calls Tryd.prog 28 #[.pointer (some ⟨rb, 0, none⟩), .slice B m d] W (RFeedEnd W rb (feedB ws bs)) := by
  obtain ⟨A, n, c, hblk, hx⟩ := h
  obtain ⟨i38, hi38, hs38⟩ := infoS38
  obtain ⟨i4, hi4, hs4⟩ := infoS4
  have HI := Lib.hid (And.intro (And.intro hi38 hs38) (And.intro hi4 hs4))
  have hmi : (m : Int) ≤ 1000000 := by omega
  have Hn := Lib.hid hx.len.1
  have Hm := Lib.hid hb.len.1
  have Hblk := Lib.hid hblk
  have HX := Lib.hid hx
  have HB := Lib.hid hb
  have Hrb := Lib.hid (blk_lt hblk)
  have Hw := Lib.hid hw
  have Hmm := Lib.hid hm
  have c0 : W.cell? ⟨rb, 0, none⟩ = some (.slice A n c) := (blk_cell hblk 0).trans rfl
  have c1 : W.cell? ⟨rb, 1, none⟩ = some (.bool false) := (blk_cell hblk 1).trans rfl
  obtain ⟨R, hR⟩ : ∃ x, feedB ws bs = x := ⟨_, rfl⟩
  have HR := Lib.hid hR
  rw [hR]
  clear hblk hx hb hi38 hs38 hi4 hs4 hw hm hR
  go_enter Tryd.func28, Tryd.ntmps28
  go_wp2_with (first
    | ((with_reducible refine at_dst (N := 19) rfl ?_); go_must (refine ev_slice (cs := #[]) (t := 5) (n := 0) (c := 0) rfl (by first | (go_simp; done) | (go_simp; rfl)) ?_; intro g w1 hg hlg hbg hkg)
       have Hk1 := Lib.hid hkg
       have HO1 := Lib.hid (show OwnB w1 W.heap.size (.slice (some ⟨g, 0, none⟩) 0 0) [] from .inr ⟨g, 0, #[], (0, 0), rfl, hg, hbg, .inl (Nat.zero_le _), Nat.zero_le _, by decide, rfl, rfl⟩)
       have c0 : w1.cell? ⟨rb, 0, none⟩ = some (.slice A n c) := (blk_cell (hkg.blk Hblk.out id) 0).trans rfl
       clear hbg hkg hg hlg c1
       (try simp only [PU]))
    | ((with_reducible refine at_dst (N := 24) rfl ?_); go_must (refine ev_app_sl rfl rfl byteT38 (base := W.heap.size) rfl HO1.out rfl (news := ws) Hn.out.symm (HX.out.keep (X' := fun b => some b = kb) Hk1.out (fun _ _ _ => id) (fun _ _ h => h)).news (by simp only [List.length_nil]; have := Hw.out; have := Hn.out; omega) Hk1.out.size ?_; intro v' w2 ho2 ha2; obtain ⟨nA, nc, hv'⟩ := ho2.slice; subst hv')
       have HO2 := Lib.hid ho2
       have HK2 := Lib.hid (Hk1.out.trans ha2.keep (fun i hi e => by have := (HO1.out.lt i e.symm).1; omega))
       clear ho2 ha2
       generalize hws1 : ([] ++ ws).length = L1 at *
       have HL1 := Lib.hid (show L1 = ws.length by rw [← hws1]; rfl)
       have HO2 := Lib.hid (show OwnB w2 W.heap.size (.slice nA L1 nc) ws from HO2.out)
       clear hws1
       (try simp only [PU]))
    | ((with_reducible refine at_dst (N := 26) rfl ?_); go_must (refine ev_app_sl rfl rfl byteT38 (base := W.heap.size) rfl HO2.out rfl (news := bs) Hm.out.symm (HB.out.keep (X' := X) HK2.out (fun _ _ _ => id) (fun _ _ h => h)).news (by have := Hw.out; have := Hmm.out; have := Hm.out; omega) HK2.out.size ?_; intro v' w3 ho3 ha3; obtain ⟨cA, cc, hv'⟩ := ho3.slice; subst hv')
       have Ho2 := Lib.hid ho3
       have Hk2 := Lib.hid (HK2.out.trans ha3.keep (fun i hi e => by have := (HO2.out.lt i e.symm).1; omega))
       have Hbr := Lib.hid (Hk2.out.blk Hblk.out id)
       clear ho3 ha3
       generalize hL0 : (ws ++ bs).length = L0 at *
       have HL0 := Lib.hid hL0
       clear hL0 c0
       (try simp only [PU]))
    | ((with_reducible refine at_store (t := 38) rfl ?_); go_must (refine ev_store (cs' := #[.slice cA L0 cc, .bool false]) rfl rfl rfl rfl rfl rfl HI.out.1.1 HI.out.1.2 rfl Hbr.out (Nat.le_of_ble_eq_true rfl) rfl ?_; intro w3 hb3 hk3)
       have Hbr3 := Lib.hid hb3
       have Ho3 := Lib.hid (Ho2.out.keep hk3 (fun k hk e => by have := (Ho2.out.lt k hk).1; have := Hrb.out; omega))
       have Hk3 := Lib.hid (show Keeps (· = rb) W w3 from Hk2.out.any.trans hk3 (fun _ _ h => h))
       clear hb3 hk3
       (try simp only [PU]))
  )
  obtain ⟨ws0, hws0⟩ : ∃ x, ws ++ bs = x := ⟨_, rfl⟩
  have HR0 := Lib.hid (show feedF (ws0.length + 1) [] ws0 = R by rw [← hws0]; exact HR.out)
  have hl0 : ws0.length ≤ 1000000000 := by rw [← hws0, List.length_append]; have := Hw.out; have := Hm.out; have := Hmm.out; omega
  rw [hws0] at Ho3
  have hL : L0 = ws0.length := by rw [← hws0, HL0.out]
  have Hbr3 := Lib.hid (hL ▸ Hbr3.out : w3.heap[rb]? = some (.cells #[.slice cA ws0.length cc, .bool false] 55 (0, 0)))
  have Ho3 := Lib.hid (hL ▸ Ho3.out : OwnB w3 W.heap.size (.slice cA ws0.length cc) ws0)
  clear hL
  obtain ⟨kc, hkc⟩ : ∃ x, (Value.slice cA ws0.length cc).ownBlock = x := ⟨_, rfl⟩
  have HX3 := Lib.hid (show BytesX w3 (fun b => some b = kc) (.slice cA ws0.length cc) ws0 from (hkc ▸ Ho3.out.bytes.keep (X' := fun b => some b = (Value.slice cA ws0.length cc).ownBlock) (Keeps.refl Nob w3) (fun _ _ _ => id) (fun b _ e => e.symm)))
  have Hkc := Lib.hid (show ∀ b, kc = some b → W.heap.size ≤ b ∧ b < w3.heap.size from fun b e => Ho3.out.lt b (hkc.trans e))
  clear hws0 hkc HR
  go_loopg [6] ws0.length (fun K ov wr => ∃ (oA : Option Addr) (oc : Nat) (A' : Option Addr) (c' f : Nat) (out : List Bs) (r : Bs), ov = .slice oA out.length oc ∧ r.length ≤ K ∧ r.length ≤ 1000000000 ∧ out.length + r.length ≤ 1000000000 ∧ Hid (r.length < f) ∧ Hid (OwnL wr W.heap.size (.slice oA out.length oc) out) ∧ Hid (wr.heap[rb]? = some (.cells #[.slice A' r.length c', .bool false] 55 (0, 0))) ∧ Hid (BytesX wr (fun b => some b = kc) (.slice A' r.length c') r) ∧ Hid (w3.heap.size ≤ wr.heap.size) ∧ Hid (∀ b, (Value.slice oA out.length oc).ownBlock = some b → kc ≠ some b) ∧ Hid (Keeps (· = rb) W wr) ∧ Hid (feedF f out r = R))
  case atStart => exact ⟨none, 0, cA, cc, ws0.length + 1, [], ws0, rfl, Nat.le_refl _, hl0, by simpa using hl0, Lib.hid (Nat.lt_succ_self _), Lib.hid (OwnL.nil _ _), Hbr3, HX3, Lib.hid (Nat.le_refl _), Lib.hid (fun b e => by cases e), Hk3, HR0⟩
  case round =>
    obtain ⟨oA, oc, A', c', f, out, r, rfl, hlK, hlr, hlo, Hf, HO, Hbr, HX', Hsz, Hap, HK, HE⟩ := hrel
    obtain ⟨f, rfl⟩ : ∃ f', f = f' + 1 := ⟨f - 1, by have := Hf.out; omega⟩
    have hst := feedF_fr f out r
    have hfi := first57 HX'.out (by omega)
    have HsW := Lib.hid HK.out.size
    rw [HE.out] at hst
    have c0 : wr.cell? ⟨rb, 0, none⟩ = some (.slice A' r.length c') := (blk_cell Hbr.out 0).trans rfl
    have H57 := Lib.hid hfi
    obtain ⟨N, hN⟩ : ∃ N, r.length = N := ⟨_, rfl⟩
    have HN := Lib.hid hN
    clear hfi HE
    rcases hF : frameB r with _ | _ | ⟨x, q⟩
    · rw [hF] at hst H57
      have HRR := Lib.hid (show R = ⟨out, [], true⟩ from hst)
      rw [hN] at c0 Hbr HX' H57
      clear hst hN hF
      go_wp2_with (first
        | (go_at_call 57; go_must (refine H57.out.mono ?_; rintro e4 w4 ⟨he4, hk4⟩; have he5 : e4 = .returned (.tuple #[.slice none 0 0, .int .i64 (-1)]) := he4; subst he5)
           have HK4 := Lib.hid hk4
           have Hbr4 := Lib.hid (hk4.blk Hbr.out id)
           clear hk4 c0 he4
           (try simp only [PU]))
        | ((with_reducible refine at_store (t := 38) rfl ?_); go_must (refine ev_store (cs' := #[.slice none 0 0, .bool false]) rfl rfl rfl rfl rfl rfl HI.out.1.1 HI.out.1.2 rfl Hbr4.out (Nat.le_of_ble_eq_true rfl) rfl ?_; intro w5 hb5 hk5)
           have Hb5 := Lib.hid hb5
           have Hk5 := Lib.hid (HK4.out.any.trans hk5 (fun _ _ h => h))
           clear hb5 hk5
           (try simp only [PU]))
        | ((with_reducible refine at_store (t := 4) rfl ?_); go_must (refine ev_store (off := 1) (cs' := #[.slice none 0 0, .bool true]) rfl rfl rfl rfl rfl rfl HI.out.2.1 HI.out.2.2 rfl Hb5.out (Nat.le_of_ble_eq_true rfl) rfl ?_; intro w6 hb6 hk6)
           have Hb6 := Lib.hid hb6
           have Hk6 := Lib.hid (Hk5.out.trans hk6 (fun _ _ h => h))
           clear hb6 hk6
           (try simp only [PU]))
      )
      go_ret2
      rw [HRR.out]
      exact ⟨⟨_, rfl, HO.out.keep Hk6.out (fun b _ e => by rw [e]; exact Hrb.out)⟩, ⟨none, (fun b e => by cases e), none, 0, 0, Hb6.out, BytesX.nil _ _⟩, HK.out.trans Hk6.out (fun _ _ h => h)⟩
    · rw [hF] at hst H57
      have HRR := Lib.hid (show R = ⟨out, r, false⟩ from hst)
      rw [hN] at c0 Hbr H57
      clear hst hN hF
      go_wp2_with (first
        | (go_at_call 57; go_must (refine H57.out.mono ?_; rintro e4 w4 ⟨he4, hk4⟩; have he5 : e4 = .returned (.tuple #[.slice none 0 0, .int .i64 0]) := he4; subst he5)
           have HK4 := Lib.hid hk4
           have Hbr4 := Lib.hid (hk4.blk Hbr.out id)
           clear hk4 c0 he4
           (try simp only [PU]))
      )
      go_ret2
      rw [HRR.out]
      exact ⟨⟨_, rfl, HO.out.keep HK4.out (fun b _ h => h.elim)⟩, ⟨kc, (fun b e => ⟨(Hkc.out b e).1, Nat.lt_of_lt_of_le (Hkc.out b e).2 (Nat.le_trans Hsz.out HK4.out.size)⟩), A', N, c', Hbr4.out, by rw [← HN.out]; exact HX'.out.keep HK4.out (fun _ _ _ => id) (fun _ _ h => h)⟩, HK.out.trans HK4.out (fun _ _ h => h.elim)⟩
    · rw [hF] at hst H57
      have HRR := Lib.hid (show R = feedF f (out ++ [x]) q from hst)
      obtain ⟨on, hon⟩ : ∃ N, out.length = N := ⟨_, rfl⟩
      have Hon := Lib.hid hon
      rw [hN] at c0 Hbr H57 hlo hlr hlK
      rw [hon] at HO Hap hlo ⊢
      have hoi : (on : Int) ≤ 1000000000 := by omega
      clear hst hN hon hF
      go_wp2_with (first
        | (go_at_call 57; go_must (refine H57.out.mono ?_; rintro e4 w4 ⟨⟨xA, xc, k, he4, hxb, hkr, hk0, hq⟩, hk4⟩; subst he4)
           have hki : ¬ (k : Int) < 0 := by omega
           have hkz : ((k : Int) == 0) = false := beq_eq_false_iff_ne.2 (by omega)
           have HK4 := Lib.hid hk4
           have Hbr4 := Lib.hid (hk4.blk Hbr.out id)
           have Hxb := Lib.hid hxb
           have Hq := Lib.hid hq
           have Hk := Lib.hid (And.intro hkr hk0)
           clear hk4 c0 hxb hq hkr hk0
           generalize hxl : x.length = xl at *
           have Hxl := Lib.hid hxl
           clear hxl
           (try simp only [PU]))
        | ((with_reducible refine at_dst (N := 51) rfl ?_); go_must (refine ev_slice (cs := #[.slice xA xl xc]) (t := 38) (n := 1) (c := 1) rfl (by first | (go_simp; done) | (go_simp; rfl)) ?_; intro gx w6 hgx hlx hbx hkx)
           have Hbx := Lib.hid hbx
           have Hx6 := Lib.hid (Hxb.out.keep (X' := fun b => some b = kc) hkx (fun _ _ _ => id) (fun _ _ h => h))
           have HK6 := Lib.hid (HK4.out.trans hkx (fun _ _ h => h))
           clear hbx hkx hgx hlx
           (try simp only [PU]))
        | ((with_reducible refine at_dst (N := 52) rfl ?_)
           obtain ⟨xs, hrow, hp⟩ := HO.out.keep HK6.out (fun b _ h => h.elim)
           have Hp := Lib.hid hp
           have Hrow := Lib.hid hrow
           rw [Hon.out] at hrow
           have Hrn := Lib.hid hrow
           clear hp hrow
           go_must (refine ev_append rfl rfl Tryd.underlying43 info38b rfl (by decide) (base := W.heap.size) rfl Hrn.out rfl (news := [.slice xA xl xc]) rfl (fun _ => ⟨_, rfl, World.news_of_block Hbx.out⟩) (by simp [Value.oneCell']) (by omega) (by decide) (Nat.le_trans HsW.out HK6.out.size) ?_; intro v7 w7 hown7 hk7 hr7 hf7; obtain ⟨gr, cap, rfl⟩ := hf7 (by decide))
           have Hrow7 := Lib.hid (show (Value.slice (some ⟨gr, 0, none⟩) (on + 1) cap).ownBlock = (Value.slice oA on oc).ownBlock ∨ ∃ b, (Value.slice (some ⟨gr, 0, none⟩) (on + 1) cap).ownBlock = some b ∧ w6.heap.size ≤ b from hr7)
           have Hpush := Lib.hid (OwnL.push Hrow.out Hp.out (Hx6.out.keep (X' := fun b => W.heap.size ≤ b ∧ b < w6.heap.size ∧ some b ≠ (Value.slice oA on oc).ownBlock) (Keeps.refl Nob w6) (fun _ _ _ => id) (fun b _ hb => by
               have h1 := Hkc.out b hb.symm
               have h2 := Hsz.out
               have h3 := HK6.out.size
               exact ⟨h1.1, by omega, fun e => Hap.out b e.symm hb.symm⟩)) (by rw [Hon.out]; exact hown7) hk7 hr7)
           have Hk7 := Lib.hid hk7
           have Hbr7 := Lib.hid (hk7.blk (HK6.out.blk Hbr.out id) (fun e => by have := (HO.out.lt rb e.symm).1; have := Hrb.out; omega))
           have c07 : w7.cell? ⟨rb, 0, none⟩ = some (.slice A' N c') := (blk_cell Hbr7.out 0).trans rfl
           have Hw7 := Lib.hid (show Keeps (fun j => some j = (Value.slice oA on oc).ownBlock) wr w7 from HK6.out.any.trans hk7 (fun _ _ h => h))
           clear hown7 hk7 hr7 hf7
           (try simp only [PU]))
        | ((with_reducible refine at_dst (N := 59) rfl ?_); go_must (refine ev_sub_l (l := k) rfl rfl byteT38 rfl rfl (by have := Hk.out.1; have := HN.out; omega) ?_); (try simp only [PU]))
        | ((with_reducible refine at_store (t := 38) rfl ?_); go_must (refine ev_store (cs' := #[.slice (subA A' k c') (N - k) (c' - k), .bool false]) rfl rfl rfl rfl rfl rfl HI.out.1.1 HI.out.1.2 rfl Hbr7.out (Nat.le_of_ble_eq_true rfl) rfl ?_; intro w8 hb8 hk8)
           have Hb8 := Lib.hid hb8
           have Hpush8 := Lib.hid (Hpush.out.keep hk8 (fun b _ e => by rw [e]; exact Hrb.out))
           have Hk8 := Lib.hid hk8
           clear hb8 hk8 c07
           (try simp only [PU]))
      )
      have hql : q.length = N - k := by rw [Hq.out, List.length_drop, HN.out]
      have Hkk := Lib.hid (show 0 < k ∧ k ≤ N by have := Hk.out; have := HN.out; omega)
      have hol : (out ++ [x]).length = on + 1 := by rw [List.length_append, Hon.out]; rfl
      have hsub2 := HX'.out.sub (l := k) (h := r.length) (Hk.out.1) (Nat.le_refl _)
      rw [List.take_of_length_le (by rw [List.length_drop]; exact Nat.le_refl _), ← Hq.out, HN.out] at hsub2
      have Hsub2 := Lib.hid hsub2
      clear hsub2
      go_roundg q.length
      case measure => have := Hkk.out; omega
      case rel => exact ⟨some ⟨gr, 0, none⟩, cap, subA A' k c', c' - k, f, out ++ [x], q, by rw [hol], Nat.le_refl _, by have := Hkk.out; omega, by rw [hol]; have := Hkk.out; omega, Lib.hid (by have := Hkk.out; have := Hf.out; have := HN.out; omega), Lib.hid (by rw [hol]; exact Hpush8.out), Lib.hid (by rw [hql]; exact Hb8.out), Lib.hid (by rw [hql]; exact (Hsub2.out.keep (X' := fun b => some b = kc) Hw7.out (fun b _ hb e => Hap.out b e.symm hb.symm) (fun _ _ h => h)).keep Hk8.out (fun b _ hb e => by have := (Hkc.out b hb.symm).1; have := Hrb.out; omega) (fun _ _ h => h)), Lib.hid (Nat.le_trans Hsz.out (Nat.le_trans Hw7.out.size Hk8.out.size)), Lib.hid (fun b e => by
          rcases Hrow7.out with h | ⟨b', h, hb'⟩
          · exact Hap.out b (by rw [← h, ← e, hol])
          · intro e2
            have e3 : (Value.slice (some ⟨gr, 0, none⟩) (on + 1) cap).ownBlock = some b := by rw [← e, hol]
            rw [h] at e3
            injection e3 with e3
            have := (Hkc.out b e2).2
            have := Hsz.out
            have := HK6.out.size
            omega), Lib.hid ((HK.out.trans Hw7.out (fun i hi e => by have := (HO.out.lt i e.symm).1; omega)).trans Hk8.out (fun _ _ h => h)), Lib.hid HRR.out.symm⟩
end Go.Proofs.WV

/-
  One piece to each reader; two lists of bytes that are the same. Condition: at most a million bytes wait and come.
-/
namespace Go.Proofs.WV
open Go.RowKit Go.Proofs.KL Go.Proofs.WM
set_option maxRecDepth 100000
set_option linter.unusedSimpArgs false
set_option linter.unusedVariables false

theorem feedF_len : ∀ (f : Nat) (out : List Bs) (w : Bs), (feedF f out w).waits.length ≤ w.length ∧ (feedF f out w).out.length ≤ out.length + w.length
  | 0, out, w => by simp [feedF]
  | f + 1, out, w => by
    rw [feedF_fr]
    rcases hw : frameB w with _ | _ | ⟨x, r⟩
    · simp
    · simp
    · have h := headF_len (show headF beginB w = .whole x r from hw)
      have h2 := feedF_len f (out ++ [x]) r
      simp only [List.length_append, List.length_cons, List.length_nil] at h2
      simp only
      omega
/-- A reader, fed: what comes, what waits, is it dead, the error. -/
def stepR (ws : Bs) (dead : Bool) (bs : Bs) : List Bs × Bs × Bool × Int :=
  if dead = true then ([], ws, true, 8) else ((feedB ws bs).out, (feedB ws bs).waits, (feedB ws bs).dead, if (feedB ws bs).dead = true then 4 else 0)
theorem stepR_len (ws : Bs) (dead : Bool) (bs : Bs) : (stepR ws dead bs).2.1.length ≤ ws.length + bs.length ∧ (stepR ws dead bs).1.length ≤ ws.length + bs.length := by
  unfold stepR
  cases dead
  · have h := feedF_len ((ws ++ bs).length + 1) [] (ws ++ bs)
    simp only [List.length_append, List.length_nil] at h
    rw [if_neg (by decide)]
    unfold feedB
    rw [List.length_append]
    exact ⟨h.1, Nat.le_trans h.2 (by omega)⟩
  · rw [if_pos rfl]
    exact ⟨Nat.le_add_right _ _, Nat.zero_le _⟩
def StepEnd (At : World → Option Nat → Bs → Bool → Prop) (W : World) (rb : Nat) (kb : Option Nat) (S : List Bs × Bs × Bool × Int) (e : Ending) (w' : World) : Prop :=
  (∃ ov, e = .returned (.tuple #[ov, .int .i64 S.2.2.2]) ∧ OwnL w' W.heap.size ov S.1) ∧ (∃ kb', (∀ b, kb' = some b → kb = some b ∨ (W.heap.size ≤ b ∧ b < w'.heap.size)) ∧ At w' kb' S.2.1 S.2.2.1) ∧ Keeps (· = rb) W w'
theorem step21 {W : World} {rb : Nat} {kb : Option Nat} {ws bs : Bs} {dead : Bool} {X : Nat → Prop} {B : Option Addr} {m d : Nat} (h : FdX W rb kb ws dead) (hb : BytesX W X (.slice B m d) bs) (hw : ws.length ≤ 999000000) (hm : m ≤ 1000000) :
    Calls Tryd.prog 21 #[.pointer (some ⟨rb, 0, none⟩), .slice B m d] W (StepEnd (fun w k => FdX w rb k) W rb kb (stepR ws dead bs)) := by
  cases dead
  · refine (feed21 h hb hw hm).mono ?_
    rintro e w' ⟨⟨ov, rfl, hov⟩, ⟨kb', hk', hf⟩, hk⟩
    exact ⟨⟨ov, rfl, hov⟩, ⟨kb', fun b e => .inr (hk' b e), hf⟩, hk⟩
  · refine (feed_dead (.slice B m d) h).mono ?_
    rintro e w' ⟨rfl, rfl⟩
    exact ⟨⟨_, rfl, OwnL.nil _ _⟩, ⟨kb, fun b e => .inl e, h⟩, (Keeps.refl Nob _).any⟩
theorem step28 {W : World} {rb : Nat} {kb : Option Nat} {ws bs : Bs} {dead : Bool} {X : Nat → Prop} {B : Option Addr} {m d : Nat} (h : RfX W rb kb ws dead) (hb : BytesX W X (.slice B m d) bs) (hw : ws.length ≤ 999000000) (hm : m ≤ 1000000) :
    Calls Tryd.prog 28 #[.pointer (some ⟨rb, 0, none⟩), .slice B m d] W (StepEnd (fun w k => RfX w rb k) W rb kb (stepR ws dead bs)) := by
  cases dead
  · refine (rfeed28 h hb hw hm).mono ?_
    rintro e w' ⟨⟨ov, rfl, hov⟩, ⟨kb', hk', hf⟩, hk⟩
    exact ⟨⟨ov, rfl, hov⟩, ⟨kb', fun b e => .inr (hk' b e), hf⟩, hk⟩
  · refine (rfeed_dead (.slice B m d) h).mono ?_
    rintro e w' ⟨rfl, rfl⟩
    exact ⟨⟨_, rfl, OwnL.nil _ _⟩, ⟨kb, fun b e => .inl e, h⟩, (Keeps.refl Nob _).any⟩
set_option maxHeartbeats 4000000 in
theorem lists29 {W : World} {lo lo2 : Nat} {A B : Option Addr} {n c d : Nat} {ls : List Bs} (ha : OwnL W lo (.slice A n c) ls) (hb : OwnL W lo2 (.slice B n d) ls) (hn : n = ls.length) (hl : n ≤ 1000000000) :
    Calls Tryd.prog 29 #[.slice A n c, .slice B n d] W fun e w' => e = .returned (.bool true) ∧ Keeps Nob W w' := by
  have HA := Lib.hid ha
  have HB := Lib.hid hb
  have HN := Lib.hid hn
  have hni : (n : Int) ≤ 1000000000 := by omega
  have HK := Lib.hid (Keeps.refl Nob W)
  clear ha hb hn
  go_enter Tryd.func29, Tryd.ntmps29
  go_wp2
  go_loopg [13] n (fun K iv wr => ∃ i : Nat, iv = .int .i64 i ∧ i + K = n ∧ Hid (Keeps Nob W wr))
  case atStart => exact ⟨0, rfl, by omega, HK⟩
  case round =>
    obtain ⟨i, rfl, hiK, HK5⟩ := hrel
    by_cases hlt : i < n
    · obtain ⟨ga, gc, A1, n1, d1, hgv1, hcell1, hbx1⟩ := OwnL.at (HA.out.keep HK5.out (fun _ _ h => h.elim)) (i := i) (by rw [← HN.out]; exact hlt)
      obtain ⟨gb, gd, A2, n2, d2, hgv2, hcell2, hbx2⟩ := OwnL.at (HB.out.keep HK5.out (fun _ _ h => h.elim)) (i := i) (by rw [← HN.out]; exact hlt)
      injection hgv1 with e1 e2 e3
      injection hgv2 with e4 e5 e6
      subst e1; subst e3; subst e4; subst e6
      have hc1d := run_conv_bs (P := Tryd.prog) (W := wr.drew) Tryd.underlying38 Tryd.underlying5 Tryd.underlying9 (hbx1.keep (X' := fun _ => True) (Keeps.refl Nob wr).drew (fun _ _ _ => id) (fun _ _ _ => trivial))
      have hc2d := run_conv_bs (P := Tryd.prog) (W := wr.drew) Tryd.underlying38 Tryd.underlying5 Tryd.underlying9 (hbx2.keep (X' := fun _ => True) (Keeps.refl Nob wr).drew (fun _ _ _ => id) (fun _ _ _ => trivial))
      generalize mkB (ls.getD i []) = St at *
      clear hbx1 hbx2 e2 e5
      go_wp2_with fail
      refine wp_region_perm [(0, true), (1, true), (2, true), (3, true), (4, true), (5, true), (6, true), (7, true), (8, true), (9, true), (10, true)] (fun w' => w'.cell? ⟨ga, i, none⟩ = some (.slice A1 n1 d1) ∧ w'.cell? ⟨gb, i, none⟩ = some (.slice A2 n2 d2) ∧ (convert 38 9 (.slice A1 n1 d1)).run Tryd.prog w' = .ok (.string St) w' ∧ (convert 38 9 (.slice A2 n2 d2)).run Tryd.prog w' = .ok (.string St) w') rfl (by kernel_rfl) (by kernel_rfl) (by decide) (fun c a d v w h => by cases d <;> exact h) ⟨hcell1, hcell2, hc1d, hc2d⟩ ?_
      refine perm_q (v := ?v1_0) (some 16) rfl rfl rfl ?q1_0 ?h1_0; (case q1_0 => (intro w' hS; obtain ⟨s1, s2, s3, s4⟩ := hS; first | (go_simp; done) | (go_simp; rfl))); (try simp only [PU])
      refine perm_q (v := ?v1_1) (some 17) rfl rfl rfl ?q1_1 ?h1_1; (case q1_1 => (intro w' hS; obtain ⟨s1, s2, s3, s4⟩ := hS; first | (go_simp; done) | (go_simp; rfl))); (try simp only [PU])
      refine perm_q (v := ?v1_2) (some 18) rfl rfl rfl ?q1_2 ?h1_2; (case q1_2 => (intro w' hS; obtain ⟨s1, s2, s3, s4⟩ := hS; first | (go_simp; done) | (go_simp; rfl))); (try simp only [PU])
      refine perm_q (v := ?v1_3) (some 19) rfl rfl rfl ?q1_3 ?h1_3; (case q1_3 => (intro w' hS; obtain ⟨s1, s2, s3, s4⟩ := hS; first | (go_simp; done) | (go_simp; rfl))); (try simp only [PU])
      refine perm_q (v := ?v1_4) (some 20) rfl rfl rfl ?q1_4 ?h1_4; (case q1_4 => (intro w' hS; obtain ⟨s1, s2, s3, s4⟩ := hS; first | (go_simp; done) | (go_simp; rfl))); (try simp only [PU])
      refine perm_q (v := ?v1_5) (some 21) rfl rfl rfl ?q1_5 ?h1_5; (case q1_5 => (intro w' hS; obtain ⟨s1, s2, s3, s4⟩ := hS; first | (go_simp; done) | (go_simp; rfl))); (try simp only [PU])
      refine perm_q (v := ?v1_6) (some 22) rfl rfl rfl ?q1_6 ?h1_6; (case q1_6 => (intro w' hS; obtain ⟨s1, s2, s3, s4⟩ := hS; first | (go_simp; done) | (go_simp; rfl))); (try simp only [PU])
      refine perm_q (v := ?v1_7) (some 23) rfl rfl rfl ?q1_7 ?h1_7; (case q1_7 => (intro w' hS; obtain ⟨s1, s2, s3, s4⟩ := hS; first | (go_simp; done) | (go_simp; rfl))); (try simp only [PU])
      refine perm_q (v := ?v1_8) (some 24) rfl rfl rfl ?q1_8 ?h1_8; (case q1_8 => (intro w' hS; obtain ⟨s1, s2, s3, s4⟩ := hS; first | (go_simp; done) | (go_simp; rfl))); (try simp only [PU])
      refine perm_q (v := ?v1_9) (some 25) rfl rfl rfl ?q1_9 ?h1_9; (case q1_9 => (intro w' hS; obtain ⟨s1, s2, s3, s4⟩ := hS; first | (go_simp; done) | (go_simp; rfl))); (try simp only [PU])
      refine perm_q (v := ?v1_10) (some 26) rfl rfl rfl ?q1_10 ?h1_10; (case q1_10 => (intro w' hS; obtain ⟨s1, s2, s3, s4⟩ := hS; first | (go_simp; done) | (go_simp; rfl))); (try simp only [PU])
      refine perm_nil ?_
      go_wp2
      go_roundg (n - i - 1)
      case measure => omega
      case rel => exact ⟨i + 1, by rfl, by omega, Lib.hid HK5.out.drew⟩
    · have hi' : i = n := by omega
      subst hi'
      go_wp2
      go_ret
      exact ⟨rfl, HK5.out⟩
end Go.Proofs.WV

/-
  The law WireFeeds, by the program, in memory. Condition: the standard library's table of powers lies; the bytes and the pieces lie.
-/
namespace Go.Proofs.WV
open Go.RowKit Go.Proofs.KL Go.Proofs.WM
set_option maxRecDepth 100000
set_option linter.unusedSimpArgs false
set_option linter.unusedVariables false

set_option maxHeartbeats 4000000 in
theorem Feeds_long {w : World} (ht : Tab w w.heap.size) {A0 : Option Addr} {n0 c0 : Nat} {ls : List Bs} (hl : LsX w (fun _ => True) (.slice A0 n0 c0) ls) (hn0 : n0 ≤ 140737488355328) {B0 : Option Addr} {m0 d0 : Nat} (hm : 3000 < m0) (hm2 : m0 ≤ 140737488355328) : Calls Tryd.prog 8 #[.slice B0 m0 d0, .slice A0 n0 c0] w fun e w' => e = .returned (.bool true) ∧ Keeps Nob w w' := by
  have hmi : (3000 : Int) < m0 := by omega
  have hn0i : (n0 : Int) ≤ 140737488355328 := by omega
  obtain ⟨A, c, e, hc, hx⟩ := id hl
  injection e with e1 e2 e3
  subst e1; subst e3
  have HX := Lib.hid hx
  have HL := Lib.hid e2
  have HT := Lib.hid ht
  have HK := Lib.hid (Keeps.refl Nob w)
  clear hx e2 ht hc
  go_enter Tryd.func8, Tryd.ntmps8
  go_wp2
  go_loopg [21, 5] n0 (fun K iv sv wr => ∃ (i : Nat) (z : Int), iv = .int .i64 i ∧ sv = .int .i64 z ∧ i + K = n0 ∧ Hid (w = wr))
  case atStart => exact ⟨0, 0, rfl, rfl, by omega, Lib.hid rfl⟩
  case round =>
    obtain ⟨i, z, rfl, rfl, hiK, Hw⟩ := hrel
    have hw : w = wr := Hw.out
    subst hw
    by_cases hlt : i < n0
    · obtain ⟨b, o, rfl, -, B, m, d, hcell, hbx, hm⟩ := HX.out i (by rw [← HL.out]; exact hlt)
      clear hbx
      go_wp2
      go_roundg (n0 - i - 1)
      case measure => omega
      case rel => exact ⟨i + 1, _, by rfl, rfl, by omega, by first | exact Lib.hid rfl | exact Lib.hid trivial⟩
    · have hi' : i = n0 := by omega
      subst hi'
      go_wp2_with (first
        | (go_at_call 13; go_must (refine (alive13 (Tab.after HT.out HK.out)).mono ?_; rintro e w9 ⟨rfl, hk9⟩); have HKz := Lib.hid (HK.out.trans hk9 (fun _ _ h => h)); clear hk9; (try simp only [PU]))
      )
      go_ret
      exact ⟨rfl, HKz.out⟩
set_option maxHeartbeats 4000000 in
theorem Feeds_many {w : World} (ht : Tab w w.heap.size) {A0 : Option Addr} {n0 c0 : Nat} {ls : List Bs} (hl : LsX w (fun _ => True) (.slice A0 n0 c0) ls) (hn0 : n0 ≤ 140737488355328) (h40 : 40 < n0) {B0 : Option Addr} {m0 d0 : Nat} (hm : m0 ≤ 3000) : Calls Tryd.prog 8 #[.slice B0 m0 d0, .slice A0 n0 c0] w fun e w' => e = .returned (.bool true) ∧ Keeps Nob w w' := by
  have hmi : ¬ (3000 : Int) < m0 := by omega
  have hmi2 : (m0 : Int) ≤ 3000 := by omega
  have h40i : (40 : Int) < n0 := by omega
  have hn0i : (n0 : Int) ≤ 140737488355328 := by omega
  obtain ⟨A, c, e, hc, hx⟩ := id hl
  injection e with e1 e2 e3
  subst e1; subst e3
  have HX := Lib.hid hx
  have HL := Lib.hid e2
  have HT := Lib.hid ht
  have HK := Lib.hid (Keeps.refl Nob w)
  clear hx e2 ht hc
  go_enter Tryd.func8, Tryd.ntmps8
  go_wp2
  go_loopg [21, 5] n0 (fun K iv sv wr => ∃ (i : Nat) (z : Int), iv = .int .i64 i ∧ sv = .int .i64 z ∧ i + K = n0 ∧ Hid (w = wr))
  case atStart => exact ⟨0, 0, rfl, rfl, by omega, Lib.hid rfl⟩
  case round =>
    obtain ⟨i, z, rfl, rfl, hiK, Hw⟩ := hrel
    have hw : w = wr := Hw.out
    subst hw
    by_cases hlt : i < n0
    · obtain ⟨b, o, rfl, -, B, m, d, hcell, hbx, hm⟩ := HX.out i (by rw [← HL.out]; exact hlt)
      clear hbx
      go_wp2
      go_roundg (n0 - i - 1)
      case measure => omega
      case rel => exact ⟨i + 1, _, by rfl, rfl, by omega, by first | exact Lib.hid rfl | exact Lib.hid trivial⟩
    · have hi' : i = n0 := by omega
      subst hi'
      go_wp2_with (first
        | (go_at_call 13; go_must (refine (alive13 (Tab.after HT.out HK.out)).mono ?_; rintro e w9 ⟨rfl, hk9⟩); have HKz := Lib.hid (HK.out.trans hk9 (fun _ _ h => h)); clear hk9; (try simp only [PU]))
      )
      go_ret
      exact ⟨rfl, HKz.out⟩
set_option maxHeartbeats 4000000 in
theorem Feeds_big {w : World} (ht : Tab w w.heap.size) {A0 : Option Addr} {n0 c0 : Nat} {ls : List Bs} (hl : LsX w (fun _ => True) (.slice A0 n0 c0) ls) (h40 : n0 ≤ 40) (hbig : 6000 < lens ls) {B0 : Option Addr} {m0 d0 : Nat} (hm : m0 ≤ 3000) : Calls Tryd.prog 8 #[.slice B0 m0 d0, .slice A0 n0 c0] w fun e w' => e = .returned (.bool true) ∧ Keeps Nob w w' := by
  have hmi : ¬ (3000 : Int) < m0 := by omega
  have hmi2 : (m0 : Int) ≤ 3000 := by omega
  have h40i : ¬ (40 : Int) < n0 := by omega
  have hn0i : (n0 : Int) ≤ 40 := by omega
  obtain ⟨A, c, e, hc, hx⟩ := id hl
  injection e with e1 e2 e3
  subst e1; subst e3
  have HX := Lib.hid hx
  have HL := Lib.hid e2
  have HT := Lib.hid ht
  have HK := Lib.hid (Keeps.refl Nob w)
  clear hx e2 ht hc hl
  go_enter Tryd.func8, Tryd.ntmps8
  go_wp2
  go_loopg [21, 5] n0 (fun K iv sv wr => ∃ (i s : Nat), iv = .int .i64 i ∧ sv = .int .i64 s ∧ i + K = n0 ∧ Hid (s = lens (ls.take i)) ∧ Hid (s ≤ i * 140737488355328) ∧ Hid (w = wr))
  case atStart => exact ⟨0, 0, rfl, rfl, by omega, Lib.hid rfl, Lib.hid (Nat.zero_le _), Lib.hid rfl⟩
  case round =>
    obtain ⟨i, s, rfl, rfl, hiK, Hs, Hsb, Hw⟩ := hrel
    have hw : w = wr := Hw.out
    subst hw
    by_cases hlt : i < n0
    · obtain ⟨b, o, rfl, -, B, m, d, hcell, hbx, hm⟩ := HX.out i (by rw [← HL.out]; exact hlt)
      have Hnx := Lib.hid (show s + m = lens (ls.take (i + 1)) by rw [sumL_take (by rw [← HL.out]; exact hlt), ← Hs.out, ← hbx.len.1])
      have hsi : (s : Int) ≤ 5629499534213120 := by have := Hsb.out; omega
      have hmi' : (m : Int) ≤ 140737488355328 := by omega
      obtain ⟨t, ht'⟩ : ∃ t, s + m = t := ⟨_, rfl⟩
      rw [ht'] at Hnx
      have hcast : (s : Int) + (m : Int) = (t : Int) := by omega
      have Hst := Lib.hid (show t ≤ (i + 1) * 140737488355328 by have := Hsb.out; omega)
      clear ht'
      clear hbx
      go_wp2
      go_roundg (n0 - i - 1)
      case measure => omega
      case rel => exact ⟨i + 1, t, by rfl, rfl, by omega, Hnx, Hst, by first | exact Lib.hid rfl | exact Lib.hid trivial⟩
    · have hi' : i = n0 := by omega
      subst hi'
      have hse : s = lens ls := by
        have := Hs.out
        rw [List.take_of_length_le (by rw [← HL.out]; exact Nat.le_refl _)] at this
        exact this
      clear hlt
      have hbi : (6000 : Int) < (s : Int) := by omega
      go_wp2_with (first
        | (go_at_call 13; go_must (refine (alive13 (Tab.after HT.out HK.out)).mono ?_; rintro e w9 ⟨rfl, hk9⟩); have HKz := Lib.hid (HK.out.trans hk9 (fun _ _ h => h)); clear hk9; (try simp only [PU]))
      )
      go_ret
      exact ⟨rfl, HKz.out⟩
end Go.Proofs.WV

/-
  The law WireFeeds, by the program, in memory, whole. Condition: the standard library's table of powers lies; the bytes and the pieces lie.
-/
namespace Go.Proofs.WV
open Go.RowKit Go.Proofs.KL Go.Proofs.WM
set_option maxRecDepth 100000
set_option linter.unusedSimpArgs false
set_option linter.unusedVariables false

set_option maxHeartbeats 16000000 in
theorem Feeds_ok {w : World} (ht : Tab w w.heap.size) {A0 : Option Addr} {n0 c0 : Nat} {ls : List Bs} (hl : LsX w (fun _ => True) (.slice A0 n0 c0) ls) (h40 : n0 ≤ 40) (hsmall : lens ls ≤ 6000) {B0 : Option Addr} {m0 d0 : Nat} {bs : Bs} (hb : BytesX w (fun _ => True) (.slice B0 m0 d0) bs) (hm : m0 ≤ 3000) : Calls Tryd.prog 8 #[.slice B0 m0 d0, .slice A0 n0 c0] w fun e w' => e = .returned (.bool true) ∧ Keeps Nob w w' := by
  have hmi : ¬ (3000 : Int) < m0 := by omega
  have hmi2 : (m0 : Int) ≤ 3000 := by omega
  have h40i : ¬ (40 : Int) < n0 := by omega
  have hn0i : (n0 : Int) ≤ 40 := by omega
  have HBb := Lib.hid hb
  have HMm := Lib.hid hm
  obtain ⟨A, c, e, hc, hx⟩ := id hl
  injection e with e1 e2 e3
  subst e1; subst e3
  have HX := Lib.hid hx
  have HL := Lib.hid e2
  have HT := Lib.hid ht
  have HK := Lib.hid (Keeps.refl Nob w)
  clear hx e2 ht hc hl hb hm
  go_enter Tryd.func8, Tryd.ntmps8
  go_wp2
  go_loopg [21, 5] n0 (fun K iv sv wr => ∃ (i s : Nat), iv = .int .i64 i ∧ sv = .int .i64 s ∧ i + K = n0 ∧ Hid (s = lens (ls.take i)) ∧ Hid (s ≤ i * 140737488355328) ∧ Hid (w = wr))
  case atStart => exact ⟨0, 0, rfl, rfl, by omega, Lib.hid rfl, Lib.hid (Nat.zero_le _), Lib.hid rfl⟩
  case round =>
    obtain ⟨i, s, rfl, rfl, hiK, Hs, Hsb, Hw⟩ := hrel
    have hw : w = wr := Hw.out
    subst hw
    by_cases hlt : i < n0
    · obtain ⟨b, o, rfl, -, B, m, d, hcell, hbx, hm⟩ := HX.out i (by rw [← HL.out]; exact hlt)
      have Hnx := Lib.hid (show s + m = lens (ls.take (i + 1)) by rw [sumL_take (by rw [← HL.out]; exact hlt), ← Hs.out, ← hbx.len.1])
      have hsi : (s : Int) ≤ 5629499534213120 := by have := Hsb.out; omega
      have hmi' : (m : Int) ≤ 140737488355328 := by omega
      obtain ⟨t, ht'⟩ : ∃ t, s + m = t := ⟨_, rfl⟩
      rw [ht'] at Hnx
      have hcast : (s : Int) + (m : Int) = (t : Int) := by omega
      have Hst := Lib.hid (show t ≤ (i + 1) * 140737488355328 by have := Hsb.out; omega)
      clear ht'
      clear hbx
      go_wp2
      go_roundg (n0 - i - 1)
      case measure => omega
      case rel => exact ⟨i + 1, t, by rfl, rfl, by omega, Hnx, Hst, by first | exact Lib.hid rfl | exact Lib.hid trivial⟩
    · have hi' : n0 = i := by omega
      subst hi'
      have hse : s = lens ls := by
        have := Hs.out
        rw [List.take_of_length_le (by rw [← HL.out]; exact Nat.le_refl _)] at this
        exact this
      clear hlt
      have hbi : ¬ (6000 : Int) < (s : Int) := by omega
      have Hml := Lib.hid (show ∀ i, lens (ls.take i) ≤ 6000 ∧ (∀ b ∈ ls, b.length ≤ 6000) from fun i => ⟨by
          have h2 : lens ls = lens (ls.take i) + lens (ls.drop i) := by rw [← lens_append, List.take_append_drop]
          omega, fun b hb => by have := len_le_lens ls b hb; omega⟩)
      clear Hs Hsb hse hsmall hiK
      go_wp2_with (first
        | (go_at_call 25; go_must (refine (frame25 (Tab.after HT.out HK.out) HBb.out (by have := HMm.out; omega)).mono ?_; rintro e w1 ⟨⟨v1, rfl, ho1⟩, hk1⟩; obtain ⟨fA, fc, hv1⟩ := ho1.slice; subst hv1)
           have HG := Lib.hid (ho1.keep (Keeps.refl Nob w1).drew (fun _ _ => id))
           have HKc := Lib.hid (show Keeps Nob w w1.drew from (HK.out.trans hk1 (fun _ _ h => h)).trans (Keeps.refl Nob w1).drew (fun _ _ h => h))
           clear ho1 hk1
           obtain ⟨fb, hfb⟩ : ∃ x, frameOf bs = x := ⟨_, rfl⟩
           rw [hfb] at HG
           rw [hfb]
           have Hfb := Lib.hid hfb
           clear hfb
           generalize hfl : fb.length = fl at *
           have Hfl := Lib.hid hfl
           clear hfl
           (try simp only [PU]))
      )
      refine wp_region_tree (.q 0 (.q 1 (.q 2 (.q 3 (.q 5 (.br [4, 6] (fun k => bif Nat.beq k 4 then .br [6] (fun k => .br [7] (fun k => .q 8 (.q 9 (.done)))) else .br [4, 7] (fun k => bif Nat.beq k 4 then .br [7] (fun k => .q 8 (.q 9 (.done))) else .br [4] (fun k => .q 8 (.q 9 (.done))))))))))) (fun w' => True) rfl (by kernel_rfl) (by kernel_rfl) (fun c a d v w h => by cases d <;> exact h) trivial ?_
      refine tree_q (v := ?v1_15) (some 48) rfl rfl rfl ?q1_15 ?h1_15; (case q1_15 => (intro w' hS; skip; first | (go_simp; done) | (go_simp; rfl))); (try simp only [PU])
      refine tree_q (v := ?v1_14) (some 49) rfl rfl rfl ?q1_14 ?h1_14; (case q1_14 => (intro w' hS; skip; first | (go_simp; done) | (go_simp; rfl))); (try simp only [PU])
      refine tree_q (v := ?v1_13) (some 50) rfl rfl rfl ?q1_13 ?h1_13; (case q1_13 => (intro w' hS; skip; first | (go_simp; done) | (go_simp; rfl))); (try simp only [PU])
      refine tree_q (v := ?v1_12) (some 51) rfl rfl rfl ?q1_12 ?h1_12; (case q1_12 => (intro w' hS; skip; first | (go_simp; done) | (go_simp; rfl))); (try simp only [PU])
      refine tree_q (v := ?v1_11) (some 53) rfl rfl rfl ?q1_11 ?h1_11; (case q1_11 => (intro w' hS; skip; first | (go_simp; done) | (go_simp; rfl))); (try simp only [PU])
      refine tree_b rfl rfl ?b1_3 ?nb1_3
      case' b1_3 =>
        go_must (refine ev_ung rfl ?_; refine ev_conv_bs rfl rfl Tryd.underlying38 Tryd.underlying5 Tryd.underlying9 (bs := fb) rfl HG.out.bytes ?_)
        (try simp only [PU])
        refine wpList_nil ⟨trivial, ?_⟩
        refine tree_e rfl rfl ?_
        go_wp2_with (go_at_call 26; go_must (refine (rframe26 (Tab.after HT.out HKc.out) (HBb.out.keep (X' := fun _ => True) HKc.out (fun _ _ _ => id) (fun _ _ _ => trivial)) (by have := HMm.out; omega)).mono ?_; rintro e w3 ⟨⟨rv, rfl, hro⟩, hrk⟩; rw [Hfb.out] at hro; obtain ⟨rA, rc, hrv⟩ := hro.slice; rw [Hfl.out] at hrv; subst hrv))
        have HG := Lib.hid (HG.out.keep hrk (fun _ _ => id))
        have HR := Lib.hid hro
        have HKc := Lib.hid (HKc.out.trans hrk (fun _ _ h => h))
        clear hro hrk
        (try simp only [PU])
        refine ⟨trivial, ?_⟩
        refine tree_e rfl rfl ?_
        go_must (refine ev_ung rfl ?_; refine ev_conv_bs rfl rfl Tryd.underlying38 Tryd.underlying5 Tryd.underlying9 (bs := fb) rfl HR.out.bytes ?_)
        (try simp only [PU])
        refine wpList_nil ⟨trivial, ?_⟩
        refine tree_q (v := ?v1_2) (some 56) rfl rfl rfl ?q1_2 ?h1_2; (case q1_2 => (intro w' hS; skip; first | (go_simp; done) | (go_simp; rfl))); (try simp only [PU])
        refine tree_q (v := ?v1_1) (some 57) rfl rfl rfl ?q1_1 ?h1_1; (case q1_1 => (intro w' hS; skip; first | (go_simp; done) | (go_simp; rfl))); (try simp only [PU])
        refine tree_nil ?_
      case' nb1_3 =>
        refine tree_e rfl rfl ?b1_10
        case' b1_10 =>
          go_wp2_with (go_at_call 26; go_must (refine (rframe26 (Tab.after HT.out HKc.out) (HBb.out.keep (X' := fun _ => True) HKc.out (fun _ _ _ => id) (fun _ _ _ => trivial)) (by have := HMm.out; omega)).mono ?_; rintro e w3 ⟨⟨rv, rfl, hro⟩, hrk⟩; rw [Hfb.out] at hro; obtain ⟨rA, rc, hrv⟩ := hro.slice; rw [Hfl.out] at hrv; subst hrv))
          have HG := Lib.hid (HG.out.keep hrk (fun _ _ => id))
          have HR := Lib.hid hro
          have HKc := Lib.hid (HKc.out.trans hrk (fun _ _ h => h))
          clear hro hrk
          (try simp only [PU])
          refine ⟨trivial, ?_⟩
          refine tree_b rfl rfl ?b1_6 ?nb1_6
          case' b1_6 =>
            go_must (refine ev_ung rfl ?_; refine ev_conv_bs rfl rfl Tryd.underlying38 Tryd.underlying5 Tryd.underlying9 (bs := fb) rfl HG.out.bytes ?_)
            (try simp only [PU])
            refine wpList_nil ⟨trivial, ?_⟩
            refine tree_e rfl rfl ?_
            go_must (refine ev_ung rfl ?_; refine ev_conv_bs rfl rfl Tryd.underlying38 Tryd.underlying5 Tryd.underlying9 (bs := fb) rfl HR.out.bytes ?_)
            (try simp only [PU])
            refine wpList_nil ⟨trivial, ?_⟩
            refine tree_q (v := ?v1_5) (some 56) rfl rfl rfl ?q1_5 ?h1_5; (case q1_5 => (intro w' hS; skip; first | (go_simp; done) | (go_simp; rfl))); (try simp only [PU])
            refine tree_q (v := ?v1_4) (some 57) rfl rfl rfl ?q1_4 ?h1_4; (case q1_4 => (intro w' hS; skip; first | (go_simp; done) | (go_simp; rfl))); (try simp only [PU])
            refine tree_nil ?_
          case' nb1_6 =>
            refine tree_e rfl rfl ?b1_9
            case' b1_9 =>
              go_must (refine ev_ung rfl ?_; refine ev_conv_bs rfl rfl Tryd.underlying38 Tryd.underlying5 Tryd.underlying9 (bs := fb) rfl HR.out.bytes ?_)
              (try simp only [PU])
              refine wpList_nil ⟨trivial, ?_⟩
              refine tree_e rfl rfl ?_
              go_must (refine ev_ung rfl ?_; refine ev_conv_bs rfl rfl Tryd.underlying38 Tryd.underlying5 Tryd.underlying9 (bs := fb) rfl HG.out.bytes ?_)
              (try simp only [PU])
              refine wpList_nil ⟨trivial, ?_⟩
              refine tree_q (v := ?v1_8) (some 56) rfl rfl rfl ?q1_8 ?h1_8; (case q1_8 => (intro w' hS; skip; first | (go_simp; done) | (go_simp; rfl))); (try simp only [PU])
              refine tree_q (v := ?v1_7) (some 57) rfl rfl rfl ?q1_7 ?h1_7; (case q1_7 => (intro w' hS; skip; first | (go_simp; done) | (go_simp; rfl))); (try simp only [PU])
              refine tree_nil ?_
      · skip
        clear HG HR Hfl Hfb
        go_wp2_with (first
          | (go_at_call 27; go_must (refine (new27 _).mono ?_; rintro e w4 ⟨rb, rfl, hgr, hlr, hfd, hk4⟩)
             have HF := Lib.hid hfd
             have Hrb := Lib.hid (show w.heap.size ≤ rb ∧ rb < w4.heap.size from ⟨Nat.le_trans HKc.out.size hgr, hlr⟩)
             have HK4 := Lib.hid (HKc.out.trans hk4 (fun _ _ h => h))
             have hnil := ptr39_s rb
             clear hk4 hgr hlr hfd
             (try simp only [PU]))
          | ((with_reducible refine at_dst (N := 60) rfl ?_); go_must (refine ev_box (cs := #[.slice none 0 0, .bool false]) rfl rfl rfl ?_; intro rq w5 hgq hlq hbq hkq)
             have HF := Lib.hid (HF.out.keep hkq id (fun b e => by cases e))
             have HRf := Lib.hid (show RfX w5 rq none [] false from ⟨none, 0, 0, hbq, BytesX.nil _ _⟩)
             have Hrq := Lib.hid (show w.heap.size ≤ rq ∧ rb ≠ rq ∧ rq < w5.heap.size ∧ rb < w5.heap.size by have := Hrb.out; have := HK4.out.size; have := hkq.size; omega)
             have HK5 := Lib.hid (HK4.out.trans hkq (fun _ _ h => h))
             clear hgq hlq hbq hkq
             (try simp only [PU]))
        )
        go_loopg [65] n0 (fun K iv wr => ∃ (i : Nat) (ws : Bs) (dead : Bool) (kb kq : Option Nat), iv = .int .i64 i ∧ i + K = n0 ∧ Hid (ws.length ≤ lens (ls.take i)) ∧ Hid (FdX wr rb kb ws dead) ∧ Hid (RfX wr rq kq ws dead) ∧ Hid (∀ b, kb = some b → b ≠ rq) ∧ Hid (∀ b, kq = some b → b ≠ rb) ∧ Hid (w5.heap.size ≤ wr.heap.size) ∧ Hid (Keeps Nob w wr))
        case atStart => exact ⟨0, [], false, none, none, rfl, by omega, Lib.hid (Nat.zero_le _), HF, HRf, Lib.hid (fun b e => by cases e), Lib.hid (fun b e => by cases e), Lib.hid (Nat.le_refl _), HK5⟩
        case round =>
          obtain ⟨i, ws, dead, kb, kq, rfl, hiK, Hws, HF, HRf, Hkb, Hkq, Hsz, HK⟩ := hrel
          by_cases hlt : i < n0
          · obtain ⟨pb, po, rfl, -, P, pn, pc, hcell0, hpx, -⟩ := HX.out i (by rw [← HL.out]; exact hlt)
            have hcell := HK.out.cell hcell0 id
            obtain ⟨p, hp⟩ : ∃ p, ls.getD i [] = p := ⟨_, rfl⟩
            rw [hp] at hpx
            have Hpx := Lib.hid (hpx.keep (X' := fun b => b < w.heap.size) HK.out (fun _ _ _ => id) (fun b h _ => h))
            have Hpn := Lib.hid hpx.len.1
            have Hnx := Lib.hid (show lens (ls.take (i + 1)) = lens (ls.take i) + p.length ∧ lens (ls.take (i + 1)) ≤ 6000 from ⟨by rw [sumL_take (by rw [← HL.out]; exact hlt), hp], (Hml.out (i + 1)).1⟩)
            obtain ⟨S, hS⟩ : ∃ S, stepR ws dead p = S := ⟨_, rfl⟩
            have hSl := stepR_len ws dead p
            rw [hS] at hSl
            obtain ⟨out, ws2, dead2, z⟩ := S
            have HS := Lib.hid hS
            obtain ⟨on, hon⟩ : ∃ x, out.length = x := ⟨_, rfl⟩
            obtain ⟨wn, hwn⟩ : ∃ x, ws2.length = x := ⟨_, rfl⟩
            have Hon := Lib.hid hon
            have Hwn := Lib.hid hwn
            have hSl1 : ws2.length ≤ ws.length + p.length := hSl.1
            have hSl2 : out.length ≤ ws.length + p.length := hSl.2
            have Hb2 := Lib.hid (show ws2.length ≤ lens (ls.take (i + 1)) ∧ on ≤ 6000 ∧ wn ≤ 6000 ∧ ws.length ≤ 6000 ∧ pn ≤ 6000 by have := Hws.out; have := Hnx.out; have := Hpn.out; omega)
            have hwni : (wn : Int) ≤ 6000 := by have := Hb2.out; omega
            clear hp hpx hcell0 hS hSl hSl1 hSl2 hon hwn
            go_wp2_with (first
              | ((with_reducible refine at_dst (N := 69) rfl ?_); go_must (refine ev_slice (cs := #[]) (t := 5) (n := 0) (c := 0) rfl (by first | (go_simp; done) | (go_simp; rfl)) ?_; intro g w6 hg hlg hbg hkg)
                 have HK6 := Lib.hid hkg
                 have HO1 := Lib.hid (show OwnB w6 wr.heap.size (.slice (some ⟨g, 0, none⟩) 0 0) [] from .inr ⟨g, 0, #[], (0, 0), rfl, hg, hbg, .inl (Nat.zero_le _), Nat.zero_le _, by decide, rfl, rfl⟩)
                 clear hbg hkg hg hlg
                 (try simp only [PU]))
              | ((with_reducible refine at_dst (N := 71) rfl ?_); go_must (refine ev_app_sl rfl rfl byteT38 (base := wr.heap.size) rfl HO1.out rfl (news := p) Hpn.out.symm (Hpx.out.keep (X' := fun b => b < w.heap.size) HK6.out (fun _ _ _ => id) (fun _ _ h => h)).news (by simp only [List.length_nil]; have := Hb2.out; omega) HK6.out.size ?_; intro v' w7 ho2 ha2)
                 have HK7 := Lib.hid (show Keeps Nob wr w7 from HK6.out.trans ha2.keep (fun i hi e => by have := (HO1.out.lt i e.symm).1; omega))
                 have ho3 : OwnB w7 wr.heap.size v' p := ho2
                 obtain ⟨nA, nc, hv'⟩ := ho3.slice
                 rw [← Hpn.out] at hv'
                 subst hv'
                 have HO2 := Lib.hid ho3
                 clear ho2 ha2 ho3
                 (try simp only [PU]))
              | (go_at_call 21; go_must (refine (step21 (HF.out.keep HK7.out id (fun _ _ => id)) HO2.out.bytes (by have := Hb2.out; omega) (by have := Hb2.out; omega)).mono ?_; rw [HS.out]; rintro e w8 ⟨⟨ov, rfl, hol⟩, ⟨kb2, hkb2, hfd⟩, hk8⟩; obtain ⟨oA, oc, hov, -⟩ := hol.slice; rw [show (out, ws2, dead2, z).1.length = on from Hon.out] at hov; subst hov)
                 have HL8 := Lib.hid (show OwnL w8 w7.heap.size (.slice oA on oc) out from hol)
                 have Hkb2 := Lib.hid hkb2
                 have HF8 := Lib.hid (show FdX w8 rb kb2 ws2 dead2 from hfd)
                 have HR8 := Lib.hid ((HRf.out.keep HK7.out id (fun _ _ => id)).keep hk8 (fun e => Hrq.out.2.1 e.symm) (fun b e e2 => Hkq.out b e.symm e2))
                 have HO8 := Lib.hid (HO2.out.keep hk8 (fun k hk e => by have := (HO2.out.lt k hk).1; have := Hrq.out; have := Hsz.out; omega))
                 have HK8 := Lib.hid (show Keeps (fun b => b = rb ∨ b = rq) wr w8 from HK7.out.any.trans (hk8.mono (fun _ _ e => .inl e)) (fun _ _ h => h))
                 have Hs8 := Lib.hid (show wr.heap.size ≤ w7.heap.size ∧ w7.heap.size ≤ w8.heap.size from ⟨HK7.out.size, hk8.size⟩)
                 clear hol hkb2 hfd hk8
                 (try simp only [PU]))
              | (go_at_call 28; go_must (refine (step28 HR8.out (Hpx.out.keep (X' := fun b => b < w.heap.size) HK8.out (fun b _ hb e => by have := Hrq.out; have := Hrb.out; rcases e with e | e <;> omega) (fun _ _ h => h)) (by have := Hb2.out; omega) (by have := Hb2.out; omega)).mono ?_; rw [HS.out]; rintro e w9 ⟨⟨ov, rfl, hol⟩, ⟨kq2, hkq2, hfd⟩, hk9⟩; obtain ⟨qA, qc, hov, -⟩ := hol.slice; rw [show (out, ws2, dead2, z).1.length = on from Hon.out] at hov; subst hov)
                 have HL9 := Lib.hid (show OwnL w9 w8.heap.size (.slice qA on qc) out from hol)
                 have Hkq2 := Lib.hid hkq2
                 have HR9 := Lib.hid (show RfX w9 rq kq2 ws2 dead2 from hfd)
                 have HF9 := Lib.hid (HF8.out.keep hk9 (fun e => Hrq.out.2.1 e) (fun b e e2 => by
                   rcases Hkb2.out b e.symm with h | h
                   · exact Hkb.out b h e2
                   · have := Hrq.out; have := Hsz.out; have := Hs8.out; omega))
                 have HLa9 := Lib.hid (HL8.out.keep hk9 (fun b _ e => by have := Hrq.out; have := Hsz.out; have := Hs8.out; omega))
                 have HO9 := Lib.hid (HO8.out.keep hk9 (fun k hk e => by have := (HO8.out.lt k hk).1; have := Hrq.out; have := Hsz.out; omega))
                 have HK9 := Lib.hid (show Keeps (fun b => b = rb ∨ b = rq) wr w9 from HK8.out.trans (hk9.mono (fun _ _ e => .inr e)) (fun _ _ h => h))
                 have Hs9 := Lib.hid hk9.size
                 clear hol hkq2 hfd hk9
                 (try simp only [PU]))
            )
            have HKd := Lib.hid (show Keeps Nob w9 w9.drew from (Keeps.refl Nob w9).drew)
            have hcg := run_conv_bs (P := Tryd.prog) (W := w9.drew) Tryd.underlying38 Tryd.underlying5 Tryd.underlying9 (HO9.out.bytes.keep (X' := fun _ => True) HKd.out (fun _ _ _ => id) (fun _ _ _ => trivial))
            have HPx9 := Lib.hid (Hpx.out.keep (X' := fun _ => True) HK9.out (fun b _ hb e => by have := Hrq.out; have := Hrb.out; rcases e with e | e <;> omega) (fun _ _ _ => trivial))
            have hcp := run_conv_bs (P := Tryd.prog) (W := w9.drew) Tryd.underlying38 Tryd.underlying5 Tryd.underlying9 (HPx9.out.keep (X' := fun _ => True) HKd.out (fun _ _ _ => id) (fun _ _ _ => trivial))
            obtain ⟨rA, rn, rc, hbr9, hrx9⟩ := id HR9.out
            have hrn : rn = wn := by rw [hrx9.len.1]; exact Hwn.out
            rw [hrn] at hbr9
            have Hbr9 := Lib.hid hbr9
            have hcr : w9.drew.cell? ⟨rq, 0, none⟩ = some (.slice rA wn rc) := (blk_cell (HKd.out.blk hbr9 id) 0).trans rfl
            clear hbr9 hrx9 hrn
            refine wp_region_perm [(0, true), (1, true), (2, true), (3, true), (4, true), (5, true), (6, false), (7, true), (8, true), (9, true), (10, true), (12, true), (13, true), (14, true), (15, true), (16, true), (11, false), (17, true), (18, true), (19, true), (20, true), (21, true), (22, true), (23, true), (24, true), (25, true)] (fun w' => w'.cell? ⟨rq, 0, none⟩ = some (.slice rA wn rc) ∧ (convert 38 9 (.slice nA pn nc)).run Tryd.prog w' = .ok (.string (mkB p)) w' ∧ (convert 38 9 (.slice P pn pc)).run Tryd.prog w' = .ok (.string (mkB p)) w') rfl (by kernel_rfl) (by kernel_rfl) (by decide) (fun c a d v w h => by cases d <;> exact h) ⟨hcr, hcg, hcp⟩ ?_
            refine perm_q (v := ?v2_0) (some 84) rfl rfl rfl ?q2_0 ?h2_0; (case q2_0 => (intro w' hS; obtain ⟨s1, s2, s3⟩ := hS; first | (go_simp; done) | (go_simp; rfl))); (try simp only [PU])
            refine perm_q (v := ?v2_1) (some 85) rfl rfl rfl ?q2_1 ?h2_1; (case q2_1 => (intro w' hS; obtain ⟨s1, s2, s3⟩ := hS; first | (go_simp; done) | (go_simp; rfl))); (try simp only [PU])
            refine perm_q (v := ?v2_2) (some 86) rfl rfl rfl ?q2_2 ?h2_2; (case q2_2 => (intro w' hS; obtain ⟨s1, s2, s3⟩ := hS; first | (go_simp; done) | (go_simp; rfl))); (try simp only [PU])
            refine perm_q (v := ?v2_3) (some 87) rfl rfl rfl ?q2_3 ?h2_3; (case q2_3 => (intro w' hS; obtain ⟨s1, s2, s3⟩ := hS; first | (go_simp; done) | (go_simp; rfl))); (try simp only [PU])
            refine perm_q (v := ?v2_4) (some 88) rfl rfl rfl ?q2_4 ?h2_4; (case q2_4 => (intro w' hS; obtain ⟨s1, s2, s3⟩ := hS; first | (go_simp; done) | (go_simp; rfl))); (try simp only [PU])
            refine perm_q (v := ?v2_5) (some 89) rfl rfl rfl ?q2_5 ?h2_5; (case q2_5 => (intro w' hS; obtain ⟨s1, s2, s3⟩ := hS; first | (go_simp; done) | (go_simp; rfl))); (try simp only [PU])
            refine perm_e rfl ?_
            go_wp2_with (go_at_call 29; go_must (refine (lists29 (HLa9.out.keep HKd.out (fun _ _ h => h.elim)) (HL9.out.keep HKd.out (fun _ _ h => h.elim)) Hon.out.symm (by have := Hb2.out; omega)).mono ?_; rintro e w10 ⟨rfl, hk10⟩))
            have HK10 := Lib.hid (show Keeps Nob w9 w10 from HKd.out.trans hk10 (fun _ _ h => h))
            (try simp only [PU])
            refine ⟨⟨HK10.out.cell ((blk_cell Hbr9.out 0).trans rfl) id, run_conv_bs (P := Tryd.prog) (W := w10) Tryd.underlying38 Tryd.underlying5 Tryd.underlying9 (HO9.out.bytes.keep (X' := fun _ => True) HK10.out (fun _ _ _ => id) (fun _ _ _ => trivial)), run_conv_bs (P := Tryd.prog) (W := w10) Tryd.underlying38 Tryd.underlying5 Tryd.underlying9 (HPx9.out.keep (X' := fun _ => True) HK10.out (fun _ _ _ => id) (fun _ _ _ => trivial))⟩, ?_⟩
            refine perm_q (v := ?v2_7) (some 91) rfl rfl rfl ?q2_7 ?h2_7; (case q2_7 => (intro w' hS; obtain ⟨s1, s2, s3⟩ := hS; first | (go_simp; done) | (go_simp; rfl))); (try simp only [PU])
            refine perm_q (v := ?v2_8) (some 92) rfl rfl rfl ?q2_8 ?h2_8; (case q2_8 => (intro w' hS; obtain ⟨s1, s2, s3⟩ := hS; first | (go_simp; done) | (go_simp; rfl))); (try simp only [PU])
            refine perm_q (v := ?v2_9) (some 93) rfl rfl rfl ?q2_9 ?h2_9; (case q2_9 => (intro w' hS; obtain ⟨s1, s2, s3⟩ := hS; first | (go_simp; done) | (go_simp; rfl))); (try simp only [PU])
            refine perm_q (v := ?v2_10) (some 94) rfl rfl rfl ?q2_10 ?h2_10; (case q2_10 => (intro w' hS; obtain ⟨s1, s2, s3⟩ := hS; first | (go_simp; done) | (go_simp; rfl))); (try simp only [PU])
            refine perm_q (v := ?v2_12) (some 96) rfl rfl rfl ?q2_12 ?h2_12; (case q2_12 => (intro w' hS; obtain ⟨s1, s2, s3⟩ := hS; first | (go_simp; done) | (go_simp; rfl))); (try simp only [PU])
            refine perm_q (v := ?v2_13) (some 97) rfl rfl rfl ?q2_13 ?h2_13; (case q2_13 => (intro w' hS; obtain ⟨s1, s2, s3⟩ := hS; first | (go_simp; done) | (go_simp; rfl))); (try simp only [PU])
            refine perm_q (v := ?v2_14) (some 98) rfl rfl rfl ?q2_14 ?h2_14; (case q2_14 => (intro w' hS; obtain ⟨s1, s2, s3⟩ := hS; first | (go_simp; done) | (go_simp; rfl))); (try simp only [PU])
            refine perm_q (v := ?v2_15) (some 99) rfl rfl rfl ?q2_15 ?h2_15; (case q2_15 => (intro w' hS; obtain ⟨s1, s2, s3⟩ := hS; first | (go_simp; done) | (go_simp; rfl))); (try simp only [PU])
            refine perm_q (v := ?v2_16) (some 100) rfl rfl rfl ?q2_16 ?h2_16; (case q2_16 => (intro w' hS; obtain ⟨s1, s2, s3⟩ := hS; first | (go_simp; done) | (go_simp; rfl))); (try simp only [PU])
            refine perm_e rfl ?_
            go_wp2_with (go_at_call 22; go_must (refine (left_fd (HF9.out.keep HK10.out id (fun _ _ => id))).mono ?_; rintro e w11 ⟨rfl, hw11⟩; obtain rfl := hw11.symm; rw [Hwn.out]))
            (try simp only [PU])
            refine ⟨⟨HK10.out.cell ((blk_cell Hbr9.out 0).trans rfl) id, run_conv_bs (P := Tryd.prog) (W := w10) Tryd.underlying38 Tryd.underlying5 Tryd.underlying9 (HO9.out.bytes.keep (X' := fun _ => True) HK10.out (fun _ _ _ => id) (fun _ _ _ => trivial)), run_conv_bs (P := Tryd.prog) (W := w10) Tryd.underlying38 Tryd.underlying5 Tryd.underlying9 (HPx9.out.keep (X' := fun _ => True) HK10.out (fun _ _ _ => id) (fun _ _ _ => trivial))⟩, ?_⟩
            refine perm_q (v := ?v2_17) (some 101) rfl rfl rfl ?q2_17 ?h2_17; (case q2_17 => (intro w' hS; obtain ⟨s1, s2, s3⟩ := hS; first | (go_simp; done) | (go_simp; rfl))); (try simp only [PU])
            refine perm_q (v := ?v2_18) (some 102) rfl rfl rfl ?q2_18 ?h2_18; (case q2_18 => (intro w' hS; obtain ⟨s1, s2, s3⟩ := hS; first | (go_simp; done) | (go_simp; rfl))); (try simp only [PU])
            refine perm_q (v := ?v2_19) (some 103) rfl rfl rfl ?q2_19 ?h2_19; (case q2_19 => (intro w' hS; obtain ⟨s1, s2, s3⟩ := hS; first | (go_simp; done) | (go_simp; rfl))); (try simp only [PU])
            refine perm_q (v := ?v2_20) (some 104) rfl rfl rfl ?q2_20 ?h2_20; (case q2_20 => (intro w' hS; obtain ⟨s1, s2, s3⟩ := hS; first | (go_simp; done) | (go_simp; rfl))); (try simp only [PU])
            refine perm_q (v := ?v2_21) (some 105) rfl rfl rfl ?q2_21 ?h2_21; (case q2_21 => (intro w' hS; obtain ⟨s1, s2, s3⟩ := hS; first | (go_simp; done) | (go_simp; rfl))); (try simp only [PU])
            refine perm_q (v := ?v2_22) (some 106) rfl rfl rfl ?q2_22 ?h2_22; (case q2_22 => (intro w' hS; obtain ⟨s1, s2, s3⟩ := hS; first | (go_simp; done) | (go_simp; rfl))); (try simp only [PU])
            refine perm_q (v := ?v2_23) (some 107) rfl rfl rfl ?q2_23 ?h2_23; (case q2_23 => (intro w' hS; obtain ⟨s1, s2, s3⟩ := hS; first | (go_simp; done) | (go_simp; rfl))); (try simp only [PU])
            refine perm_q (v := ?v2_24) (some 108) rfl rfl rfl ?q2_24 ?h2_24; (case q2_24 => (intro w' hS; obtain ⟨s1, s2, s3⟩ := hS; first | (go_simp; done) | (go_simp; rfl))); (try simp only [PU])
            refine perm_q (v := ?v2_25) (some 109) rfl rfl rfl ?q2_25 ?h2_25; (case q2_25 => (intro w' hS; obtain ⟨s1, s2, s3⟩ := hS; first | (go_simp; done) | (go_simp; rfl))); (try simp only [PU])
            refine perm_nil ?_
            go_wp2
            go_roundg (n0 - i - 1)
            case measure => omega
            case rel => exact ⟨i + 1, ws2, dead2, kb2, kq2, by rfl, by omega, Lib.hid Hb2.out.1, Lib.hid (HF9.out.keep HK10.out id (fun _ _ => id)), Lib.hid (HR9.out.keep HK10.out id (fun _ _ => id)),
                Lib.hid (fun b e e2 => by
                  rcases Hkb2.out b e with h | h
                  · exact Hkb.out b h e2
                  · have := Hrq.out; have := Hsz.out; have := Hs8.out; omega),
                Lib.hid (fun b e e2 => by
                  rcases Hkq2.out b e with h | h
                  · exact Hkq.out b h e2
                  · have := Hrq.out; have := Hsz.out; have := Hs8.out; omega),
                Lib.hid (by have h1 := HK10.out.size; have h2 := Hs8.out; have h3 := Hs9.out; have h4 := Hsz.out; omega),
                Lib.hid (show Keeps Nob w w10 from (HK.out.trans HK9.out (fun j hj e => by have := Hrq.out; have := Hrb.out; rcases e with e | e <;> omega)).trans HK10.out (fun _ _ h => h))⟩
          · have hi' : n0 = i := by omega
            subst hi'
            go_wp2_with (first
              | (go_at_call 13; go_must (refine (alive13 (Tab.after HT.out HK.out)).mono ?_; rintro e w9 ⟨rfl, hk9⟩); have HKz := Lib.hid (HK.out.trans hk9 (fun _ _ h => h)); clear hk9; (try simp only [PU]))
            )
            go_ret
            exact ⟨rfl, HKz.out⟩
      · skip
        clear HG HR Hfl Hfb
        go_wp2_with (first
          | (go_at_call 27; go_must (refine (new27 _).mono ?_; rintro e w4 ⟨rb, rfl, hgr, hlr, hfd, hk4⟩)
             have HF := Lib.hid hfd
             have Hrb := Lib.hid (show w.heap.size ≤ rb ∧ rb < w4.heap.size from ⟨Nat.le_trans HKc.out.size hgr, hlr⟩)
             have HK4 := Lib.hid (HKc.out.trans hk4 (fun _ _ h => h))
             have hnil := ptr39_s rb
             clear hk4 hgr hlr hfd
             (try simp only [PU]))
          | ((with_reducible refine at_dst (N := 60) rfl ?_); go_must (refine ev_box (cs := #[.slice none 0 0, .bool false]) rfl rfl rfl ?_; intro rq w5 hgq hlq hbq hkq)
             have HF := Lib.hid (HF.out.keep hkq id (fun b e => by cases e))
             have HRf := Lib.hid (show RfX w5 rq none [] false from ⟨none, 0, 0, hbq, BytesX.nil _ _⟩)
             have Hrq := Lib.hid (show w.heap.size ≤ rq ∧ rb ≠ rq ∧ rq < w5.heap.size ∧ rb < w5.heap.size by have := Hrb.out; have := HK4.out.size; have := hkq.size; omega)
             have HK5 := Lib.hid (HK4.out.trans hkq (fun _ _ h => h))
             clear hgq hlq hbq hkq
             (try simp only [PU]))
        )
        go_loopg [65] n0 (fun K iv wr => ∃ (i : Nat) (ws : Bs) (dead : Bool) (kb kq : Option Nat), iv = .int .i64 i ∧ i + K = n0 ∧ Hid (ws.length ≤ lens (ls.take i)) ∧ Hid (FdX wr rb kb ws dead) ∧ Hid (RfX wr rq kq ws dead) ∧ Hid (∀ b, kb = some b → b ≠ rq) ∧ Hid (∀ b, kq = some b → b ≠ rb) ∧ Hid (w5.heap.size ≤ wr.heap.size) ∧ Hid (Keeps Nob w wr))
        case atStart => exact ⟨0, [], false, none, none, rfl, by omega, Lib.hid (Nat.zero_le _), HF, HRf, Lib.hid (fun b e => by cases e), Lib.hid (fun b e => by cases e), Lib.hid (Nat.le_refl _), HK5⟩
        case round =>
          obtain ⟨i, ws, dead, kb, kq, rfl, hiK, Hws, HF, HRf, Hkb, Hkq, Hsz, HK⟩ := hrel
          by_cases hlt : i < n0
          · obtain ⟨pb, po, rfl, -, P, pn, pc, hcell0, hpx, -⟩ := HX.out i (by rw [← HL.out]; exact hlt)
            have hcell := HK.out.cell hcell0 id
            obtain ⟨p, hp⟩ : ∃ p, ls.getD i [] = p := ⟨_, rfl⟩
            rw [hp] at hpx
            have Hpx := Lib.hid (hpx.keep (X' := fun b => b < w.heap.size) HK.out (fun _ _ _ => id) (fun b h _ => h))
            have Hpn := Lib.hid hpx.len.1
            have Hnx := Lib.hid (show lens (ls.take (i + 1)) = lens (ls.take i) + p.length ∧ lens (ls.take (i + 1)) ≤ 6000 from ⟨by rw [sumL_take (by rw [← HL.out]; exact hlt), hp], (Hml.out (i + 1)).1⟩)
            obtain ⟨S, hS⟩ : ∃ S, stepR ws dead p = S := ⟨_, rfl⟩
            have hSl := stepR_len ws dead p
            rw [hS] at hSl
            obtain ⟨out, ws2, dead2, z⟩ := S
            have HS := Lib.hid hS
            obtain ⟨on, hon⟩ : ∃ x, out.length = x := ⟨_, rfl⟩
            obtain ⟨wn, hwn⟩ : ∃ x, ws2.length = x := ⟨_, rfl⟩
            have Hon := Lib.hid hon
            have Hwn := Lib.hid hwn
            have hSl1 : ws2.length ≤ ws.length + p.length := hSl.1
            have hSl2 : out.length ≤ ws.length + p.length := hSl.2
            have Hb2 := Lib.hid (show ws2.length ≤ lens (ls.take (i + 1)) ∧ on ≤ 6000 ∧ wn ≤ 6000 ∧ ws.length ≤ 6000 ∧ pn ≤ 6000 by have := Hws.out; have := Hnx.out; have := Hpn.out; omega)
            have hwni : (wn : Int) ≤ 6000 := by have := Hb2.out; omega
            clear hp hpx hcell0 hS hSl hSl1 hSl2 hon hwn
            go_wp2_with (first
              | ((with_reducible refine at_dst (N := 69) rfl ?_); go_must (refine ev_slice (cs := #[]) (t := 5) (n := 0) (c := 0) rfl (by first | (go_simp; done) | (go_simp; rfl)) ?_; intro g w6 hg hlg hbg hkg)
                 have HK6 := Lib.hid hkg
                 have HO1 := Lib.hid (show OwnB w6 wr.heap.size (.slice (some ⟨g, 0, none⟩) 0 0) [] from .inr ⟨g, 0, #[], (0, 0), rfl, hg, hbg, .inl (Nat.zero_le _), Nat.zero_le _, by decide, rfl, rfl⟩)
                 clear hbg hkg hg hlg
                 (try simp only [PU]))
              | ((with_reducible refine at_dst (N := 71) rfl ?_); go_must (refine ev_app_sl rfl rfl byteT38 (base := wr.heap.size) rfl HO1.out rfl (news := p) Hpn.out.symm (Hpx.out.keep (X' := fun b => b < w.heap.size) HK6.out (fun _ _ _ => id) (fun _ _ h => h)).news (by simp only [List.length_nil]; have := Hb2.out; omega) HK6.out.size ?_; intro v' w7 ho2 ha2)
                 have HK7 := Lib.hid (show Keeps Nob wr w7 from HK6.out.trans ha2.keep (fun i hi e => by have := (HO1.out.lt i e.symm).1; omega))
                 have ho3 : OwnB w7 wr.heap.size v' p := ho2
                 obtain ⟨nA, nc, hv'⟩ := ho3.slice
                 rw [← Hpn.out] at hv'
                 subst hv'
                 have HO2 := Lib.hid ho3
                 clear ho2 ha2 ho3
                 (try simp only [PU]))
              | (go_at_call 21; go_must (refine (step21 (HF.out.keep HK7.out id (fun _ _ => id)) HO2.out.bytes (by have := Hb2.out; omega) (by have := Hb2.out; omega)).mono ?_; rw [HS.out]; rintro e w8 ⟨⟨ov, rfl, hol⟩, ⟨kb2, hkb2, hfd⟩, hk8⟩; obtain ⟨oA, oc, hov, -⟩ := hol.slice; rw [show (out, ws2, dead2, z).1.length = on from Hon.out] at hov; subst hov)
                 have HL8 := Lib.hid (show OwnL w8 w7.heap.size (.slice oA on oc) out from hol)
                 have Hkb2 := Lib.hid hkb2
                 have HF8 := Lib.hid (show FdX w8 rb kb2 ws2 dead2 from hfd)
                 have HR8 := Lib.hid ((HRf.out.keep HK7.out id (fun _ _ => id)).keep hk8 (fun e => Hrq.out.2.1 e.symm) (fun b e e2 => Hkq.out b e.symm e2))
                 have HO8 := Lib.hid (HO2.out.keep hk8 (fun k hk e => by have := (HO2.out.lt k hk).1; have := Hrq.out; have := Hsz.out; omega))
                 have HK8 := Lib.hid (show Keeps (fun b => b = rb ∨ b = rq) wr w8 from HK7.out.any.trans (hk8.mono (fun _ _ e => .inl e)) (fun _ _ h => h))
                 have Hs8 := Lib.hid (show wr.heap.size ≤ w7.heap.size ∧ w7.heap.size ≤ w8.heap.size from ⟨HK7.out.size, hk8.size⟩)
                 clear hol hkb2 hfd hk8
                 (try simp only [PU]))
              | (go_at_call 28; go_must (refine (step28 HR8.out (Hpx.out.keep (X' := fun b => b < w.heap.size) HK8.out (fun b _ hb e => by have := Hrq.out; have := Hrb.out; rcases e with e | e <;> omega) (fun _ _ h => h)) (by have := Hb2.out; omega) (by have := Hb2.out; omega)).mono ?_; rw [HS.out]; rintro e w9 ⟨⟨ov, rfl, hol⟩, ⟨kq2, hkq2, hfd⟩, hk9⟩; obtain ⟨qA, qc, hov, -⟩ := hol.slice; rw [show (out, ws2, dead2, z).1.length = on from Hon.out] at hov; subst hov)
                 have HL9 := Lib.hid (show OwnL w9 w8.heap.size (.slice qA on qc) out from hol)
                 have Hkq2 := Lib.hid hkq2
                 have HR9 := Lib.hid (show RfX w9 rq kq2 ws2 dead2 from hfd)
                 have HF9 := Lib.hid (HF8.out.keep hk9 (fun e => Hrq.out.2.1 e) (fun b e e2 => by
                   rcases Hkb2.out b e.symm with h | h
                   · exact Hkb.out b h e2
                   · have := Hrq.out; have := Hsz.out; have := Hs8.out; omega))
                 have HLa9 := Lib.hid (HL8.out.keep hk9 (fun b _ e => by have := Hrq.out; have := Hsz.out; have := Hs8.out; omega))
                 have HO9 := Lib.hid (HO8.out.keep hk9 (fun k hk e => by have := (HO8.out.lt k hk).1; have := Hrq.out; have := Hsz.out; omega))
                 have HK9 := Lib.hid (show Keeps (fun b => b = rb ∨ b = rq) wr w9 from HK8.out.trans (hk9.mono (fun _ _ e => .inr e)) (fun _ _ h => h))
                 have Hs9 := Lib.hid hk9.size
                 clear hol hkq2 hfd hk9
                 (try simp only [PU]))
            )
            have HKd := Lib.hid (show Keeps Nob w9 w9.drew from (Keeps.refl Nob w9).drew)
            have hcg := run_conv_bs (P := Tryd.prog) (W := w9.drew) Tryd.underlying38 Tryd.underlying5 Tryd.underlying9 (HO9.out.bytes.keep (X' := fun _ => True) HKd.out (fun _ _ _ => id) (fun _ _ _ => trivial))
            have HPx9 := Lib.hid (Hpx.out.keep (X' := fun _ => True) HK9.out (fun b _ hb e => by have := Hrq.out; have := Hrb.out; rcases e with e | e <;> omega) (fun _ _ _ => trivial))
            have hcp := run_conv_bs (P := Tryd.prog) (W := w9.drew) Tryd.underlying38 Tryd.underlying5 Tryd.underlying9 (HPx9.out.keep (X' := fun _ => True) HKd.out (fun _ _ _ => id) (fun _ _ _ => trivial))
            obtain ⟨rA, rn, rc, hbr9, hrx9⟩ := id HR9.out
            have hrn : rn = wn := by rw [hrx9.len.1]; exact Hwn.out
            rw [hrn] at hbr9
            have Hbr9 := Lib.hid hbr9
            have hcr : w9.drew.cell? ⟨rq, 0, none⟩ = some (.slice rA wn rc) := (blk_cell (HKd.out.blk hbr9 id) 0).trans rfl
            clear hbr9 hrx9 hrn
            refine wp_region_perm [(0, true), (1, true), (2, true), (3, true), (4, true), (5, true), (6, false), (7, true), (8, true), (9, true), (10, true), (12, true), (13, true), (14, true), (15, true), (16, true), (11, false), (17, true), (18, true), (19, true), (20, true), (21, true), (22, true), (23, true), (24, true), (25, true)] (fun w' => w'.cell? ⟨rq, 0, none⟩ = some (.slice rA wn rc) ∧ (convert 38 9 (.slice nA pn nc)).run Tryd.prog w' = .ok (.string (mkB p)) w' ∧ (convert 38 9 (.slice P pn pc)).run Tryd.prog w' = .ok (.string (mkB p)) w') rfl (by kernel_rfl) (by kernel_rfl) (by decide) (fun c a d v w h => by cases d <;> exact h) ⟨hcr, hcg, hcp⟩ ?_
            refine perm_q (v := ?v3_0) (some 84) rfl rfl rfl ?q3_0 ?h3_0; (case q3_0 => (intro w' hS; obtain ⟨s1, s2, s3⟩ := hS; first | (go_simp; done) | (go_simp; rfl))); (try simp only [PU])
            refine perm_q (v := ?v3_1) (some 85) rfl rfl rfl ?q3_1 ?h3_1; (case q3_1 => (intro w' hS; obtain ⟨s1, s2, s3⟩ := hS; first | (go_simp; done) | (go_simp; rfl))); (try simp only [PU])
            refine perm_q (v := ?v3_2) (some 86) rfl rfl rfl ?q3_2 ?h3_2; (case q3_2 => (intro w' hS; obtain ⟨s1, s2, s3⟩ := hS; first | (go_simp; done) | (go_simp; rfl))); (try simp only [PU])
            refine perm_q (v := ?v3_3) (some 87) rfl rfl rfl ?q3_3 ?h3_3; (case q3_3 => (intro w' hS; obtain ⟨s1, s2, s3⟩ := hS; first | (go_simp; done) | (go_simp; rfl))); (try simp only [PU])
            refine perm_q (v := ?v3_4) (some 88) rfl rfl rfl ?q3_4 ?h3_4; (case q3_4 => (intro w' hS; obtain ⟨s1, s2, s3⟩ := hS; first | (go_simp; done) | (go_simp; rfl))); (try simp only [PU])
            refine perm_q (v := ?v3_5) (some 89) rfl rfl rfl ?q3_5 ?h3_5; (case q3_5 => (intro w' hS; obtain ⟨s1, s2, s3⟩ := hS; first | (go_simp; done) | (go_simp; rfl))); (try simp only [PU])
            refine perm_e rfl ?_
            go_wp2_with (go_at_call 29; go_must (refine (lists29 (HLa9.out.keep HKd.out (fun _ _ h => h.elim)) (HL9.out.keep HKd.out (fun _ _ h => h.elim)) Hon.out.symm (by have := Hb2.out; omega)).mono ?_; rintro e w10 ⟨rfl, hk10⟩))
            have HK10 := Lib.hid (show Keeps Nob w9 w10 from HKd.out.trans hk10 (fun _ _ h => h))
            (try simp only [PU])
            refine ⟨⟨HK10.out.cell ((blk_cell Hbr9.out 0).trans rfl) id, run_conv_bs (P := Tryd.prog) (W := w10) Tryd.underlying38 Tryd.underlying5 Tryd.underlying9 (HO9.out.bytes.keep (X' := fun _ => True) HK10.out (fun _ _ _ => id) (fun _ _ _ => trivial)), run_conv_bs (P := Tryd.prog) (W := w10) Tryd.underlying38 Tryd.underlying5 Tryd.underlying9 (HPx9.out.keep (X' := fun _ => True) HK10.out (fun _ _ _ => id) (fun _ _ _ => trivial))⟩, ?_⟩
            refine perm_q (v := ?v3_7) (some 91) rfl rfl rfl ?q3_7 ?h3_7; (case q3_7 => (intro w' hS; obtain ⟨s1, s2, s3⟩ := hS; first | (go_simp; done) | (go_simp; rfl))); (try simp only [PU])
            refine perm_q (v := ?v3_8) (some 92) rfl rfl rfl ?q3_8 ?h3_8; (case q3_8 => (intro w' hS; obtain ⟨s1, s2, s3⟩ := hS; first | (go_simp; done) | (go_simp; rfl))); (try simp only [PU])
            refine perm_q (v := ?v3_9) (some 93) rfl rfl rfl ?q3_9 ?h3_9; (case q3_9 => (intro w' hS; obtain ⟨s1, s2, s3⟩ := hS; first | (go_simp; done) | (go_simp; rfl))); (try simp only [PU])
            refine perm_q (v := ?v3_10) (some 94) rfl rfl rfl ?q3_10 ?h3_10; (case q3_10 => (intro w' hS; obtain ⟨s1, s2, s3⟩ := hS; first | (go_simp; done) | (go_simp; rfl))); (try simp only [PU])
            refine perm_q (v := ?v3_12) (some 96) rfl rfl rfl ?q3_12 ?h3_12; (case q3_12 => (intro w' hS; obtain ⟨s1, s2, s3⟩ := hS; first | (go_simp; done) | (go_simp; rfl))); (try simp only [PU])
            refine perm_q (v := ?v3_13) (some 97) rfl rfl rfl ?q3_13 ?h3_13; (case q3_13 => (intro w' hS; obtain ⟨s1, s2, s3⟩ := hS; first | (go_simp; done) | (go_simp; rfl))); (try simp only [PU])
            refine perm_q (v := ?v3_14) (some 98) rfl rfl rfl ?q3_14 ?h3_14; (case q3_14 => (intro w' hS; obtain ⟨s1, s2, s3⟩ := hS; first | (go_simp; done) | (go_simp; rfl))); (try simp only [PU])
            refine perm_q (v := ?v3_15) (some 99) rfl rfl rfl ?q3_15 ?h3_15; (case q3_15 => (intro w' hS; obtain ⟨s1, s2, s3⟩ := hS; first | (go_simp; done) | (go_simp; rfl))); (try simp only [PU])
            refine perm_q (v := ?v3_16) (some 100) rfl rfl rfl ?q3_16 ?h3_16; (case q3_16 => (intro w' hS; obtain ⟨s1, s2, s3⟩ := hS; first | (go_simp; done) | (go_simp; rfl))); (try simp only [PU])
            refine perm_e rfl ?_
            go_wp2_with (go_at_call 22; go_must (refine (left_fd (HF9.out.keep HK10.out id (fun _ _ => id))).mono ?_; rintro e w11 ⟨rfl, hw11⟩; obtain rfl := hw11.symm; rw [Hwn.out]))
            (try simp only [PU])
            refine ⟨⟨HK10.out.cell ((blk_cell Hbr9.out 0).trans rfl) id, run_conv_bs (P := Tryd.prog) (W := w10) Tryd.underlying38 Tryd.underlying5 Tryd.underlying9 (HO9.out.bytes.keep (X' := fun _ => True) HK10.out (fun _ _ _ => id) (fun _ _ _ => trivial)), run_conv_bs (P := Tryd.prog) (W := w10) Tryd.underlying38 Tryd.underlying5 Tryd.underlying9 (HPx9.out.keep (X' := fun _ => True) HK10.out (fun _ _ _ => id) (fun _ _ _ => trivial))⟩, ?_⟩
            refine perm_q (v := ?v3_17) (some 101) rfl rfl rfl ?q3_17 ?h3_17; (case q3_17 => (intro w' hS; obtain ⟨s1, s2, s3⟩ := hS; first | (go_simp; done) | (go_simp; rfl))); (try simp only [PU])
            refine perm_q (v := ?v3_18) (some 102) rfl rfl rfl ?q3_18 ?h3_18; (case q3_18 => (intro w' hS; obtain ⟨s1, s2, s3⟩ := hS; first | (go_simp; done) | (go_simp; rfl))); (try simp only [PU])
            refine perm_q (v := ?v3_19) (some 103) rfl rfl rfl ?q3_19 ?h3_19; (case q3_19 => (intro w' hS; obtain ⟨s1, s2, s3⟩ := hS; first | (go_simp; done) | (go_simp; rfl))); (try simp only [PU])
            refine perm_q (v := ?v3_20) (some 104) rfl rfl rfl ?q3_20 ?h3_20; (case q3_20 => (intro w' hS; obtain ⟨s1, s2, s3⟩ := hS; first | (go_simp; done) | (go_simp; rfl))); (try simp only [PU])
            refine perm_q (v := ?v3_21) (some 105) rfl rfl rfl ?q3_21 ?h3_21; (case q3_21 => (intro w' hS; obtain ⟨s1, s2, s3⟩ := hS; first | (go_simp; done) | (go_simp; rfl))); (try simp only [PU])
            refine perm_q (v := ?v3_22) (some 106) rfl rfl rfl ?q3_22 ?h3_22; (case q3_22 => (intro w' hS; obtain ⟨s1, s2, s3⟩ := hS; first | (go_simp; done) | (go_simp; rfl))); (try simp only [PU])
            refine perm_q (v := ?v3_23) (some 107) rfl rfl rfl ?q3_23 ?h3_23; (case q3_23 => (intro w' hS; obtain ⟨s1, s2, s3⟩ := hS; first | (go_simp; done) | (go_simp; rfl))); (try simp only [PU])
            refine perm_q (v := ?v3_24) (some 108) rfl rfl rfl ?q3_24 ?h3_24; (case q3_24 => (intro w' hS; obtain ⟨s1, s2, s3⟩ := hS; first | (go_simp; done) | (go_simp; rfl))); (try simp only [PU])
            refine perm_q (v := ?v3_25) (some 109) rfl rfl rfl ?q3_25 ?h3_25; (case q3_25 => (intro w' hS; obtain ⟨s1, s2, s3⟩ := hS; first | (go_simp; done) | (go_simp; rfl))); (try simp only [PU])
            refine perm_nil ?_
            go_wp2
            go_roundg (n0 - i - 1)
            case measure => omega
            case rel => exact ⟨i + 1, ws2, dead2, kb2, kq2, by rfl, by omega, Lib.hid Hb2.out.1, Lib.hid (HF9.out.keep HK10.out id (fun _ _ => id)), Lib.hid (HR9.out.keep HK10.out id (fun _ _ => id)),
                Lib.hid (fun b e e2 => by
                  rcases Hkb2.out b e with h | h
                  · exact Hkb.out b h e2
                  · have := Hrq.out; have := Hsz.out; have := Hs8.out; omega),
                Lib.hid (fun b e e2 => by
                  rcases Hkq2.out b e with h | h
                  · exact Hkq.out b h e2
                  · have := Hrq.out; have := Hsz.out; have := Hs8.out; omega),
                Lib.hid (by have h1 := HK10.out.size; have h2 := Hs8.out; have h3 := Hs9.out; have h4 := Hsz.out; omega),
                Lib.hid (show Keeps Nob w w10 from (HK.out.trans HK9.out (fun j hj e => by have := Hrq.out; have := Hrb.out; rcases e with e | e <;> omega)).trans HK10.out (fun _ _ h => h))⟩
          · have hi' : n0 = i := by omega
            subst hi'
            go_wp2_with (first
              | (go_at_call 13; go_must (refine (alive13 (Tab.after HT.out HK.out)).mono ?_; rintro e w9 ⟨rfl, hk9⟩); have HKz := Lib.hid (HK.out.trans hk9 (fun _ _ h => h)); clear hk9; (try simp only [PU]))
            )
            go_ret
            exact ⟨rfl, HKz.out⟩
      · skip
        clear HG HR Hfl Hfb
        go_wp2_with (first
          | (go_at_call 27; go_must (refine (new27 _).mono ?_; rintro e w4 ⟨rb, rfl, hgr, hlr, hfd, hk4⟩)
             have HF := Lib.hid hfd
             have Hrb := Lib.hid (show w.heap.size ≤ rb ∧ rb < w4.heap.size from ⟨Nat.le_trans HKc.out.size hgr, hlr⟩)
             have HK4 := Lib.hid (HKc.out.trans hk4 (fun _ _ h => h))
             have hnil := ptr39_s rb
             clear hk4 hgr hlr hfd
             (try simp only [PU]))
          | ((with_reducible refine at_dst (N := 60) rfl ?_); go_must (refine ev_box (cs := #[.slice none 0 0, .bool false]) rfl rfl rfl ?_; intro rq w5 hgq hlq hbq hkq)
             have HF := Lib.hid (HF.out.keep hkq id (fun b e => by cases e))
             have HRf := Lib.hid (show RfX w5 rq none [] false from ⟨none, 0, 0, hbq, BytesX.nil _ _⟩)
             have Hrq := Lib.hid (show w.heap.size ≤ rq ∧ rb ≠ rq ∧ rq < w5.heap.size ∧ rb < w5.heap.size by have := Hrb.out; have := HK4.out.size; have := hkq.size; omega)
             have HK5 := Lib.hid (HK4.out.trans hkq (fun _ _ h => h))
             clear hgq hlq hbq hkq
             (try simp only [PU]))
        )
        go_loopg [65] n0 (fun K iv wr => ∃ (i : Nat) (ws : Bs) (dead : Bool) (kb kq : Option Nat), iv = .int .i64 i ∧ i + K = n0 ∧ Hid (ws.length ≤ lens (ls.take i)) ∧ Hid (FdX wr rb kb ws dead) ∧ Hid (RfX wr rq kq ws dead) ∧ Hid (∀ b, kb = some b → b ≠ rq) ∧ Hid (∀ b, kq = some b → b ≠ rb) ∧ Hid (w5.heap.size ≤ wr.heap.size) ∧ Hid (Keeps Nob w wr))
        case atStart => exact ⟨0, [], false, none, none, rfl, by omega, Lib.hid (Nat.zero_le _), HF, HRf, Lib.hid (fun b e => by cases e), Lib.hid (fun b e => by cases e), Lib.hid (Nat.le_refl _), HK5⟩
        case round =>
          obtain ⟨i, ws, dead, kb, kq, rfl, hiK, Hws, HF, HRf, Hkb, Hkq, Hsz, HK⟩ := hrel
          by_cases hlt : i < n0
          · obtain ⟨pb, po, rfl, -, P, pn, pc, hcell0, hpx, -⟩ := HX.out i (by rw [← HL.out]; exact hlt)
            have hcell := HK.out.cell hcell0 id
            obtain ⟨p, hp⟩ : ∃ p, ls.getD i [] = p := ⟨_, rfl⟩
            rw [hp] at hpx
            have Hpx := Lib.hid (hpx.keep (X' := fun b => b < w.heap.size) HK.out (fun _ _ _ => id) (fun b h _ => h))
            have Hpn := Lib.hid hpx.len.1
            have Hnx := Lib.hid (show lens (ls.take (i + 1)) = lens (ls.take i) + p.length ∧ lens (ls.take (i + 1)) ≤ 6000 from ⟨by rw [sumL_take (by rw [← HL.out]; exact hlt), hp], (Hml.out (i + 1)).1⟩)
            obtain ⟨S, hS⟩ : ∃ S, stepR ws dead p = S := ⟨_, rfl⟩
            have hSl := stepR_len ws dead p
            rw [hS] at hSl
            obtain ⟨out, ws2, dead2, z⟩ := S
            have HS := Lib.hid hS
            obtain ⟨on, hon⟩ : ∃ x, out.length = x := ⟨_, rfl⟩
            obtain ⟨wn, hwn⟩ : ∃ x, ws2.length = x := ⟨_, rfl⟩
            have Hon := Lib.hid hon
            have Hwn := Lib.hid hwn
            have hSl1 : ws2.length ≤ ws.length + p.length := hSl.1
            have hSl2 : out.length ≤ ws.length + p.length := hSl.2
            have Hb2 := Lib.hid (show ws2.length ≤ lens (ls.take (i + 1)) ∧ on ≤ 6000 ∧ wn ≤ 6000 ∧ ws.length ≤ 6000 ∧ pn ≤ 6000 by have := Hws.out; have := Hnx.out; have := Hpn.out; omega)
            have hwni : (wn : Int) ≤ 6000 := by have := Hb2.out; omega
            clear hp hpx hcell0 hS hSl hSl1 hSl2 hon hwn
            go_wp2_with (first
              | ((with_reducible refine at_dst (N := 69) rfl ?_); go_must (refine ev_slice (cs := #[]) (t := 5) (n := 0) (c := 0) rfl (by first | (go_simp; done) | (go_simp; rfl)) ?_; intro g w6 hg hlg hbg hkg)
                 have HK6 := Lib.hid hkg
                 have HO1 := Lib.hid (show OwnB w6 wr.heap.size (.slice (some ⟨g, 0, none⟩) 0 0) [] from .inr ⟨g, 0, #[], (0, 0), rfl, hg, hbg, .inl (Nat.zero_le _), Nat.zero_le _, by decide, rfl, rfl⟩)
                 clear hbg hkg hg hlg
                 (try simp only [PU]))
              | ((with_reducible refine at_dst (N := 71) rfl ?_); go_must (refine ev_app_sl rfl rfl byteT38 (base := wr.heap.size) rfl HO1.out rfl (news := p) Hpn.out.symm (Hpx.out.keep (X' := fun b => b < w.heap.size) HK6.out (fun _ _ _ => id) (fun _ _ h => h)).news (by simp only [List.length_nil]; have := Hb2.out; omega) HK6.out.size ?_; intro v' w7 ho2 ha2)
                 have HK7 := Lib.hid (show Keeps Nob wr w7 from HK6.out.trans ha2.keep (fun i hi e => by have := (HO1.out.lt i e.symm).1; omega))
                 have ho3 : OwnB w7 wr.heap.size v' p := ho2
                 obtain ⟨nA, nc, hv'⟩ := ho3.slice
                 rw [← Hpn.out] at hv'
                 subst hv'
                 have HO2 := Lib.hid ho3
                 clear ho2 ha2 ho3
                 (try simp only [PU]))
              | (go_at_call 21; go_must (refine (step21 (HF.out.keep HK7.out id (fun _ _ => id)) HO2.out.bytes (by have := Hb2.out; omega) (by have := Hb2.out; omega)).mono ?_; rw [HS.out]; rintro e w8 ⟨⟨ov, rfl, hol⟩, ⟨kb2, hkb2, hfd⟩, hk8⟩; obtain ⟨oA, oc, hov, -⟩ := hol.slice; rw [show (out, ws2, dead2, z).1.length = on from Hon.out] at hov; subst hov)
                 have HL8 := Lib.hid (show OwnL w8 w7.heap.size (.slice oA on oc) out from hol)
                 have Hkb2 := Lib.hid hkb2
                 have HF8 := Lib.hid (show FdX w8 rb kb2 ws2 dead2 from hfd)
                 have HR8 := Lib.hid ((HRf.out.keep HK7.out id (fun _ _ => id)).keep hk8 (fun e => Hrq.out.2.1 e.symm) (fun b e e2 => Hkq.out b e.symm e2))
                 have HO8 := Lib.hid (HO2.out.keep hk8 (fun k hk e => by have := (HO2.out.lt k hk).1; have := Hrq.out; have := Hsz.out; omega))
                 have HK8 := Lib.hid (show Keeps (fun b => b = rb ∨ b = rq) wr w8 from HK7.out.any.trans (hk8.mono (fun _ _ e => .inl e)) (fun _ _ h => h))
                 have Hs8 := Lib.hid (show wr.heap.size ≤ w7.heap.size ∧ w7.heap.size ≤ w8.heap.size from ⟨HK7.out.size, hk8.size⟩)
                 clear hol hkb2 hfd hk8
                 (try simp only [PU]))
              | (go_at_call 28; go_must (refine (step28 HR8.out (Hpx.out.keep (X' := fun b => b < w.heap.size) HK8.out (fun b _ hb e => by have := Hrq.out; have := Hrb.out; rcases e with e | e <;> omega) (fun _ _ h => h)) (by have := Hb2.out; omega) (by have := Hb2.out; omega)).mono ?_; rw [HS.out]; rintro e w9 ⟨⟨ov, rfl, hol⟩, ⟨kq2, hkq2, hfd⟩, hk9⟩; obtain ⟨qA, qc, hov, -⟩ := hol.slice; rw [show (out, ws2, dead2, z).1.length = on from Hon.out] at hov; subst hov)
                 have HL9 := Lib.hid (show OwnL w9 w8.heap.size (.slice qA on qc) out from hol)
                 have Hkq2 := Lib.hid hkq2
                 have HR9 := Lib.hid (show RfX w9 rq kq2 ws2 dead2 from hfd)
                 have HF9 := Lib.hid (HF8.out.keep hk9 (fun e => Hrq.out.2.1 e) (fun b e e2 => by
                   rcases Hkb2.out b e.symm with h | h
                   · exact Hkb.out b h e2
                   · have := Hrq.out; have := Hsz.out; have := Hs8.out; omega))
                 have HLa9 := Lib.hid (HL8.out.keep hk9 (fun b _ e => by have := Hrq.out; have := Hsz.out; have := Hs8.out; omega))
                 have HO9 := Lib.hid (HO8.out.keep hk9 (fun k hk e => by have := (HO8.out.lt k hk).1; have := Hrq.out; have := Hsz.out; omega))
                 have HK9 := Lib.hid (show Keeps (fun b => b = rb ∨ b = rq) wr w9 from HK8.out.trans (hk9.mono (fun _ _ e => .inr e)) (fun _ _ h => h))
                 have Hs9 := Lib.hid hk9.size
                 clear hol hkq2 hfd hk9
                 (try simp only [PU]))
            )
            have HKd := Lib.hid (show Keeps Nob w9 w9.drew from (Keeps.refl Nob w9).drew)
            have hcg := run_conv_bs (P := Tryd.prog) (W := w9.drew) Tryd.underlying38 Tryd.underlying5 Tryd.underlying9 (HO9.out.bytes.keep (X' := fun _ => True) HKd.out (fun _ _ _ => id) (fun _ _ _ => trivial))
            have HPx9 := Lib.hid (Hpx.out.keep (X' := fun _ => True) HK9.out (fun b _ hb e => by have := Hrq.out; have := Hrb.out; rcases e with e | e <;> omega) (fun _ _ _ => trivial))
            have hcp := run_conv_bs (P := Tryd.prog) (W := w9.drew) Tryd.underlying38 Tryd.underlying5 Tryd.underlying9 (HPx9.out.keep (X' := fun _ => True) HKd.out (fun _ _ _ => id) (fun _ _ _ => trivial))
            obtain ⟨rA, rn, rc, hbr9, hrx9⟩ := id HR9.out
            have hrn : rn = wn := by rw [hrx9.len.1]; exact Hwn.out
            rw [hrn] at hbr9
            have Hbr9 := Lib.hid hbr9
            have hcr : w9.drew.cell? ⟨rq, 0, none⟩ = some (.slice rA wn rc) := (blk_cell (HKd.out.blk hbr9 id) 0).trans rfl
            clear hbr9 hrx9 hrn
            refine wp_region_perm [(0, true), (1, true), (2, true), (3, true), (4, true), (5, true), (6, false), (7, true), (8, true), (9, true), (10, true), (12, true), (13, true), (14, true), (15, true), (16, true), (11, false), (17, true), (18, true), (19, true), (20, true), (21, true), (22, true), (23, true), (24, true), (25, true)] (fun w' => w'.cell? ⟨rq, 0, none⟩ = some (.slice rA wn rc) ∧ (convert 38 9 (.slice nA pn nc)).run Tryd.prog w' = .ok (.string (mkB p)) w' ∧ (convert 38 9 (.slice P pn pc)).run Tryd.prog w' = .ok (.string (mkB p)) w') rfl (by kernel_rfl) (by kernel_rfl) (by decide) (fun c a d v w h => by cases d <;> exact h) ⟨hcr, hcg, hcp⟩ ?_
            refine perm_q (v := ?v4_0) (some 84) rfl rfl rfl ?q4_0 ?h4_0; (case q4_0 => (intro w' hS; obtain ⟨s1, s2, s3⟩ := hS; first | (go_simp; done) | (go_simp; rfl))); (try simp only [PU])
            refine perm_q (v := ?v4_1) (some 85) rfl rfl rfl ?q4_1 ?h4_1; (case q4_1 => (intro w' hS; obtain ⟨s1, s2, s3⟩ := hS; first | (go_simp; done) | (go_simp; rfl))); (try simp only [PU])
            refine perm_q (v := ?v4_2) (some 86) rfl rfl rfl ?q4_2 ?h4_2; (case q4_2 => (intro w' hS; obtain ⟨s1, s2, s3⟩ := hS; first | (go_simp; done) | (go_simp; rfl))); (try simp only [PU])
            refine perm_q (v := ?v4_3) (some 87) rfl rfl rfl ?q4_3 ?h4_3; (case q4_3 => (intro w' hS; obtain ⟨s1, s2, s3⟩ := hS; first | (go_simp; done) | (go_simp; rfl))); (try simp only [PU])
            refine perm_q (v := ?v4_4) (some 88) rfl rfl rfl ?q4_4 ?h4_4; (case q4_4 => (intro w' hS; obtain ⟨s1, s2, s3⟩ := hS; first | (go_simp; done) | (go_simp; rfl))); (try simp only [PU])
            refine perm_q (v := ?v4_5) (some 89) rfl rfl rfl ?q4_5 ?h4_5; (case q4_5 => (intro w' hS; obtain ⟨s1, s2, s3⟩ := hS; first | (go_simp; done) | (go_simp; rfl))); (try simp only [PU])
            refine perm_e rfl ?_
            go_wp2_with (go_at_call 29; go_must (refine (lists29 (HLa9.out.keep HKd.out (fun _ _ h => h.elim)) (HL9.out.keep HKd.out (fun _ _ h => h.elim)) Hon.out.symm (by have := Hb2.out; omega)).mono ?_; rintro e w10 ⟨rfl, hk10⟩))
            have HK10 := Lib.hid (show Keeps Nob w9 w10 from HKd.out.trans hk10 (fun _ _ h => h))
            (try simp only [PU])
            refine ⟨⟨HK10.out.cell ((blk_cell Hbr9.out 0).trans rfl) id, run_conv_bs (P := Tryd.prog) (W := w10) Tryd.underlying38 Tryd.underlying5 Tryd.underlying9 (HO9.out.bytes.keep (X' := fun _ => True) HK10.out (fun _ _ _ => id) (fun _ _ _ => trivial)), run_conv_bs (P := Tryd.prog) (W := w10) Tryd.underlying38 Tryd.underlying5 Tryd.underlying9 (HPx9.out.keep (X' := fun _ => True) HK10.out (fun _ _ _ => id) (fun _ _ _ => trivial))⟩, ?_⟩
            refine perm_q (v := ?v4_7) (some 91) rfl rfl rfl ?q4_7 ?h4_7; (case q4_7 => (intro w' hS; obtain ⟨s1, s2, s3⟩ := hS; first | (go_simp; done) | (go_simp; rfl))); (try simp only [PU])
            refine perm_q (v := ?v4_8) (some 92) rfl rfl rfl ?q4_8 ?h4_8; (case q4_8 => (intro w' hS; obtain ⟨s1, s2, s3⟩ := hS; first | (go_simp; done) | (go_simp; rfl))); (try simp only [PU])
            refine perm_q (v := ?v4_9) (some 93) rfl rfl rfl ?q4_9 ?h4_9; (case q4_9 => (intro w' hS; obtain ⟨s1, s2, s3⟩ := hS; first | (go_simp; done) | (go_simp; rfl))); (try simp only [PU])
            refine perm_q (v := ?v4_10) (some 94) rfl rfl rfl ?q4_10 ?h4_10; (case q4_10 => (intro w' hS; obtain ⟨s1, s2, s3⟩ := hS; first | (go_simp; done) | (go_simp; rfl))); (try simp only [PU])
            refine perm_q (v := ?v4_12) (some 96) rfl rfl rfl ?q4_12 ?h4_12; (case q4_12 => (intro w' hS; obtain ⟨s1, s2, s3⟩ := hS; first | (go_simp; done) | (go_simp; rfl))); (try simp only [PU])
            refine perm_q (v := ?v4_13) (some 97) rfl rfl rfl ?q4_13 ?h4_13; (case q4_13 => (intro w' hS; obtain ⟨s1, s2, s3⟩ := hS; first | (go_simp; done) | (go_simp; rfl))); (try simp only [PU])
            refine perm_q (v := ?v4_14) (some 98) rfl rfl rfl ?q4_14 ?h4_14; (case q4_14 => (intro w' hS; obtain ⟨s1, s2, s3⟩ := hS; first | (go_simp; done) | (go_simp; rfl))); (try simp only [PU])
            refine perm_q (v := ?v4_15) (some 99) rfl rfl rfl ?q4_15 ?h4_15; (case q4_15 => (intro w' hS; obtain ⟨s1, s2, s3⟩ := hS; first | (go_simp; done) | (go_simp; rfl))); (try simp only [PU])
            refine perm_q (v := ?v4_16) (some 100) rfl rfl rfl ?q4_16 ?h4_16; (case q4_16 => (intro w' hS; obtain ⟨s1, s2, s3⟩ := hS; first | (go_simp; done) | (go_simp; rfl))); (try simp only [PU])
            refine perm_e rfl ?_
            go_wp2_with (go_at_call 22; go_must (refine (left_fd (HF9.out.keep HK10.out id (fun _ _ => id))).mono ?_; rintro e w11 ⟨rfl, hw11⟩; obtain rfl := hw11.symm; rw [Hwn.out]))
            (try simp only [PU])
            refine ⟨⟨HK10.out.cell ((blk_cell Hbr9.out 0).trans rfl) id, run_conv_bs (P := Tryd.prog) (W := w10) Tryd.underlying38 Tryd.underlying5 Tryd.underlying9 (HO9.out.bytes.keep (X' := fun _ => True) HK10.out (fun _ _ _ => id) (fun _ _ _ => trivial)), run_conv_bs (P := Tryd.prog) (W := w10) Tryd.underlying38 Tryd.underlying5 Tryd.underlying9 (HPx9.out.keep (X' := fun _ => True) HK10.out (fun _ _ _ => id) (fun _ _ _ => trivial))⟩, ?_⟩
            refine perm_q (v := ?v4_17) (some 101) rfl rfl rfl ?q4_17 ?h4_17; (case q4_17 => (intro w' hS; obtain ⟨s1, s2, s3⟩ := hS; first | (go_simp; done) | (go_simp; rfl))); (try simp only [PU])
            refine perm_q (v := ?v4_18) (some 102) rfl rfl rfl ?q4_18 ?h4_18; (case q4_18 => (intro w' hS; obtain ⟨s1, s2, s3⟩ := hS; first | (go_simp; done) | (go_simp; rfl))); (try simp only [PU])
            refine perm_q (v := ?v4_19) (some 103) rfl rfl rfl ?q4_19 ?h4_19; (case q4_19 => (intro w' hS; obtain ⟨s1, s2, s3⟩ := hS; first | (go_simp; done) | (go_simp; rfl))); (try simp only [PU])
            refine perm_q (v := ?v4_20) (some 104) rfl rfl rfl ?q4_20 ?h4_20; (case q4_20 => (intro w' hS; obtain ⟨s1, s2, s3⟩ := hS; first | (go_simp; done) | (go_simp; rfl))); (try simp only [PU])
            refine perm_q (v := ?v4_21) (some 105) rfl rfl rfl ?q4_21 ?h4_21; (case q4_21 => (intro w' hS; obtain ⟨s1, s2, s3⟩ := hS; first | (go_simp; done) | (go_simp; rfl))); (try simp only [PU])
            refine perm_q (v := ?v4_22) (some 106) rfl rfl rfl ?q4_22 ?h4_22; (case q4_22 => (intro w' hS; obtain ⟨s1, s2, s3⟩ := hS; first | (go_simp; done) | (go_simp; rfl))); (try simp only [PU])
            refine perm_q (v := ?v4_23) (some 107) rfl rfl rfl ?q4_23 ?h4_23; (case q4_23 => (intro w' hS; obtain ⟨s1, s2, s3⟩ := hS; first | (go_simp; done) | (go_simp; rfl))); (try simp only [PU])
            refine perm_q (v := ?v4_24) (some 108) rfl rfl rfl ?q4_24 ?h4_24; (case q4_24 => (intro w' hS; obtain ⟨s1, s2, s3⟩ := hS; first | (go_simp; done) | (go_simp; rfl))); (try simp only [PU])
            refine perm_q (v := ?v4_25) (some 109) rfl rfl rfl ?q4_25 ?h4_25; (case q4_25 => (intro w' hS; obtain ⟨s1, s2, s3⟩ := hS; first | (go_simp; done) | (go_simp; rfl))); (try simp only [PU])
            refine perm_nil ?_
            go_wp2
            go_roundg (n0 - i - 1)
            case measure => omega
            case rel => exact ⟨i + 1, ws2, dead2, kb2, kq2, by rfl, by omega, Lib.hid Hb2.out.1, Lib.hid (HF9.out.keep HK10.out id (fun _ _ => id)), Lib.hid (HR9.out.keep HK10.out id (fun _ _ => id)),
                Lib.hid (fun b e e2 => by
                  rcases Hkb2.out b e with h | h
                  · exact Hkb.out b h e2
                  · have := Hrq.out; have := Hsz.out; have := Hs8.out; omega),
                Lib.hid (fun b e e2 => by
                  rcases Hkq2.out b e with h | h
                  · exact Hkq.out b h e2
                  · have := Hrq.out; have := Hsz.out; have := Hs8.out; omega),
                Lib.hid (by have h1 := HK10.out.size; have h2 := Hs8.out; have h3 := Hs9.out; have h4 := Hsz.out; omega),
                Lib.hid (show Keeps Nob w w10 from (HK.out.trans HK9.out (fun j hj e => by have := Hrq.out; have := Hrb.out; rcases e with e | e <;> omega)).trans HK10.out (fun _ _ h => h))⟩
          · have hi' : n0 = i := by omega
            subst hi'
            go_wp2_with (first
              | (go_at_call 13; go_must (refine (alive13 (Tab.after HT.out HK.out)).mono ?_; rintro e w9 ⟨rfl, hk9⟩); have HKz := Lib.hid (HK.out.trans hk9 (fun _ _ h => h)); clear hk9; (try simp only [PU]))
            )
            go_ret
            exact ⟨rfl, HKz.out⟩
end Go.Proofs.WV

/-
  How the statements' values lie in memory, out of their readings; how large they are. No condition.
-/
namespace Go.Proofs.WV
open Go.RowKit Go.Proofs.KL Go.Proofs.WM Go.ChangeShapes Go.Proofs.YtcmmnbipaemgiaaDoor
set_option maxRecDepth 100000
set_option linter.unusedVariables false

theorem spot_none {w : World} {a : Addr} {v : Value} (h : w.cell? a = some v) : ∃ b o, a = ⟨b, o, none⟩ := by
  obtain ⟨b, o, s⟩ := a
  cases s with
  | none => exact ⟨b, o, rfl⟩
  | some x => unfold World.cell? at h; simp only [Option.isSome_some, if_true] at h; split at h <;> cases h
theorem add_at (b o i : Nat) : (⟨b, o, none⟩ : Addr).add i = ⟨b, o + i, none⟩ := by
  unfold Addr.add
  split
  · rename_i h; subst h; rfl
  · rfl
theorem one_of {l : List Value} {i : Nat} {v : Value} (h : l[i]? = some v) : (l.drop i).take 1 = [v] := by
  obtain ⟨hi, hv⟩ := List.getElem?_eq_some_iff.1 h
  rw [List.drop_eq_getElem_cons hi, hv]; rfl
theorem list_of {α : Type} [Inhabited α] {n : Nat} {p : Nat → α → Prop} (h : ∀ i, i < n → ∃ a, p i a) : ∃ l : List α, l.length = n ∧ ∀ i, i < n → p i (l.getD i default) := by
  induction n with
  | zero => exact ⟨[], rfl, fun i hi => absurd hi (by omega)⟩
  | succ n ih =>
    obtain ⟨l, hl, hp⟩ := ih (fun i hi => h i (by omega))
    obtain ⟨a, ha⟩ := h n (by omega)
    refine ⟨l ++ [a], by simp [hl], fun i hi => ?_⟩
    rw [List.getD_eq_getElem?_getD, List.getElem?_append]
    by_cases e : i < n
    · rw [if_pos (by omega), ← List.getD_eq_getElem?_getD]; exact hp i e
    · obtain rfl : i = n := by omega
      rw [if_neg (by omega), hl]; simpa using ha
theorem cells9 : Tryd.prog.cellsOf 9 = 1 := by kernel_rfl
theorem cells3 : Tryd.prog.cellsOf 3 = 1 := by kernel_rfl
theorem cells4 : Tryd.prog.cellsOf 4 = 1 := by kernel_rfl
theorem cells2 : Tryd.prog.cellsOf 2 = 1 := by kernel_rfl
theorem cells22 : Tryd.prog.cellsOf 22 = 1 := by kernel_rfl
theorem cells23 : Tryd.prog.cellsOf 23 = 1 := by kernel_rfl
theorem cells25 : Tryd.prog.cellsOf 25 = 6 := by kernel_rfl
theorem bulk_one {H : Type} (d : DataW H) : 1 ≤ Rows.uptoBulk d := by
  cases d with
  | lit l => cases l <;> simp [Rows.uptoBulk]
  | nil => simp [Rows.uptoBulk]
  | ptr d => simp [Rows.uptoBulk]
  | slice elems spare => simp [Rows.uptoBulk]
  | agg parts => simp [Rows.uptoBulk]
  | iface t d => simp [Rows.uptoBulk]
  | map entries => simp [Rows.uptoBulk]
  | held h => simp [Rows.uptoBulk]
theorem bulk_string {H : Type} (s : ByteArray) : Rows.uptoBulk (DataW.lit (H := H) (.string s.data.toList)) = s.size + 1 := by simp [Rows.uptoBulk]
section
variable {H : Type} {enc : TypeId × Value → H} {W : World} {base : Nat} {sp : Nat → Bool} {held : Bool}
/-- A sum over a list of the elements' measures, each bounded by its datum's bulk. -/
theorem bulk_sum {H : Type} {α : Type} (f : α → Nat) : ∀ (l : List α) (es : List (DataW H × List MemPlace)), l.length = es.length → (∀ i, i < l.length → ∀ a x, l[i]? = some a → es[i]? = some x → f a ≤ Rows.uptoBulk x.1) → (l.map f).sum ≤ Rows.uptoBulkAll (es.map (·.1))
  | [], [], _, _ => by simp [Rows.uptoBulkAll]
  | a :: l, x :: es, hl, h => by
    have h0 := h 0 (by simp) a x rfl rfl
    have h1 := bulk_sum f l es (by simpa using hl) (fun i hi a' x' ha hx => h (i + 1) (by simpa using hi) a' x' (by simpa using ha) (by simpa using hx))
    simp only [List.map_cons, List.sum_cons, Rows.uptoBulkAll]
    omega
  | [], _ :: _, hl, _ => by simp at hl
  | _ :: _, [], hl, _ => by simp at hl
theorem strs_of {fuel : Nat} {v : Value} {x : DataW H × List MemPlace} (h : DataW.trod enc Tryd.prog W base sp held fuel 22 [v] = some x) : ∃ ks, StrsX W (fun _ => True) v ks ∧ ks.length + (ks.map ByteArray.size).sum + 1 ≤ Rows.uptoBulk x.1 := by
  rcases DataW.trod_slice Tryd.underlying22 h with ⟨hc, hx⟩ | ⟨a, len, cap, elems, rest, n, _, hc, hx, _, hl, _, hel, hget, _, _⟩
  · injection hc with hc _
    subst hc
    exact ⟨[], strs_nil _ _, by simpa using bulk_one x.1⟩
  · injection hc with hc _
    subst hc
    have key : ∀ i, i < len → ∃ s : ByteArray, (∃ y, elems[i]? = some y ∧ y.1 = .lit (.string s.data.toList)) ∧ ∃ b o, a = ⟨b, o, none⟩ ∧ W.cell? ⟨b, o + i, none⟩ = some (.string s) := by
      intro i hi
      have hg := hget i hi
      rw [List.getElem?_eq_getElem (by omega), cells9, Nat.mul_one] at hg
      obtain ⟨cs, hcs, hst⟩ := Option.bind_eq_some_iff.1 hg
      obtain ⟨_, hlen, hcell⟩ := World.cells?_some hcs
      obtain ⟨s, rfl, hy, _⟩ := DataW.trod_string Tryd.underlying9 hst
      have e0 := hcell 0 (by omega)
      have hadd : (a.add i).add 0 = a.add i := by simp [Addr.add]
      rw [hadd] at e0
      have hsp : ∃ b o, a = ⟨b, o, none⟩ := by
        have hg0 := hget 0 (by omega)
        rw [List.getElem?_eq_getElem (by omega), cells9, Nat.mul_one] at hg0
        obtain ⟨cs0, hcs0, _⟩ := Option.bind_eq_some_iff.1 hg0
        obtain ⟨_, hlen0, hcell0⟩ := World.cells?_some hcs0
        have := hcell0 0 (by omega)
        rw [List.getElem?_eq_getElem (by omega), show (a.add 0).add 0 = a by simp [Addr.add]] at this
        exact spot_none this
      obtain ⟨b, o, rfl⟩ := hsp
      rw [add_at] at e0
      exact ⟨s, ⟨_, List.getElem?_eq_getElem (by omega), by rw [hy]⟩, b, o, rfl, e0⟩
    obtain ⟨ks, hkl, hp⟩ := list_of (α := ByteArray) key
    refine ⟨ks, ⟨some a, cap, by rw [hkl], by omega, fun i hi => ?_⟩, ?_⟩
    · obtain ⟨_, b, o, rfl, hc⟩ := hp i (by omega)
      exact ⟨b, o, rfl, trivial, hc⟩
    · have hs := bulk_sum (fun s : ByteArray => s.size + 1) ks elems (by omega) (fun i hi s y hs hy => by
        obtain ⟨⟨y', hy', hd⟩, _⟩ := hp i (by omega)
        rw [hy] at hy'
        injection hy' with hy'
        subst hy'
        have e : ks.getD i default = s := by rw [List.getD_eq_getElem?_getD, hs]; rfl
        rw [hd, e, bulk_string]
        exact Nat.le_refl _)
      have e2 : (ks.map fun s : ByteArray => s.size + 1).sum = (ks.map ByteArray.size).sum + ks.length := by
        clear hp hkl hs
        induction ks with
        | nil => rfl
        | cons k ks ih => simp only [List.map_cons, List.sum_cons, List.length_cons, ih]; omega
      rw [hx]
      simp only [Rows.uptoBulk]
      omega
theorem sizeL_sum : ∀ vs : List J, sizeL vs = (vs.map sizeJ).sum
  | [] => rfl
  | v :: vs => by unfold sizeL; rw [sizeL_sum vs]; rfl
/-- A value, out of its reading. -/
theorem json_of : ∀ (fuel : Nat) {cs : List Value} {x : DataW H × List MemPlace}, DataW.trod enc Tryd.prog W base sp held fuel 25 cs = some x → ∃ (v0 v1 v2 v3 v4 v5 : Value) (j : J), cs = [v0, v1, v2, v3, v4, v5] ∧ JX W (fun _ => True) (.agg #[v0, v1, v2, v3, v4, v5]) j ∧ sizeJ j ≤ Rows.uptoBulk x.1 := by
  intro fuel
  induction fuel using Nat.strongRecOn with
  | _ fuel ih =>
    intro cs x h
    obtain ⟨xs, n, hfu, hx, hcl, hxl, hf⟩ := DataW.trod_struct Tryd.underlying25 h
    rw [cells25] at hcl
    have f0 : DataW.trod enc Tryd.prog W base sp held n 3 ((cs.drop 0).take (Tryd.prog.cellsOf 3)) = xs[0]? := hf 0 _ rfl
    have f1 : DataW.trod enc Tryd.prog W base sp held n 4 ((cs.drop 1).take (Tryd.prog.cellsOf 4)) = xs[1]? := hf 1 _ rfl
    have f2 : DataW.trod enc Tryd.prog W base sp held n 2 ((cs.drop 2).take (Tryd.prog.cellsOf 2)) = xs[2]? := hf 2 _ rfl
    have f3 : DataW.trod enc Tryd.prog W base sp held n 9 ((cs.drop 3).take (Tryd.prog.cellsOf 9)) = xs[3]? := hf 3 _ rfl
    have f4 : DataW.trod enc Tryd.prog W base sp held n 22 ((cs.drop 4).take (Tryd.prog.cellsOf 22)) = xs[4]? := hf 4 _ rfl
    have f5 : DataW.trod enc Tryd.prog W base sp held n 23 ((cs.drop 5).take (Tryd.prog.cellsOf 23)) = xs[5]? := hf 5 _ rfl
    have hxs : xs.length = 6 := hxl
    obtain ⟨v0, v1, v2, v3, v4, v5, rfl⟩ : ∃ v0 v1 v2 v3 v4 v5, cs = [v0, v1, v2, v3, v4, v5] := by
      match cs, hcl with
      | [v0, v1, v2, v3, v4, v5], _ => exact ⟨v0, v1, v2, v3, v4, v5, rfl⟩
    obtain ⟨x0, x1, x2, x3, x4, x5, rfl⟩ : ∃ x0 x1 x2 x3 x4 x5, xs = [x0, x1, x2, x3, x4, x5] := by
      match xs, hxs with
      | [x0, x1, x2, x3, x4, x5], _ => exact ⟨x0, x1, x2, x3, x4, x5, rfl⟩
    rw [cells3] at f0
    rw [cells4] at f1
    rw [cells2] at f2
    rw [cells9] at f3
    rw [cells22] at f4
    rw [cells23] at f5
    obtain ⟨k, hk, hx0, _⟩ := DataW.trod_int Tryd.underlying3 (show DataW.trod enc Tryd.prog W base sp held n 3 [v0] = some x0 from f0)
    obtain ⟨b, hb, hx1⟩ := DataW.trod_bool Tryd.underlying4 (show DataW.trod enc Tryd.prog W base sp held n 4 [v1] = some x1 from f1)
    obtain ⟨m, hm, hx2, _⟩ := DataW.trod_int Tryd.underlying2 (show DataW.trod enc Tryd.prog W base sp held n 2 [v2] = some x2 from f2)
    obtain ⟨t, ht, hx3, _⟩ := DataW.trod_string Tryd.underlying9 (show DataW.trod enc Tryd.prog W base sp held n 9 [v3] = some x3 from f3)
    obtain ⟨ks, hks, hkb⟩ := strs_of (show DataW.trod enc Tryd.prog W base sp held n 22 [v4] = some x4 from f4)
    injection hk with hk _
    injection hb with hb _
    injection hm with hm _
    injection ht with ht _
    subst hk hb hm ht
    have hvs : ∃ vs, JsX W (fun _ => True) v5 vs ∧ sizeL vs + 1 ≤ Rows.uptoBulk x5.1 := by
      rcases DataW.trod_slice Tryd.underlying23 (show DataW.trod enc Tryd.prog W base sp held n 23 [v5] = some x5 from f5) with ⟨hc, hx⟩ | ⟨a, len, cap, elems, rest, n', hn', hc, hx5, _, hl, _, hel, hget, _, _⟩
      · injection hc with hc _
        subst hc
        exact ⟨[], ⟨none, 0, fun _ _ => .nilIface, rfl, Nat.le_refl _, fun i hi => absurd hi (Nat.not_lt_zero _), fun i hi => absurd hi (Nat.not_lt_zero _)⟩, by simpa [sizeL] using bulk_one x5.1⟩
      · injection hc with hc _
        subst hc
        have hsp : 0 < len → ∃ b o, a = ⟨b, o, none⟩ := by
          intro h0
          have hg0 := hget 0 h0
          rw [List.getElem?_eq_getElem (by omega), cells25] at hg0
          obtain ⟨cs0, hcs0, _⟩ := Option.bind_eq_some_iff.1 hg0
          obtain ⟨_, hlen0, hcell0⟩ := World.cells?_some hcs0
          have := hcell0 0 (by omega)
          rw [List.getElem?_eq_getElem (by omega), show (0 * 6 : Nat) = 0 from rfl, show (a.add 0).add 0 = a by simp [Addr.add]] at this
          exact spot_none this
        have key : ∀ i, i < len → ∃ j : J, ∃ u : Nat → Value, (∃ y, elems[i]? = some y ∧ sizeJ j ≤ Rows.uptoBulk y.1) ∧ JX W (fun _ => True) (.agg #[u 0, u 1, u 2, u 3, u 4, u 5]) j ∧ ∃ b o, a = ⟨b, o, none⟩ ∧ Six W b (o + i * 6) (u 0) (u 1) (u 2) (u 3) (u 4) (u 5) := by
          intro i hi
          have hg := hget i hi
          rw [List.getElem?_eq_getElem (by omega), cells25] at hg
          obtain ⟨cs, hcs, hst⟩ := Option.bind_eq_some_iff.1 hg
          obtain ⟨_, hlen, hcell⟩ := World.cells?_some hcs
          obtain ⟨w0, w1, w2, w3, w4, w5, j, rfl, hj, hjb⟩ := ih n' (by omega) hst
          obtain ⟨b, o, rfl⟩ := hsp (by omega)
          have e0 := hcell 0 (by decide)
          have e1 := hcell 1 (by decide)
          have e2 := hcell 2 (by decide)
          have e3 := hcell 3 (by decide)
          have e4 := hcell 4 (by decide)
          have e5 := hcell 5 (by decide)
          simp only [add_at] at e0 e1 e2 e3 e4 e5
          exact ⟨j, fun i => [w0, w1, w2, w3, w4, w5].getD i .nilIface, ⟨_, List.getElem?_eq_getElem (by omega), hjb⟩, hj, b, o, rfl, ⟨⟨e0, e1, e2⟩, e3, e4, e5⟩⟩
        obtain ⟨vs, hvl, hp⟩ := list_of (α := J) key
        have hchoose : ∀ i : Nat, ∃ u : Nat → Value, i < len → (JX W (fun _ => True) (.agg #[u 0, u 1, u 2, u 3, u 4, u 5]) (vs.getD i default) ∧ ∃ b o, a = ⟨b, o, none⟩ ∧ Six W b (o + i * 6) (u 0) (u 1) (u 2) (u 3) (u 4) (u 5)) := fun i => by
          by_cases hi : i < len
          · obtain ⟨u, _, h1, h2⟩ := hp i hi
            exact ⟨u, fun _ => ⟨h1, h2⟩⟩
          · exact ⟨fun _ => .nilIface, fun h => absurd h hi⟩
        refine ⟨vs, ⟨some a, cap, fun i => (hchoose i).choose, by rw [hvl], by omega, fun i hi => ?_, fun i hi => ((hchoose i).choose_spec (by omega)).1⟩, ?_⟩
        · obtain ⟨b, o, rfl, h6⟩ := ((hchoose i).choose_spec (by omega)).2
          exact ⟨b, o, rfl, trivial, h6⟩
        · have hs := bulk_sum sizeJ vs elems (by omega) (fun i hi j y hj hy => by
            obtain ⟨u, ⟨y', hy', hb⟩, _⟩ := hp i (by omega)
            rw [hy] at hy'
            injection hy' with hy'
            subst hy'
            have e : vs.getD i default = j := by rw [List.getD_eq_getElem?_getD, hj]; rfl
            rw [← e]
            exact hb)
          rw [sizeL_sum, hx5]
          simp only [Rows.uptoBulk]
          omega
    obtain ⟨vs, hvs, hvb⟩ := hvs
    refine ⟨_, _, _, _, _, _, .mk k b m t ks vs, rfl, JX.close hks hvs, ?_⟩
    have h3 : Rows.uptoBulk x3.1 = t.size + 1 := by rw [hx3]; exact bulk_string t
    have h0 := bulk_one x0.1
    have h1 := bulk_one x1.1
    have h2 := bulk_one x2.1
    rw [hx]
    unfold sizeJ
    simp only [Rows.uptoBulk, List.map_cons, List.map_nil, Rows.uptoBulkAll]
    omega
end
end Go.Proofs.WV

/-
  Lists of bytes and cuts, out of their readings. No condition.
-/
namespace Go.Proofs.WV
open Go.RowKit Go.Proofs.KL Go.Proofs.WM Go.ChangeShapes Go.Proofs.YtcmmnbipaemgiaaDoor
set_option maxRecDepth 100000
set_option linter.unusedVariables false

theorem cells59 : Tryd.prog.cellsOf 59 = 1 := by kernel_rfl
theorem cells38 : Tryd.prog.cellsOf 38 = 1 := by kernel_rfl
theorem bytesOf5 : Tryd.prog.bytesOf 5 = 1 := by kernel_rfl
theorem bytesOf59 : Tryd.prog.bytesOf 59 = 2 := by kernel_rfl
theorem bytesOf38 : Tryd.prog.bytesOf 38 = 24 := by kernel_rfl
theorem byteV_of {z : Int} (h : (Lit.int .u8 z).wf = true) : byteV (UInt8.ofNat z.toNat) = .int .u8 z := by
  have h2 : (decide (IntKind.min .u8 ≤ z) && decide (z ≤ IntKind.max .u8)) = true := h
  rw [Bool.and_eq_true, decide_eq_true_eq, decide_eq_true_eq, show IntKind.min .u8 = 0 from rfl, show IntKind.max .u8 = 255 from rfl] at h2
  unfold byteV
  rw [UInt8.toNat_ofNat', Nat.mod_eq_of_lt (by omega)]
  congr 1
  omega
section
variable {H : Type} {enc : TypeId × Value → H} {W : World} {base : Nat} {sp : Nat → Bool} {held : Bool}
theorem bytes_of {fuel : Nat} {v : Value} {x : DataW H × List MemPlace} (h : DataW.trod enc Tryd.prog W base sp held fuel 38 [v] = some x) (hw : ∀ n ∈ x.1.weights Tryd.prog 38, n ≤ reachBytes) :
    ∃ A n c bs, v = .slice A n c ∧ BytesX W (fun _ => True) (.slice A n c) bs ∧ n ≤ 140737488355328 := by
  rcases open_ints Tryd.underlying38 Tryd.underlying5 cells5 h with ⟨hc, hx⟩ | ⟨a, len, cap, zs, hc, _, hl, _, hzl, hx, hcell, hwf⟩
  · injection hc with hc _
    subst hc
    exact ⟨none, 0, 0, [], rfl, BytesX.nil _ _, Nat.zero_le _⟩
  · injection hc with hc _
    subst hc
    have hlz : len ≤ zs.length := by rw [hzl]; split <;> omega
    have hn : len ≤ 140737488355328 := by
      rw [hx] at hw
      have := hw ((zs.take len).length + (zs.drop len).length) (by simp [DataW.weights, Tryd.underlying38, bytesOf5, lits])
      have h2 : reachBytes ≤ 140737488355328 := by decide
      rw [List.length_take, List.length_drop] at this
      omega
    refine ⟨some a, len, cap, (zs.take len).map (fun z => UInt8.ofNat z.toNat), rfl, ⟨some a, cap, by rw [List.length_map, List.length_take, Nat.min_eq_left hlz], by rw [List.length_map, List.length_take, Nat.min_eq_left hlz]; exact hl, fun i hi => ?_⟩, hn⟩
    rw [List.length_map, List.length_take, Nat.min_eq_left hlz] at hi
    have h0 := hcell 0 (by omega)
    rw [show a.add 0 = a by simp [Addr.add]] at h0
    obtain ⟨b, o, rfl⟩ := spot_none h0
    refine ⟨b, o, rfl, trivial, ?_⟩
    have hi2 := hcell i (by omega)
    rw [add_at] at hi2
    rw [hi2]
    have e : ((zs.take len).map (fun z => UInt8.ofNat z.toNat)).getD i 0 = UInt8.ofNat (zs.getD i 0).toNat := by
      rw [List.getD_eq_getElem?_getD, List.getElem?_map, List.getElem?_take, if_pos hi, List.getElem?_eq_getElem (by omega), List.getD_eq_getElem?_getD, List.getElem?_eq_getElem (by omega)]
      rfl
    rw [e, byteV_of (hwf _ (by rw [List.getD_eq_getElem?_getD, List.getElem?_eq_getElem (by omega)]; exact List.getElem_mem _))]
theorem weightsAll_mem {P : Program} {e : TypeId} : ∀ {ds : List (DataW H)} {d : DataW H} {n : Nat}, d ∈ ds → n ∈ d.weights P e → n ∈ DataW.weightsAll P e ds
  | d0 :: ds, d, n, hd, hn => by
    simp only [DataW.weightsAll, List.mem_append]
    rcases List.mem_cons.1 hd with rfl | hd
    · exact .inl hn
    · exact .inr (weightsAll_mem hd hn)
theorem lists_of {fuel : Nat} {v : Value} {x : DataW H × List MemPlace} (h : DataW.trod enc Tryd.prog W base sp held fuel 43 [v] = some x) (hw : ∀ n ∈ x.1.weights Tryd.prog 43, n ≤ reachBytes) :
    ∃ A n c ls, v = .slice A n c ∧ LsX W (fun _ => True) (.slice A n c) ls ∧ n ≤ 140737488355328 := by
  have h47 : reachBytes ≤ 140737488355328 := by decide
  rcases DataW.trod_slice Tryd.underlying43 h with ⟨hc, hx⟩ | ⟨a, len, cap, elems, rest, n, _, hc, hx, _, hl, _, hel, hget, _, _⟩
  · injection hc with hc _
    subst hc
    exact ⟨none, 0, 0, [], rfl, ⟨none, 0, rfl, Nat.le_refl _, fun i hi => absurd hi (Nat.not_lt_zero _)⟩, Nat.zero_le _⟩
  · injection hc with hc _
    subst hc
    rw [hx] at hw
    have hn : len ≤ 140737488355328 := by
      have := hw ((elems.length + rest.length) * 24) (by simp [DataW.weights, Tryd.underlying43, bytesOf38])
      omega
    have key : ∀ i, i < len → ∃ bs : Bs, ∃ b o, a = ⟨b, o, none⟩ ∧ ∃ B m d, W.cell? ⟨b, o + i, none⟩ = some (.slice B m d) ∧ BytesX W (fun _ => True) (.slice B m d) bs ∧ m ≤ 140737488355328 := by
      intro i hi
      have hg := hget i hi
      rw [List.getElem?_eq_getElem (by omega), cells38, Nat.mul_one] at hg
      obtain ⟨cs, hcs, hst⟩ := Option.bind_eq_some_iff.1 hg
      obtain ⟨_, hlen, hcell⟩ := World.cells?_some hcs
      obtain ⟨u, rfl⟩ : ∃ u, cs = [u] := by
        match cs, hlen with
        | [u], _ => exact ⟨u, rfl⟩
      have e0 := hcell 0 (by omega)
      have hadd : (a.add i).add 0 = a.add i := by simp [Addr.add]
      rw [hadd] at e0
      have hsp : ∃ b o, a = ⟨b, o, none⟩ := by
        have hg0 := hget 0 (by omega)
        rw [List.getElem?_eq_getElem (by omega), cells38, Nat.mul_one] at hg0
        obtain ⟨cs0, hcs0, _⟩ := Option.bind_eq_some_iff.1 hg0
        obtain ⟨_, hlen0, hcell0⟩ := World.cells?_some hcs0
        have := hcell0 0 (by omega)
        rw [List.getElem?_eq_getElem (by omega), show (a.add 0).add 0 = a by simp [Addr.add]] at this
        exact spot_none this
      obtain ⟨b, o, rfl⟩ := hsp
      rw [add_at] at e0
      obtain ⟨B, m, d, bs, hu, hbx, hm⟩ := bytes_of hst (fun n hn => hw n (by
        simp only [DataW.weights, Tryd.underlying43, List.mem_cons, List.mem_append]
        exact .inr (.inl (weightsAll_mem (List.mem_map.2 ⟨elems[i], List.getElem_mem _, rfl⟩) hn))))
      refine ⟨bs, b, o, rfl, B, m, d, ?_, hbx, hm⟩
      rw [e0]
      rw [hu]; rfl
    obtain ⟨ls, hll, hp⟩ := list_of (α := Bs) key
    refine ⟨some a, len, cap, ls, rfl, ⟨some a, cap, by rw [hll], by omega, fun i hi => ?_⟩, hn⟩
    obtain ⟨b, o, rfl, B, m, d, hcell, hbx, hm⟩ := hp i (by omega)
    exact ⟨b, o, rfl, trivial, B, m, d, hcell, hbx, hm⟩
theorem cuts_of {fuel : Nat} {v : Value} {x : DataW H × List MemPlace} (h : DataW.trod enc Tryd.prog W base sp held fuel 58 [v] = some x) (hw : ∀ n ∈ x.1.weights Tryd.prog 58, n ≤ reachBytes) :
    ∃ A n c zs, v = .slice A n c ∧ CutsX W (fun _ => True) (.slice A n c) zs := by
  rcases open_ints Tryd.underlying58 Tryd.underlying59 cells59 h with ⟨hc, hx⟩ | ⟨a, len, cap, zs, hc, _, hl, _, hzl, hx, hcell, hwf⟩
  · injection hc with hc _
    subst hc
    exact ⟨none, 0, 0, [], rfl, ⟨none, 0, rfl, Nat.le_refl _, Nat.zero_le _, fun i hi => absurd hi (Nat.not_lt_zero _)⟩⟩
  · injection hc with hc _
    subst hc
    have hlz : len ≤ zs.length := by rw [hzl]; split <;> omega
    have hn : len ≤ 140737488355328 := by
      rw [hx] at hw
      have := hw (((zs.take len).length + (zs.drop len).length) * 2) (by simp [DataW.weights, Tryd.underlying58, bytesOf59, lits])
      have h2 : reachBytes ≤ 140737488355328 := by decide
      rw [List.length_take, List.length_drop] at this
      omega
    have hlt : (zs.take len).length = len := by rw [List.length_take, Nat.min_eq_left hlz]
    refine ⟨some a, len, cap, zs.take len, rfl, ⟨some a, cap, by rw [hlt], by rw [hlt]; exact hl, by rw [hlt]; exact hn, fun i hi => ?_⟩⟩
    rw [hlt] at hi
    have h0 := hcell 0 (by omega)
    rw [show a.add 0 = a by simp [Addr.add]] at h0
    obtain ⟨b, o, rfl⟩ := spot_none h0
    have e : (zs.take len).getD i 0 = zs.getD i 0 := by
      rw [List.getD_eq_getElem?_getD, List.getElem?_take, if_pos hi, ← List.getD_eq_getElem?_getD]
    have hi2 := hcell i (by omega)
    rw [add_at] at hi2
    have h3 := hwf (zs.getD i 0) (by rw [List.getD_eq_getElem?_getD, List.getElem?_eq_getElem (by omega)]; exact List.getElem_mem _)
    have h4 : (decide (IntKind.min .u16 ≤ zs.getD i 0) && decide (zs.getD i 0 ≤ IntKind.max .u16)) = true := h3
    rw [Bool.and_eq_true, decide_eq_true_eq, decide_eq_true_eq, show IntKind.min .u16 = 0 from rfl, show IntKind.max .u16 = 65535 from rfl] at h4
    exact ⟨b, o, rfl, trivial, by rw [hi2, e], by rw [e]; exact h4.1, by rw [e]; exact h4.2⟩
end
end Go.Proofs.WV

/-
  The law WireFeeds, by the program, whole. Condition: the standard library's table of powers lies.
-/
namespace Go.Proofs.WV
open Go.RowKit Go.Proofs.KL Go.Proofs.WM
set_option maxRecDepth 100000
set_option linter.unusedVariables false

theorem WireFeeds_any {w : World} (ht : Tab w w.heap.size) {A0 : Option Addr} {n0 c0 : Nat} {ls : List Bs} (hl : LsX w (fun _ => True) (.slice A0 n0 c0) ls) (hn : n0 ≤ 140737488355328) {B0 : Option Addr} {m0 d0 : Nat} {bs : Bs} (hb : BytesX w (fun _ => True) (.slice B0 m0 d0) bs) (hm : m0 ≤ 140737488355328) : Calls Tryd.prog 8 #[.slice B0 m0 d0, .slice A0 n0 c0] w fun e w' => e = .returned (.bool true) ∧ Keeps Nob w w' := by
  by_cases h3 : m0 ≤ 3000
  · by_cases h40 : n0 ≤ 40
    · by_cases h6 : lens ls ≤ 6000
      · exact Feeds_ok ht hl h40 h6 hb h3
      · exact Feeds_big ht hl h40 (by omega) h3
    · exact Feeds_many ht hl hn (by omega) h3
  · exact Feeds_long ht hl hn (by omega) hm
end Go.Proofs.WV
