/-
  What the builder holds, as a string (String); a text between quotes, by the program (writer.text), in memory. Condition: the builder lies, and lengths are those of small values.
-/
import Derived.Test.YtcmmnbipaemgiaaDoorAl1
import Derived.Deep.DeepCutAuto
import Derived.Deep.LoopGhost
namespace Go.Proofs.WV
open Go.RowKit Go.Proofs.KL Go.Proofs.WM
set_option maxRecDepth 100000
set_option linter.unusedSimpArgs false
set_option linter.unusedVariables false

theorem cells5 : Tryd.prog.cellsOf 5 = 1 := by kernel_rfl
set_option maxHeartbeats 1000000 in
/-- String, of a builder that holds something. -/
theorem bldString {w : World} {g base : Nat} {v : Value} {bs : Bs} (h : Bld w g base v bs) (h0 : bs ≠ []) : Calls Tryd.prog 41 #[.pointer (some ⟨g, 0, none⟩)] w fun e w' => e = .returned (.string (mkB bs)) ∧ Keeps (fun k => some k = v.ownBlock) w w' := by
  obtain ⟨p, hb, -⟩ := h.blk
  have ho := h.own
  rcases id h.own with ⟨rfl, e⟩ | ⟨r, cap, cur, fz, rfl, -, -, -, hnc, -⟩
  · exact absurd e h0
  have c1 := (blk_cell hb 1).trans rfl
  have Ho := Lib.hid ho
  have hcap : cap ≠ 0 := by have := List.length_pos_iff.2 h0; omega
  have Hcap := Lib.hid hcap
  have H0 := Lib.hid h0
  have Hne := Lib.hid h.ne
  clear h hb ho hcap h0 hnc
  go_enter Tryd.func41, Tryd.ntmps41
  go_wp2
  refine wp_region_perm [(0, true), (1, true), (2, true), (3, true), (5, true), (6, true), (7, true), (8, true), (9, true), (4, false), (10, false), (11, true)] (fun w' => w'.cell? ⟨g, 1, none⟩ = some (.slice (some ⟨r, 0, none⟩) bs.length cap)) rfl (by kernel_rfl) (by kernel_rfl) (by decide) (fun c a d v w h => by cases d <;> exact h) c1 ?_
  refine perm_q (v := ?v1_0) (some 3) rfl rfl rfl ?q1_0 ?h1_0; (case q1_0 => (intro w' hS; skip; first | (go_simp; done) | (go_simp; rfl))); (try simp only [PU])
  refine perm_q (v := ?v1_1) (some 4) rfl rfl rfl ?q1_1 ?h1_1; (case q1_1 => (intro w' hS; skip; first | (go_simp; done) | (go_simp; rfl))); (try simp only [PU])
  refine perm_q (v := ?v1_2) (some 5) rfl rfl rfl ?q1_2 ?h1_2; (case q1_2 => (intro w' hS; skip; first | (go_simp; done) | (go_simp; rfl))); (try simp only [PU])
  refine perm_q (v := ?v1_3) (some 6) rfl rfl rfl ?q1_3 ?h1_3; (case q1_3 => (intro w' hS; skip; first | (go_simp; done) | (go_simp; rfl))); (try simp only [PU])
  refine perm_q (v := ?v1_5) (some 8) rfl rfl rfl ?q1_5 ?h1_5; (case q1_5 => (intro w' hS; skip; first | (go_simp; done) | (go_simp; rfl))); (try simp only [PU])
  refine perm_q (v := ?v1_6) (some 9) rfl rfl rfl ?q1_6 ?h1_6; (case q1_6 => (intro w' hS; skip; first | (go_simp; done) | (go_simp; rfl))); (try simp only [PU])
  refine perm_q (v := ?v1_7) (some 10) rfl rfl rfl ?q1_7 ?h1_7; (case q1_7 => (intro w' hS; skip; first | (go_simp; done) | (go_simp; rfl))); (try simp only [PU])
  refine perm_q (v := ?v1_8) (some 11) rfl rfl rfl ?q1_8 ?h1_8; (case q1_8 => (intro w' hS; skip; first | (go_simp; done) | (go_simp; rfl))); (try simp only [PU])
  refine perm_q (v := ?v1_9) (some 12) rfl rfl rfl ?q1_9 ?h1_9; (case q1_9 => (intro w' hS; skip; first | (go_simp; done) | (go_simp; rfl))); (try simp only [PU])
  refine perm_e rfl ?_
  go_must (refine ev_sliceData rfl rfl rfl Hcap.out ?_)
  (try simp only [PU])
  refine wpList_nil ⟨c1, ?_⟩
  refine perm_e rfl ?_
  go_must (refine ev_unsafeString (W := w.drew) (bs := bs) (cap := cap) (base := base) rfl rfl Tryd.underlying108 cells5 rfl rfl (Ho.out.keep (Keeps.refl Nob w).drew (fun _ _ => id)) H0.out ?_; intro w1 hk1)
  (try simp only [PU])
  refine wpList_nil ⟨hk1.cell (w := w.drew) c1 (fun e : g = r => Hne.out (by rw [e]; rfl)), ?_⟩
  refine perm_q (v := ?v1_11) (some 2) rfl rfl rfl ?q1_11 ?h1_11; (case q1_11 => (intro w' hS; skip; first | (go_simp; done) | (go_simp; rfl))); (try simp only [PU])
  refine perm_nil ?_
  go_wp2
  go_ret
  exact ⟨rfl, (Keeps.refl _ _).drew.trans hk1 (fun i _ e => by rw [e]; rfl)⟩
theorem writeByteI {w : World} {g base : Nat} {v : Value} {bs : Bs} (h : Bld w g base v bs) (c : UInt8) (cv : Int) (hcv : cv = (c.toNat : Int)) (hl : bs.length ≤ 100000000000000) (hbase : base ≤ w.heap.size) :
    Calls Tryd.prog 70 #[.pointer (some ⟨g, 0, none⟩), .int .u8 cv] w (WOut w g base v (bs ++ [c])) := by
  subst hcv
  exact writeByte h c hl hbase
theorem flatMap_le (s : Bs) : (s.flatMap esc).length ≤ 6 * s.length := by
  induction s with
  | nil => simp
  | cons c l ih => have := (esc_len c).2; simp only [List.flatMap_cons, List.length_append, List.length_cons]; omega
theorem take_succ_bytes (s : ByteArray) (k : Nat) (h : k < s.size) : (bl s).take (k + 1) = (bl s).take k ++ [s[k]] := by
  rw [List.take_succ_eq_append_getElem (by simpa [bl] using h)]; rfl
theorem hex_index (n : Nat) (h : n < 16) : (({ data := #[48, 49, 50, 51, 52, 53, 54, 55, 56, 57, 97, 98, 99, 100, 101, 102] } : ByteArray)[n]?) = some (hexB (UInt8.ofNat n)) := by
  have : ∀ i : Fin 16, (({ data := #[48, 49, 50, 51, 52, 53, 54, 55, 56, 57, 97, 98, 99, 100, 101, 102] } : ByteArray)[i.val]?) = some (hexB (UInt8.ofNat i.val)) := by decide +kernel
  exact this ⟨n, h⟩
theorem and15 (cv : Int) (h0 : 0 ≤ cv) (h1 : cv ≤ 255) : bits BinOp.and IntKind.u8 cv 15 = cv % 16 := by
  have : ∀ i : Fin 256, bits BinOp.and IntKind.u8 ((i.val : Nat) : Int) 15 = ((i.val : Nat) : Int) % 16 := by decide +kernel
  have h := this ⟨cv.toNat, by omega⟩
  simp only [Int.toNat_of_nonneg h0] at h
  exact h
set_option maxHeartbeats 2000000 in
/-- A TEXT BETWEEN QUOTES. -/
theorem writeText {w : World} {g base : Nat} {v : Value} {bs : Bs} (h : Bld w g base v bs) (s : ByteArray) (hl : bs.length ≤ 1000000000000) (hs : (bl s).length ≤ 1000000000000) (hbase : base ≤ w.heap.size) :
    Calls Tryd.prog 66 #[.pointer (some ⟨g, 0, none⟩), .string s] w (WOut w g base v (bs ++ quoteB (bl s))) := by
  have HB := Lib.hid h
  have HW := Lib.hid (Wrote.refl g v w)
  have hsz : s.size = (bl s).length := by simp [bl]
  have Hsz := Lib.hid hsz
  have hs2 : s.size ≤ 1000000000000 := by omega
  have Hsb := Lib.hid hs
  clear h hsz hs
  go_enter Tryd.func66, Tryd.ntmps66
  go_wp2_with (first
    | (go_at_call 70; (with_reducible show Calls Tryd.prog 70 #[_, Value.int IntKind.u8 34] _ _); go_must (refine (writeByteI HB.out 34 34 rfl (by (try simp only [List.length_append, List.length_cons, List.length_nil]); omega) (by have := HW.out.keep.size; omega)).mono ?_; rintro e w9 ⟨x9, v9, rfl, hb9, hw9⟩); have HB := Lib.hid hb9; have HW := Lib.hid (HW.out.trans hw9); clear hb9 hw9; (try simp only [PU]))
    | (go_at_call 70; (with_reducible show Calls Tryd.prog 70 #[_, Value.int IntKind.u8 92] _ _); go_must (refine (writeByteI HB.out 92 92 rfl (by (try simp only [List.length_append, List.length_cons, List.length_nil]); omega) (by have := HW.out.keep.size; omega)).mono ?_; rintro e w9 ⟨x9, v9, rfl, hb9, hw9⟩); have HB := Lib.hid hb9; have HW := Lib.hid (HW.out.trans hw9); clear hb9 hw9; (try simp only [PU]))
  )
  go_loopw [12] (fun iv wr => ∃ (k : Nat) (v' : Value), iv = .int .i64 k ∧ k ≤ s.size ∧ Hid (Bld wr g base v' (bs ++ [34] ++ ((bl s).take k).flatMap esc)) ∧ Hid (Wrote g v w wr v')) (fun iv _ => s.size - (intOf iv).toNat)
  case atStart => exact ⟨0, _, rfl, Nat.zero_le _, by simpa using HB, HW⟩
  case round =>
    obtain ⟨k, v', rfl, hk, HB, HW⟩ := hrel
    by_cases hlt : k < s.size
    · have htk := take_succ_bytes s k hlt
      have hfl := flatMap_le ((bl s).take k)
      have htl : ((bl s).take k).length ≤ s.size := by rw [Hsz.out]; exact List.length_take_le' _ _
      obtain ⟨B0, hB0⟩ : ∃ x, bs ++ [34] ++ ((bl s).take k).flatMap esc = x := ⟨_, rfl⟩
      have hB0l : B0.length ≤ 10000000000000 := by rw [← hB0]; simp only [List.length_append, List.length_cons, List.length_nil]; omega
      have hnext : bs ++ [34] ++ ((bl s).take (k + 1)).flatMap esc = B0 ++ esc s[k] := by rw [htk, List.flatMap_append, ← List.append_assoc, hB0]; simp
      rw [hB0] at HB
      have Hnext := Lib.hid hnext
      clear htk hfl htl hB0 hnext
      obtain ⟨c, hc⟩ : ∃ x, s[k] = x := ⟨_, rfl⟩
      rw [hc] at Hnext
      have hcl := c.toNat_lt
      obtain ⟨cv, hcv⟩ : ∃ x : Int, (c.toNat : Int) = x := ⟨_, rfl⟩
      have hsk : ((s[k].toNat : Nat) : Int) = cv := by rw [hc]; exact hcv
      have hcu : c = UInt8.ofNat cv.toNat := by rw [← hcv, Int.toNat_natCast]; exact u8_of c
      have hr0 : 0 ≤ cv := by omega
      have hr1 : cv ≤ 255 := by omega
      have Hcv := Lib.hid hcv
      have Hcu := Lib.hid hcu
      have hne : ∀ n : Nat, n < 256 → cv ≠ n → c ≠ UInt8.ofNat n := fun n hn h e => h (by rw [← Hcv.out, e]; simp; omega)
      have Hne := Lib.hid hne
      clear hc hcl hcv hcu hne
      by_cases h34 : cv = 34
      · subst h34
        have hesc : esc c = [92] ++ [c] := by rw [Hcu.out]; rfl
        have Hesc := Lib.hid hesc
        clear hesc
        go_wp2_with (first
          | (go_at_call 70; (with_reducible show Calls Tryd.prog 70 #[_, Value.int IntKind.u8 92] _ _); go_must (refine (writeByteI HB.out 92 92 rfl (by (try simp only [List.length_append, List.length_cons, List.length_nil]); omega) (by have := HW.out.keep.size; omega)).mono ?_; rintro e w9 ⟨x9, v9, rfl, hb9, hw9⟩); have HB := Lib.hid hb9; have HW := Lib.hid (HW.out.trans hw9); clear hb9 hw9; (try simp only [PU]))
          | (go_at_call 70; go_must (refine (writeByteI HB.out c 34 Hcv.out.symm (by (try simp only [List.length_append, List.length_cons, List.length_nil]); omega) (by have := HW.out.keep.size; omega)).mono ?_; rintro e w9 ⟨x9, v9, rfl, hb9, hw9⟩); have HB := Lib.hid hb9; have HW := Lib.hid (HW.out.trans hw9); clear hb9 hw9; (try simp only [PU]))
        )
        go_roundw
        case rel => exact ⟨k + 1, v9, by go_num, by omega, by rw [Hnext.out, Hesc.out]; first | (simpa using HB) | (rw [show c = 92 from Hcu.out]; simpa using HB), HW⟩
        case measure => simp [intOf]; omega
      · by_cases h92 : cv = 92
        · subst h92
          have hesc : esc c = [92] ++ [c] := by rw [Hcu.out]; rfl
          have Hesc := Lib.hid hesc
          clear hesc
          go_wp2_with (first
            | (go_at_call 70; (with_reducible show Calls Tryd.prog 70 #[_, Value.int IntKind.u8 92] _ _); go_must (refine (writeByteI HB.out 92 92 rfl (by (try simp only [List.length_append, List.length_cons, List.length_nil]); omega) (by have := HW.out.keep.size; omega)).mono ?_; rintro e w9 ⟨x9, v9, rfl, hb9, hw9⟩); have HB := Lib.hid hb9; have HW := Lib.hid (HW.out.trans hw9); clear hb9 hw9; (try simp only [PU]))
            | (go_at_call 70; go_must (refine (writeByteI HB.out c 92 Hcv.out.symm (by (try simp only [List.length_append, List.length_cons, List.length_nil]); omega) (by have := HW.out.keep.size; omega)).mono ?_; rintro e w9 ⟨x9, v9, rfl, hb9, hw9⟩); have HB := Lib.hid hb9; have HW := Lib.hid (HW.out.trans hw9); clear hb9 hw9; (try simp only [PU]))
          )
          go_roundw
          case rel => exact ⟨k + 1, v9, by go_num, by omega, by rw [Hnext.out, Hesc.out]; first | (simpa using HB) | (rw [show c = 92 from Hcu.out]; simpa using HB), HW⟩
          case measure => simp [intOf]; omega
        · have n34 : (cv == 34) = false := by simpa using h34
          have n92 : (cv == 92) = false := by simpa using h92
          by_cases h10 : cv = 10
          · subst h10
            have hesc : esc c = bl ⟨#[92, 110]⟩ := by rw [Hcu.out]; rfl
            have Hesc := Lib.hid hesc
            clear hesc h34 h92
            go_wp2_with (first
              | (go_at_call 64; go_must (refine (writeString HB.out ⟨#[92, 110]⟩ (by (try simp only [List.length_append, List.length_cons, List.length_nil]); omega) (by decide) (by have := HW.out.keep.size; omega)).mono ?_; rintro e w9 ⟨x9, v9, rfl, hb9, hw9⟩); have HB := Lib.hid hb9; have HW := Lib.hid (HW.out.trans hw9); clear hb9 hw9; (try simp only [PU]))
            )
            go_roundw
            case rel => exact ⟨k + 1, v9, by go_num, by omega, by rw [Hnext.out, Hesc.out]; exact HB, HW⟩
            case measure => simp [intOf]; omega
          · have n10 : (cv == 10) = false := by simpa using h10
            by_cases hpl : 32 ≤ cv ∧ cv ≤ 126
            · obtain ⟨hp1, hp2⟩ := hpl
              have hq1 : ¬ cv < 32 := by omega
              have hq2 : ¬ 126 < cv := by omega
              have hesc : esc c = [c] := by
                unfold esc
                have a1 : c ≠ 34 := Hne.out 34 (by decide) h34
                have a2 : c ≠ 92 := Hne.out 92 (by decide) h92
                have a3 : c ≠ 10 := Hne.out 10 (by decide) h10
                rw [if_neg (by simp only [not_or]; exact ⟨a1, a2⟩), if_neg a3, if_neg (by
                  simp only [not_or, UInt8.not_lt, UInt8.le_iff_toNat_le]
                  have := Hcv.out
                  refine ⟨?_, ?_⟩
                  · show 32 ≤ c.toNat; omega
                  · show c.toNat ≤ 126; omega)]
              have Hesc := Lib.hid hesc
              clear hesc h34 h92 h10
              go_wp2_with (first
                | (go_at_call 70; go_must (refine (writeByteI HB.out c cv Hcv.out.symm (by (try simp only [List.length_append, List.length_cons, List.length_nil]); omega) (by have := HW.out.keep.size; omega)).mono ?_; rintro e w9 ⟨x9, v9, rfl, hb9, hw9⟩); have HB := Lib.hid hb9; have HW := Lib.hid (HW.out.trans hw9); clear hb9 hw9; (try simp only [PU]))
              )
              go_roundw
              case rel => exact ⟨k + 1, v9, by go_num, by omega, by rw [Hnext.out, Hesc.out]; exact HB, HW⟩
              case measure => simp [intOf]; omega
            · have hesc : esc c = bl ⟨#[92, 117, 48, 48]⟩ ++ [hexB (c / 16)] ++ [hexB (c % 16)] := by
                unfold esc
                have a1 : c ≠ 34 := Hne.out 34 (by decide) h34
                have a2 : c ≠ 92 := Hne.out 92 (by decide) h92
                have a3 : c ≠ 10 := Hne.out 10 (by decide) h10
                rw [if_neg (by simp only [not_or]; exact ⟨a1, a2⟩), if_neg a3, if_pos (by
                  have := Hcv.out
                  rcases Nat.lt_or_ge c.toNat 32 with h | h
                  · exact .inl (UInt8.lt_iff_toNat_lt.2 h)
                  · exact .inr (UInt8.lt_iff_toNat_lt.2 (by show 126 < c.toNat; omega)))]
                rfl
              have Hesc := Lib.hid hesc
              by_cases hlo : cv < 32
              · clear hesc h34 h92 h10 hpl
                have hq1 : 0 ≤ cv / 16 := by omega
                have hq2 : 0 ≤ cv % 16 := by omega
                obtain ⟨d1, hd1⟩ : ∃ x, hexB (c / 16) = x := ⟨_, rfl⟩
                obtain ⟨d2, hd2⟩ : ∃ x, hexB (c % 16) = x := ⟨_, rfl⟩
                have hz1 : (({ data := #[48, 49, 50, 51, 52, 53, 54, 55, 56, 57, 97, 98, 99, 100, 101, 102] } : ByteArray)[(cv / 16).toNat]?) = some d1 := by
                  rw [hex_index _ (by omega), ← hd1]
                  congr 2
                  apply UInt8.toNat.inj
                  rw [UInt8.toNat_div]
                  have h2 := Hcv.out
                  simp
                  omega
                have hz2 : (({ data := #[48, 49, 50, 51, 52, 53, 54, 55, 56, 57, 97, 98, 99, 100, 101, 102] } : ByteArray)[(cv % 16).toNat]?) = some d2 := by
                  rw [hex_index _ (by omega), ← hd2]
                  congr 2
                  apply UInt8.toNat.inj
                  rw [UInt8.toNat_mod]
                  have h2 := Hcv.out
                  simp
                  omega
                have hand := and15 cv hr0 hr1
                have hq3 : cv / 16 < 16 := by omega
                have hq4 : cv % 16 < 16 := by omega
                have hl1 : (cv / 16).toNat < ({ data := #[48, 49, 50, 51, 52, 53, 54, 55, 56, 57, 97, 98, 99, 100, 101, 102] } : ByteArray).size := by show (cv / 16).toNat < 16; omega
                have hl2 : (cv % 16).toNat < ({ data := #[48, 49, 50, 51, 52, 53, 54, 55, 56, 57, 97, 98, 99, 100, 101, 102] } : ByteArray).size := by show (cv % 16).toNat < 16; omega
                have hx1 : ({ data := #[48, 49, 50, 51, 52, 53, 54, 55, 56, 57, 97, 98, 99, 100, 101, 102] } : ByteArray)[(cv / 16).toNat]'hl1 = d1 := Option.some.inj ((getElem?_pos ({ data := #[48, 49, 50, 51, 52, 53, 54, 55, 56, 57, 97, 98, 99, 100, 101, 102] } : ByteArray) (cv / 16).toNat hl1).symm.trans hz1)
                have hx2 : ({ data := #[48, 49, 50, 51, 52, 53, 54, 55, 56, 57, 97, 98, 99, 100, 101, 102] } : ByteArray)[(cv % 16).toNat]'hl2 = d2 := Option.some.inj ((getElem?_pos ({ data := #[48, 49, 50, 51, 52, 53, 54, 55, 56, 57, 97, 98, 99, 100, 101, 102] } : ByteArray) (cv % 16).toNat hl2).symm.trans hz2)
                clear hz1 hz2
                have Hd := Lib.hid (And.intro hd1 hd2)
                clear hd1 hd2
                go_wp2_with (first
                  | (go_at_call 64; go_must (refine (writeString HB.out ⟨#[92, 117, 48, 48]⟩ (by (try simp only [List.length_append, List.length_cons, List.length_nil]); omega) (by decide) (by have := HW.out.keep.size; omega)).mono ?_; rintro e w9 ⟨x9, v9, rfl, hb9, hw9⟩); have HB := Lib.hid hb9; have HW := Lib.hid (HW.out.trans hw9); clear hb9 hw9; (try simp only [PU]))
                )
                refine wp_region_perm [(0, true), (1, true), (2, true), (3, true), (4, true), (5, true), (6, false)] (fun w' => True) rfl (by kernel_rfl) (by kernel_rfl) (by decide) (fun c a d v w h => by cases d <;> exact h) trivial ?_
                refine perm_q (v := ?v2_0) (some 57) rfl rfl rfl ?q2_0 ?h2_0; (case q2_0 => (intro w' hS; skip; first | (go_simp; done) | (go_simp; rfl))); (try simp only [PU])
                refine perm_q (v := ?v2_1) (some 58) rfl rfl rfl ?q2_1 ?h2_1; (case q2_1 => (intro w' hS; skip; first | (go_simp; done) | (go_simp; rfl))); (try simp only [PU])
                refine perm_q (v := ?v2_2) (some 59) rfl rfl rfl ?q2_2 ?h2_2; (case q2_2 => (intro w' hS; skip; first | (go_simp; done) | (go_simp; rfl))); (try simp only [PU])
                refine perm_q (v := ?v2_3) (some 60) rfl rfl rfl ?q2_3 ?h2_3; (case q2_3 => (intro w' hS; skip; first | (go_simp; done) | (go_simp; rfl))); (try simp only [PU])
                refine perm_q (v := ?v2_4) (some 61) rfl rfl rfl ?q2_4 ?h2_4; (case q2_4 => (intro w' hS; skip; first | (go_simp; done) | (go_simp; rfl))); (try simp only [PU])
                refine perm_q (v := ?v2_5) (some 62) rfl rfl rfl ?q2_5 ?h2_5; (case q2_5 => (intro w' hS; skip; first | (go_simp; done) | (go_simp; rfl))); (try simp only [PU])
                refine perm_e rfl ?_
                go_wp2_with (go_at_call 70; go_must (refine (writeByteI (HB.out.after (Keeps.refl Nob w9).drew) d1 _ rfl (by (try simp only [List.length_append, List.length_cons, List.length_nil]); simp [bl]; omega) (by have := HW.out.keep.size; exact Nat.le_trans hbase this)).mono ?_; rintro e w10 ⟨x10, v10, rfl, hb10, hw10⟩))
                have HB := Lib.hid hb10
                have HW := Lib.hid ((HW.out.then (Keeps.refl Nob w9).drew).trans hw10)
                clear hb10 hw10
                (try simp only [PU])
                refine ⟨trivial, ?_⟩
                refine perm_nil ?_
                go_wp2_with fail
                refine wp_region_perm [(0, true), (1, true), (2, true), (3, true), (4, true), (5, true), (6, false)] (fun w' => True) rfl (by kernel_rfl) (by kernel_rfl) (by decide) (fun c a d v w h => by cases d <;> exact h) trivial ?_
                refine perm_q (v := ?v3_0) (some 64) rfl rfl rfl ?q3_0 ?h3_0; (case q3_0 => (intro w' hS; skip; first | (go_simp; done) | (go_simp; rfl))); (try simp only [PU])
                refine perm_q (v := ?v3_1) (some 65) rfl rfl rfl ?q3_1 ?h3_1; (case q3_1 => (intro w' hS; skip; first | (go_simp; done) | (go_simp; rfl))); (try simp only [PU])
                refine perm_q (v := ?v3_2) (some 66) rfl rfl rfl ?q3_2 ?h3_2; (case q3_2 => (intro w' hS; skip; first | (go_simp; done) | (go_simp; rfl))); (try simp only [PU])
                refine perm_q (v := ?v3_3) (some 67) rfl rfl rfl ?q3_3 ?h3_3; (case q3_3 => (intro w' hS; skip; first | (go_simp; done) | (go_simp; rfl))); (try simp only [PU])
                refine perm_q (v := ?v3_4) (some 68) rfl rfl rfl ?q3_4 ?h3_4; (case q3_4 => (intro w' hS; skip; first | (go_simp; done) | (go_simp; rfl))); (try simp only [PU])
                refine perm_q (v := ?v3_5) (some 69) rfl rfl rfl ?q3_5 ?h3_5; (case q3_5 => (intro w' hS; skip; first | (go_simp; done) | (go_simp; rfl))); (try simp only [PU])
                refine perm_e rfl ?_
                go_wp2_with (go_at_call 70; go_must (refine (writeByteI (HB.out.after (Keeps.refl Nob w10).drew) d2 _ rfl (by (try simp only [List.length_append, List.length_cons, List.length_nil]); simp [bl]; omega) (by have := HW.out.keep.size; exact Nat.le_trans hbase this)).mono ?_; rintro e w11 ⟨x11, v11, rfl, hb11, hw11⟩))
                have HB := Lib.hid hb11
                have HW := Lib.hid ((HW.out.then (Keeps.refl Nob w10).drew).trans hw11)
                clear hb11 hw11
                (try simp only [PU])
                refine ⟨trivial, ?_⟩
                refine perm_nil ?_
                go_wp2
                go_roundw
                case rel => exact ⟨k + 1, v11, by go_num, by omega, by rw [Hnext.out, Hesc.out, Hd.out.1, Hd.out.2]; simpa using HB, HW⟩
                case measure => simp [intOf]; omega
              · have hhi : 126 < cv := by omega
                clear hesc h34 h92 h10 hpl
                have hq1 : 0 ≤ cv / 16 := by omega
                have hq2 : 0 ≤ cv % 16 := by omega
                obtain ⟨d1, hd1⟩ : ∃ x, hexB (c / 16) = x := ⟨_, rfl⟩
                obtain ⟨d2, hd2⟩ : ∃ x, hexB (c % 16) = x := ⟨_, rfl⟩
                have hz1 : (({ data := #[48, 49, 50, 51, 52, 53, 54, 55, 56, 57, 97, 98, 99, 100, 101, 102] } : ByteArray)[(cv / 16).toNat]?) = some d1 := by
                  rw [hex_index _ (by omega), ← hd1]
                  congr 2
                  apply UInt8.toNat.inj
                  rw [UInt8.toNat_div]
                  have h2 := Hcv.out
                  simp
                  omega
                have hz2 : (({ data := #[48, 49, 50, 51, 52, 53, 54, 55, 56, 57, 97, 98, 99, 100, 101, 102] } : ByteArray)[(cv % 16).toNat]?) = some d2 := by
                  rw [hex_index _ (by omega), ← hd2]
                  congr 2
                  apply UInt8.toNat.inj
                  rw [UInt8.toNat_mod]
                  have h2 := Hcv.out
                  simp
                  omega
                have hand := and15 cv hr0 hr1
                have hq3 : cv / 16 < 16 := by omega
                have hq4 : cv % 16 < 16 := by omega
                have hl1 : (cv / 16).toNat < ({ data := #[48, 49, 50, 51, 52, 53, 54, 55, 56, 57, 97, 98, 99, 100, 101, 102] } : ByteArray).size := by show (cv / 16).toNat < 16; omega
                have hl2 : (cv % 16).toNat < ({ data := #[48, 49, 50, 51, 52, 53, 54, 55, 56, 57, 97, 98, 99, 100, 101, 102] } : ByteArray).size := by show (cv % 16).toNat < 16; omega
                have hx1 : ({ data := #[48, 49, 50, 51, 52, 53, 54, 55, 56, 57, 97, 98, 99, 100, 101, 102] } : ByteArray)[(cv / 16).toNat]'hl1 = d1 := Option.some.inj ((getElem?_pos ({ data := #[48, 49, 50, 51, 52, 53, 54, 55, 56, 57, 97, 98, 99, 100, 101, 102] } : ByteArray) (cv / 16).toNat hl1).symm.trans hz1)
                have hx2 : ({ data := #[48, 49, 50, 51, 52, 53, 54, 55, 56, 57, 97, 98, 99, 100, 101, 102] } : ByteArray)[(cv % 16).toNat]'hl2 = d2 := Option.some.inj ((getElem?_pos ({ data := #[48, 49, 50, 51, 52, 53, 54, 55, 56, 57, 97, 98, 99, 100, 101, 102] } : ByteArray) (cv % 16).toNat hl2).symm.trans hz2)
                clear hz1 hz2
                have Hd := Lib.hid (And.intro hd1 hd2)
                clear hd1 hd2
                go_wp2_with (first
                  | (go_at_call 64; go_must (refine (writeString HB.out ⟨#[92, 117, 48, 48]⟩ (by (try simp only [List.length_append, List.length_cons, List.length_nil]); omega) (by decide) (by have := HW.out.keep.size; omega)).mono ?_; rintro e w9 ⟨x9, v9, rfl, hb9, hw9⟩); have HB := Lib.hid hb9; have HW := Lib.hid (HW.out.trans hw9); clear hb9 hw9; (try simp only [PU]))
                )
                refine wp_region_perm [(0, true), (1, true), (2, true), (3, true), (4, true), (5, true), (6, false)] (fun w' => True) rfl (by kernel_rfl) (by kernel_rfl) (by decide) (fun c a d v w h => by cases d <;> exact h) trivial ?_
                refine perm_q (v := ?v4_0) (some 57) rfl rfl rfl ?q4_0 ?h4_0; (case q4_0 => (intro w' hS; skip; first | (go_simp; done) | (go_simp; rfl))); (try simp only [PU])
                refine perm_q (v := ?v4_1) (some 58) rfl rfl rfl ?q4_1 ?h4_1; (case q4_1 => (intro w' hS; skip; first | (go_simp; done) | (go_simp; rfl))); (try simp only [PU])
                refine perm_q (v := ?v4_2) (some 59) rfl rfl rfl ?q4_2 ?h4_2; (case q4_2 => (intro w' hS; skip; first | (go_simp; done) | (go_simp; rfl))); (try simp only [PU])
                refine perm_q (v := ?v4_3) (some 60) rfl rfl rfl ?q4_3 ?h4_3; (case q4_3 => (intro w' hS; skip; first | (go_simp; done) | (go_simp; rfl))); (try simp only [PU])
                refine perm_q (v := ?v4_4) (some 61) rfl rfl rfl ?q4_4 ?h4_4; (case q4_4 => (intro w' hS; skip; first | (go_simp; done) | (go_simp; rfl))); (try simp only [PU])
                refine perm_q (v := ?v4_5) (some 62) rfl rfl rfl ?q4_5 ?h4_5; (case q4_5 => (intro w' hS; skip; first | (go_simp; done) | (go_simp; rfl))); (try simp only [PU])
                refine perm_e rfl ?_
                go_wp2_with (go_at_call 70; go_must (refine (writeByteI (HB.out.after (Keeps.refl Nob w9).drew) d1 _ rfl (by (try simp only [List.length_append, List.length_cons, List.length_nil]); simp [bl]; omega) (by have := HW.out.keep.size; exact Nat.le_trans hbase this)).mono ?_; rintro e w10 ⟨x10, v10, rfl, hb10, hw10⟩))
                have HB := Lib.hid hb10
                have HW := Lib.hid ((HW.out.then (Keeps.refl Nob w9).drew).trans hw10)
                clear hb10 hw10
                (try simp only [PU])
                refine ⟨trivial, ?_⟩
                refine perm_nil ?_
                go_wp2_with fail
                refine wp_region_perm [(0, true), (1, true), (2, true), (3, true), (4, true), (5, true), (6, false)] (fun w' => True) rfl (by kernel_rfl) (by kernel_rfl) (by decide) (fun c a d v w h => by cases d <;> exact h) trivial ?_
                refine perm_q (v := ?v5_0) (some 64) rfl rfl rfl ?q5_0 ?h5_0; (case q5_0 => (intro w' hS; skip; first | (go_simp; done) | (go_simp; rfl))); (try simp only [PU])
                refine perm_q (v := ?v5_1) (some 65) rfl rfl rfl ?q5_1 ?h5_1; (case q5_1 => (intro w' hS; skip; first | (go_simp; done) | (go_simp; rfl))); (try simp only [PU])
                refine perm_q (v := ?v5_2) (some 66) rfl rfl rfl ?q5_2 ?h5_2; (case q5_2 => (intro w' hS; skip; first | (go_simp; done) | (go_simp; rfl))); (try simp only [PU])
                refine perm_q (v := ?v5_3) (some 67) rfl rfl rfl ?q5_3 ?h5_3; (case q5_3 => (intro w' hS; skip; first | (go_simp; done) | (go_simp; rfl))); (try simp only [PU])
                refine perm_q (v := ?v5_4) (some 68) rfl rfl rfl ?q5_4 ?h5_4; (case q5_4 => (intro w' hS; skip; first | (go_simp; done) | (go_simp; rfl))); (try simp only [PU])
                refine perm_q (v := ?v5_5) (some 69) rfl rfl rfl ?q5_5 ?h5_5; (case q5_5 => (intro w' hS; skip; first | (go_simp; done) | (go_simp; rfl))); (try simp only [PU])
                refine perm_e rfl ?_
                go_wp2_with (go_at_call 70; go_must (refine (writeByteI (HB.out.after (Keeps.refl Nob w10).drew) d2 _ rfl (by (try simp only [List.length_append, List.length_cons, List.length_nil]); simp [bl]; omega) (by have := HW.out.keep.size; exact Nat.le_trans hbase this)).mono ?_; rintro e w11 ⟨x11, v11, rfl, hb11, hw11⟩))
                have HB := Lib.hid hb11
                have HW := Lib.hid ((HW.out.then (Keeps.refl Nob w10).drew).trans hw11)
                clear hb11 hw11
                (try simp only [PU])
                refine ⟨trivial, ?_⟩
                refine perm_nil ?_
                go_wp2
                go_roundw
                case rel => exact ⟨k + 1, v11, by go_num, by omega, by rw [Hnext.out, Hesc.out, Hd.out.1, Hd.out.2]; simpa using HB, HW⟩
                case measure => simp [intOf]; omega
    · have hk' : k = s.size := by omega
      subst hk'
      rw [Hsz.out, List.take_length] at HB
      have hfl := flatMap_le (bl s)
      have hbl := Hsb.out
      have hB0l : (bs ++ [34] ++ (bl s).flatMap esc).length ≤ 10000000000000 := by simp only [List.length_append, List.length_cons, List.length_nil]; omega
      have hq : quoteB (bl s) = [34] ++ (bl s).flatMap esc ++ [34] := rfl
      have Hq := Lib.hid hq
      have HB0 := Lib.hid hB0l
      clear hfl hbl hB0l hq
      go_wp2_with (go_at_call 70; go_must (refine (writeByteI HB.out 34 34 rfl (by have := HB0.out; omega) (by have := HW.out.keep.size; omega)).mono ?_; rintro e w9 ⟨x9, v9, rfl, hb9, hw9⟩); have HB := Lib.hid hb9; have HW := Lib.hid (HW.out.trans hw9); clear hb9 hw9; (try simp only [PU]))
      go_end0
      exact ⟨_, v9, rfl, by rw [Hq.out]; simpa using HB.out, HW.out⟩
end Go.Proofs.WV

/-
  The plain law of layer 30 (wire): how long a value's text is. Condition: it is formed.
-/
namespace Go.Proofs.WM

theorem bl_len (s : ByteArray) : (bl s).length = s.size := by simp [bl]
theorem quotes_len : ∀ ks : List ByteArray, quotes ks ≤ 6 * (ks.map ByteArray.size).sum + 3 * ks.length
  | [] => by simp [quotes]
  | k :: ks => by
    have h1 := quotes_len ks
    have h2 := quoteB_len (bl k)
    rw [bl_len] at h2
    simp only [quotes, List.map_cons, List.sum_cons, List.length_cons] at h1 ⊢
    omega
mutual
theorem text_size : ∀ j : J, formedJ j = true → (textJ j).length + 1 ≤ 20 * sizeJ j
  | .mk k b n t ks vs, hf => by
    unfold formedJ at hf
    simp only [fineJ, Bool.and_eq_true, Bool.or_eq_true, decide_eq_true_eq, Bool.not_eq_true', decide_eq_false_iff_not] at hf
    obtain ⟨⟨⟨⟨⟨⟨⟨⟨⟨⟨h1, h2⟩, hb⟩, hn⟩, ht⟩, hks⟩, hvs⟩, hr⟩, hlen⟩, hnd⟩, hfl⟩ := hf
    have hl := text_sizeL vs hfl
    have hi := itoa_len (n := n) hr
    have hq := quoteB_len (bl t)
    rw [bl_len] at hq
    have hj := joinC_len (textL vs)
    rw [textL_length] at hj
    have hz := zip_len ks (textL vs)
    have hjz := joinC_len (List.zipWith (fun q p => quoteB (bl q) ++ [58] ++ p) ks (textL vs))
    have hzl : (List.zipWith (fun q p => quoteB (bl q) ++ [58] ++ p) ks (textL vs)).length ≤ ks.length := by rw [List.length_zipWith]; exact Nat.min_le_left _ _
    have hkq := quotes_len ks
    unfold textJ sizeJ
    split
    · simp only [List.length_cons, List.length_nil]; omega
    split
    · split <;> (simp only [List.length_cons, List.length_nil]; omega)
    split
    · omega
    split
    · omega
    split
    · simp only [List.length_append, List.length_cons, List.length_nil]; omega
    · simp only [List.length_append, List.length_cons, List.length_nil] at hjz hz hzl ⊢; omega
theorem text_sizeL : ∀ vs : List J, formedL vs = true → lens (textL vs) + vs.length ≤ 20 * sizeL vs
  | [], _ => by simp [lens, textL]
  | v :: vs, hf => by
    simp only [formedL, Bool.and_eq_true] at hf
    have h1 := text_size v hf.1
    have h2 := text_sizeL vs hf.2
    simp only [lens, textL, List.map_cons, List.sum_cons, sizeL, List.length_cons] at h2 ⊢
    omega
end
theorem textL_get : ∀ {vs : List J} {i : Nat}, i < vs.length → (textL vs).getD i [] = textJ (vs.getD i default)
  | v :: vs, 0, _ => by simp [textL]
  | v :: vs, i + 1, h => by simp only [textL, List.getD_cons_succ]; exact textL_get (by simpa using h)
theorem pairT_get : ∀ {ks : List ByteArray} {vs : List J} {i : Nat}, i < vs.length → ks.length = vs.length → (pairT ks vs).getD i [] = quoteB (bl (ks.getD i ByteArray.empty)) ++ [58] ++ textJ (vs.getD i default)
  | k :: ks, v :: vs, 0, _, _ => by simp [pairT, textL]
  | k :: ks, v :: vs, i + 1, h, hl => by
    simp only [pairT, textL, List.zipWith_cons_cons, List.getD_cons_succ]
    exact pairT_get (by simpa using h) (by simpa using hl)
  | [], v :: vs, _, _, hl => by simp at hl
theorem pairT_length {ks : List ByteArray} {vs : List J} (h : ks.length = vs.length) : (pairT ks vs).length = vs.length := by
  unfold pairT
  rw [List.length_zipWith, textL_length, h, Nat.min_self]
theorem formed_get : ∀ {vs : List J} {i : Nat}, formedL vs = true → i < vs.length → formedJ (vs.getD i default) = true
  | v :: vs, 0, hf, _ => by simp only [formedL, Bool.and_eq_true] at hf; simpa using hf.1
  | v :: vs, i + 1, hf, h => by simp only [formedL, Bool.and_eq_true] at hf; simp only [List.getD_cons_succ]; exact formed_get hf.2 (by simpa using h)
/-- Parts so far. -/
theorem joinC_take {ps : List Bs} {k : Nat} (h : k < ps.length) : joinC (ps.take (k + 1)) = if k = 0 then ps.getD k [] else joinC (ps.take k) ++ (44 :: ps.getD k []) := by
  have e : ps.take (k + 1) = ps.take k ++ [ps.getD k []] := by
    rw [List.take_succ_eq_append_getElem h, List.getD_eq_getElem?_getD, List.getElem?_eq_getElem h]; rfl
  rw [e, joinC_snoc]
  by_cases h0 : k = 0
  · subst h0; simp
  · rw [if_neg h0, if_neg (fun h2 => by have := congrArg List.length h2; simp only [List.length_take, List.length_nil] at this; omega)]
theorem joinC_take_len (ps : List Bs) (k : Nat) : (joinC (ps.take k)).length ≤ lens ps + ps.length := by
  have h1 := joinC_len (ps.take k)
  have h2 : lens ps = lens (ps.take k) + lens (ps.drop k) := by rw [← lens_append, List.take_append_drop]
  have h3 : (ps.take k).length ≤ ps.length := List.length_take_le' _ _
  omega
end Go.Proofs.WM

/-
  The writer writes parts between brackets (list) and a value (value), in memory. Condition: the value lies apart from the builder, is formed and small.
-/
namespace Go.Proofs.WV
open Go.RowKit Go.Proofs.KL Go.Proofs.WM
set_option maxRecDepth 100000
set_option linter.unusedSimpArgs false
set_option linter.unusedVariables false

set_option maxHeartbeats 2000000 in
/-- LIST, of values. -/
theorem list68 (o c : UInt8) (g base p2 p3 : Nat) (parts : List Bs) (W : World) (v : Value) (bs : Bs) (hb : Bld W g base v bs) (hbase : base ≤ W.heap.size) (hL : bs.length + lens parts + parts.length + 1 ≤ 1000000000000)
    (hp : ∀ k, k < parts.length → ∀ W' v' bs', Bld W' g base v' bs' → Wrote g v W W' v' → bs'.length + (parts.getD k []).length ≤ 1000000000000 → Calls Tryd.prog 68 #[.int .i64 k, .pointer (some ⟨p2, 0, none⟩), .pointer (some ⟨p3, 0, none⟩)] W' (WOut W' g base v' (bs' ++ parts.getD k []))) :
    Calls Tryd.prog 67 #[.pointer (some ⟨g, 0, none⟩), .string ⟨#[o, c]⟩, .int .i64 parts.length, .func (.func 68) #[] #[.pointer (some ⟨p2, 0, none⟩), .pointer (some ⟨p3, 0, none⟩)]] W (WOut W g base v (bs ++ [o] ++ joinC parts ++ [c])) := by
  skip
  have HB := Lib.hid hb
  have HW := Lib.hid (Wrote.refl g v W)
  have HP := Lib.hid hp
  have HL := Lib.hid hL
  obtain ⟨n, hn⟩ : ∃ n, parts.length = n := ⟨_, rfl⟩
  have Hn := Lib.hid hn
  rw [hn] at hL ⊢
  have hoc : (o.toNat : Int) = (o.toNat : Int) := rfl
  clear hb hp hn hoc
  go_enter Tryd.func67, Tryd.ntmps67
  go_wp2_with fail
  refine wp_region_perm [(0, true), (1, true), (2, true), (3, true), (4, true), (5, false)] (fun w' => True) rfl (by kernel_rfl) (by kernel_rfl) (by decide) (fun c a d v w h => by cases d <;> exact h) trivial ?_
  refine perm_q (v := ?v1_0) (some 9) rfl rfl rfl ?q1_0 ?h1_0; (case q1_0 => (intro w' hS; skip; first | (go_simp; done) | (go_simp; rfl))); (try simp only [PU])
  refine perm_q (v := ?v1_1) (some 10) rfl rfl rfl ?q1_1 ?h1_1; (case q1_1 => (intro w' hS; skip; first | (go_simp; done) | (go_simp; rfl))); (try simp only [PU])
  refine perm_q (v := ?v1_2) (some 11) rfl rfl rfl ?q1_2 ?h1_2; (case q1_2 => (intro w' hS; skip; first | (go_simp; done) | (go_simp; rfl))); (try simp only [PU])
  refine perm_q (v := ?v1_3) (some 12) rfl rfl rfl ?q1_3 ?h1_3; (case q1_3 => (intro w' hS; skip; first | (go_simp; done) | (go_simp; rfl))); (try simp only [PU])
  refine perm_q (v := ?v1_4) (some 13) rfl rfl rfl ?q1_4 ?h1_4; (case q1_4 => (intro w' hS; skip; first | (go_simp; done) | (go_simp; rfl))); (try simp only [PU])
  refine perm_e rfl ?_
  go_wp2_with (go_at_call 70; go_must (refine (writeByteI (HB.out.after (Keeps.refl Nob W).drew) o _ rfl (by omega) hbase).mono ?_; rintro e w1 ⟨x1, v1, rfl, hb1, hw1⟩))
  have HB := Lib.hid hb1
  have HW := Lib.hid ((HW.out.then (Keeps.refl Nob W).drew).trans hw1)
  clear hb1 hw1
  (try simp only [PU])
  refine ⟨trivial, ?_⟩
  refine perm_nil ?_
  go_wp2
  go_loopw [16] (fun iv wr => ∃ (k : Nat) (v' : Value), iv = .int .i64 k ∧ k ≤ n ∧ Hid (Bld wr g base v' (bs ++ [o] ++ joinC (parts.take k))) ∧ Hid (Wrote g v W wr v')) (fun iv _ => n - (intOf iv).toNat)
  case atStart => exact ⟨0, v1, rfl, Nat.zero_le _, by simpa [joinC] using HB, HW⟩
  case round =>
    obtain ⟨k, v', rfl, hk, HB, HW⟩ := hrel
    by_cases hlt : k < n
    · have hjt := joinC_take (ps := parts) (k := k) (by rw [Hn.out]; exact hlt)
      have hjl := joinC_take_len parts k
      have hjl2 := joinC_take_len parts (k + 1)
      rw [Hn.out] at hjl hjl2
      obtain ⟨B0, hB0⟩ : ∃ x, bs ++ [o] ++ joinC (parts.take k) = x := ⟨_, rfl⟩
      have hB0l : B0.length ≤ 20000000000000 := by rw [← hB0]; simp only [List.length_append, List.length_cons, List.length_nil]; omega
      rw [hB0] at HB
      have Hjt := Lib.hid hjt
      have HB0 := Lib.hid hB0
      have Hrun := Lib.hid (fun W' v' bs' h1 h2 h3 => HP.out k (by rw [Hn.out]; exact hlt) W' v' bs' h1 h2 h3)
      obtain ⟨p, hpp⟩ : ∃ x, parts.getD k [] = x := ⟨_, rfl⟩
      rw [hpp] at Hrun Hjt
      have hall : bs.length + 1 + (joinC (parts.take (k + 1))).length ≤ 1000000000000 := by omega
      clear hjt hjl hjl2 hpp
      by_cases hk0 : k = 0
      · subst hk0
        have hjc : bs ++ [o] ++ joinC (parts.take (0 + 1)) = B0 ++ p := by rw [Hjt.out, if_pos rfl, ← HB0.out]; simp [joinC]
        have Hjc := Lib.hid hjc
        have hjn := congrArg List.length hjc
        simp only [List.length_append, List.length_cons, List.length_nil] at hjn
        have Hle := Lib.hid (show B0.length + p.length ≤ 1000000000000 by omega)
        clear hjc hjn hall hB0
        go_wp2_with (first
          | (go_at_call 68; go_must (refine (Hrun.out _ _ _ HB.out HW.out Hle.out).mono ?_; rintro e w9 ⟨x9, v9, rfl, hb9, hw9⟩); have HB := Lib.hid hb9; have HW := Lib.hid (HW.out.trans hw9); clear hb9 hw9; (try simp only [PU]))
        )
        go_roundw
        case rel => exact ⟨0 + 1, v9, by first | go_num | rfl, by omega, by rw [Hjc.out]; exact HB, HW⟩
        case measure => simp [intOf]; omega
      · have hk0' : 0 < k := by omega
        have hk0i : (0 : Int) < (k : Int) := by omega
        have hjc : bs ++ [o] ++ joinC (parts.take (k + 1)) = B0 ++ [44] ++ p := by rw [Hjt.out, if_neg hk0, ← HB0.out]; simp
        have Hjc := Lib.hid hjc
        have hjn := congrArg List.length hjc
        simp only [List.length_append, List.length_cons, List.length_nil] at hjn
        have Hle := Lib.hid (show (B0 ++ [44]).length + p.length ≤ 1000000000000 by simp only [List.length_append, List.length_cons, List.length_nil]; omega)
        clear hjc hjn hall hB0
        go_wp2_with (first
          | (go_at_call 70; go_must (refine (writeByteI HB.out 44 44 rfl (by omega) (by have := HW.out.keep.size; omega)).mono ?_; rintro e w9 ⟨x9, v9, rfl, hb9, hw9⟩); have HB := Lib.hid hb9; have HW := Lib.hid (HW.out.trans hw9); clear hb9 hw9; (try simp only [PU]))
          | (go_at_call 68; go_must (refine (Hrun.out _ _ _ HB.out HW.out Hle.out).mono ?_; rintro e w9 ⟨x9, v9, rfl, hb9, hw9⟩); have HB := Lib.hid hb9; have HW := Lib.hid (HW.out.trans hw9); clear hb9 hw9; (try simp only [PU]))
        )
        go_roundw
        case rel => exact ⟨k + 1, v9, by go_num, by omega, by rw [Hjc.out]; exact HB, HW⟩
        case measure => simp [intOf]; omega
    · have hk' : k = n := by omega
      subst hk'
      have hjl := joinC_take_len parts k
      rw [Hn.out] at hjl
      have hall : parts.take k = parts := by rw [← Hn.out]; exact List.take_length
      rw [hall] at HB hjl
      have hB0l : (bs ++ [o] ++ joinC parts).length ≤ 20000000000000 := by simp only [List.length_append, List.length_cons, List.length_nil]; omega
      have HBl := Lib.hid hB0l
      clear hall hjl hB0l
      go_wp2_with fail
      refine wp_region_perm [(0, true), (1, true), (2, true), (3, true), (4, true), (5, false)] (fun w' => True) rfl (by kernel_rfl) (by kernel_rfl) (by decide) (fun c a d v w h => by cases d <;> exact h) trivial ?_
      refine perm_q (v := ?v2_0) (some 29) rfl rfl rfl ?q2_0 ?h2_0; (case q2_0 => (intro w' hS; skip; first | (go_simp; done) | (go_simp; rfl))); (try simp only [PU])
      refine perm_q (v := ?v2_1) (some 30) rfl rfl rfl ?q2_1 ?h2_1; (case q2_1 => (intro w' hS; skip; first | (go_simp; done) | (go_simp; rfl))); (try simp only [PU])
      refine perm_q (v := ?v2_2) (some 31) rfl rfl rfl ?q2_2 ?h2_2; (case q2_2 => (intro w' hS; skip; first | (go_simp; done) | (go_simp; rfl))); (try simp only [PU])
      refine perm_q (v := ?v2_3) (some 32) rfl rfl rfl ?q2_3 ?h2_3; (case q2_3 => (intro w' hS; skip; first | (go_simp; done) | (go_simp; rfl))); (try simp only [PU])
      refine perm_q (v := ?v2_4) (some 33) rfl rfl rfl ?q2_4 ?h2_4; (case q2_4 => (intro w' hS; skip; first | (go_simp; done) | (go_simp; rfl))); (try simp only [PU])
      refine perm_e rfl ?_
      go_wp2_with (go_at_call 70; go_must (refine (writeByteI (HB.out.after (Keeps.refl Nob wr).drew) c _ rfl (by have := HBl.out; omega) (by have := HW.out.keep.size; exact Nat.le_trans hbase this)).mono ?_; rintro e w9 ⟨x9, v9, rfl, hb9, hw9⟩))
      have HB := Lib.hid hb9
      have HW := Lib.hid ((HW.out.then (Keeps.refl Nob wr).drew).trans hw9)
      clear hb9 hw9
      (try simp only [PU])
      refine ⟨trivial, ?_⟩
      refine perm_nil ?_
      go_wp2
      go_end0
      exact ⟨_, v9, rfl, HB.out, HW.out⟩
set_option maxHeartbeats 2000000 in
/-- LIST, of keys and values. -/
theorem list69 (o c : UInt8) (g base p2 p3 : Nat) (parts : List Bs) (W : World) (v : Value) (bs : Bs) (hb : Bld W g base v bs) (hbase : base ≤ W.heap.size) (hL : bs.length + lens parts + parts.length + 1 ≤ 1000000000000)
    (hp : ∀ k, k < parts.length → ∀ W' v' bs', Bld W' g base v' bs' → Wrote g v W W' v' → bs'.length + (parts.getD k []).length ≤ 1000000000000 → Calls Tryd.prog 69 #[.int .i64 k, .pointer (some ⟨p2, 0, none⟩), .pointer (some ⟨p3, 0, none⟩)] W' (WOut W' g base v' (bs' ++ parts.getD k []))) :
    Calls Tryd.prog 67 #[.pointer (some ⟨g, 0, none⟩), .string ⟨#[o, c]⟩, .int .i64 parts.length, .func (.func 69) #[] #[.pointer (some ⟨p2, 0, none⟩), .pointer (some ⟨p3, 0, none⟩)]] W (WOut W g base v (bs ++ [o] ++ joinC parts ++ [c])) := by
  skip
  have HB := Lib.hid hb
  have HW := Lib.hid (Wrote.refl g v W)
  have HP := Lib.hid hp
  have HL := Lib.hid hL
  obtain ⟨n, hn⟩ : ∃ n, parts.length = n := ⟨_, rfl⟩
  have Hn := Lib.hid hn
  rw [hn] at hL ⊢
  have hoc : (o.toNat : Int) = (o.toNat : Int) := rfl
  clear hb hp hn hoc
  go_enter Tryd.func67, Tryd.ntmps67
  go_wp2_with fail
  refine wp_region_perm [(0, true), (1, true), (2, true), (3, true), (4, true), (5, false)] (fun w' => True) rfl (by kernel_rfl) (by kernel_rfl) (by decide) (fun c a d v w h => by cases d <;> exact h) trivial ?_
  refine perm_q (v := ?v3_0) (some 9) rfl rfl rfl ?q3_0 ?h3_0; (case q3_0 => (intro w' hS; skip; first | (go_simp; done) | (go_simp; rfl))); (try simp only [PU])
  refine perm_q (v := ?v3_1) (some 10) rfl rfl rfl ?q3_1 ?h3_1; (case q3_1 => (intro w' hS; skip; first | (go_simp; done) | (go_simp; rfl))); (try simp only [PU])
  refine perm_q (v := ?v3_2) (some 11) rfl rfl rfl ?q3_2 ?h3_2; (case q3_2 => (intro w' hS; skip; first | (go_simp; done) | (go_simp; rfl))); (try simp only [PU])
  refine perm_q (v := ?v3_3) (some 12) rfl rfl rfl ?q3_3 ?h3_3; (case q3_3 => (intro w' hS; skip; first | (go_simp; done) | (go_simp; rfl))); (try simp only [PU])
  refine perm_q (v := ?v3_4) (some 13) rfl rfl rfl ?q3_4 ?h3_4; (case q3_4 => (intro w' hS; skip; first | (go_simp; done) | (go_simp; rfl))); (try simp only [PU])
  refine perm_e rfl ?_
  go_wp2_with (go_at_call 70; go_must (refine (writeByteI (HB.out.after (Keeps.refl Nob W).drew) o _ rfl (by omega) hbase).mono ?_; rintro e w1 ⟨x1, v1, rfl, hb1, hw1⟩))
  have HB := Lib.hid hb1
  have HW := Lib.hid ((HW.out.then (Keeps.refl Nob W).drew).trans hw1)
  clear hb1 hw1
  (try simp only [PU])
  refine ⟨trivial, ?_⟩
  refine perm_nil ?_
  go_wp2
  go_loopw [16] (fun iv wr => ∃ (k : Nat) (v' : Value), iv = .int .i64 k ∧ k ≤ n ∧ Hid (Bld wr g base v' (bs ++ [o] ++ joinC (parts.take k))) ∧ Hid (Wrote g v W wr v')) (fun iv _ => n - (intOf iv).toNat)
  case atStart => exact ⟨0, v1, rfl, Nat.zero_le _, by simpa [joinC] using HB, HW⟩
  case round =>
    obtain ⟨k, v', rfl, hk, HB, HW⟩ := hrel
    by_cases hlt : k < n
    · have hjt := joinC_take (ps := parts) (k := k) (by rw [Hn.out]; exact hlt)
      have hjl := joinC_take_len parts k
      have hjl2 := joinC_take_len parts (k + 1)
      rw [Hn.out] at hjl hjl2
      obtain ⟨B0, hB0⟩ : ∃ x, bs ++ [o] ++ joinC (parts.take k) = x := ⟨_, rfl⟩
      have hB0l : B0.length ≤ 20000000000000 := by rw [← hB0]; simp only [List.length_append, List.length_cons, List.length_nil]; omega
      rw [hB0] at HB
      have Hjt := Lib.hid hjt
      have HB0 := Lib.hid hB0
      have Hrun := Lib.hid (fun W' v' bs' h1 h2 h3 => HP.out k (by rw [Hn.out]; exact hlt) W' v' bs' h1 h2 h3)
      obtain ⟨p, hpp⟩ : ∃ x, parts.getD k [] = x := ⟨_, rfl⟩
      rw [hpp] at Hrun Hjt
      have hall : bs.length + 1 + (joinC (parts.take (k + 1))).length ≤ 1000000000000 := by omega
      clear hjt hjl hjl2 hpp
      by_cases hk0 : k = 0
      · subst hk0
        have hjc : bs ++ [o] ++ joinC (parts.take (0 + 1)) = B0 ++ p := by rw [Hjt.out, if_pos rfl, ← HB0.out]; simp [joinC]
        have Hjc := Lib.hid hjc
        have hjn := congrArg List.length hjc
        simp only [List.length_append, List.length_cons, List.length_nil] at hjn
        have Hle := Lib.hid (show B0.length + p.length ≤ 1000000000000 by omega)
        clear hjc hjn hall hB0
        go_wp2_with (first
          | (go_at_call 69; go_must (refine (Hrun.out _ _ _ HB.out HW.out Hle.out).mono ?_; rintro e w9 ⟨x9, v9, rfl, hb9, hw9⟩); have HB := Lib.hid hb9; have HW := Lib.hid (HW.out.trans hw9); clear hb9 hw9; (try simp only [PU]))
        )
        go_roundw
        case rel => exact ⟨0 + 1, v9, by first | go_num | rfl, by omega, by rw [Hjc.out]; exact HB, HW⟩
        case measure => simp [intOf]; omega
      · have hk0' : 0 < k := by omega
        have hk0i : (0 : Int) < (k : Int) := by omega
        have hjc : bs ++ [o] ++ joinC (parts.take (k + 1)) = B0 ++ [44] ++ p := by rw [Hjt.out, if_neg hk0, ← HB0.out]; simp
        have Hjc := Lib.hid hjc
        have hjn := congrArg List.length hjc
        simp only [List.length_append, List.length_cons, List.length_nil] at hjn
        have Hle := Lib.hid (show (B0 ++ [44]).length + p.length ≤ 1000000000000 by simp only [List.length_append, List.length_cons, List.length_nil]; omega)
        clear hjc hjn hall hB0
        go_wp2_with (first
          | (go_at_call 70; go_must (refine (writeByteI HB.out 44 44 rfl (by omega) (by have := HW.out.keep.size; omega)).mono ?_; rintro e w9 ⟨x9, v9, rfl, hb9, hw9⟩); have HB := Lib.hid hb9; have HW := Lib.hid (HW.out.trans hw9); clear hb9 hw9; (try simp only [PU]))
          | (go_at_call 69; go_must (refine (Hrun.out _ _ _ HB.out HW.out Hle.out).mono ?_; rintro e w9 ⟨x9, v9, rfl, hb9, hw9⟩); have HB := Lib.hid hb9; have HW := Lib.hid (HW.out.trans hw9); clear hb9 hw9; (try simp only [PU]))
        )
        go_roundw
        case rel => exact ⟨k + 1, v9, by go_num, by omega, by rw [Hjc.out]; exact HB, HW⟩
        case measure => simp [intOf]; omega
    · have hk' : k = n := by omega
      subst hk'
      have hjl := joinC_take_len parts k
      rw [Hn.out] at hjl
      have hall : parts.take k = parts := by rw [← Hn.out]; exact List.take_length
      rw [hall] at HB hjl
      have hB0l : (bs ++ [o] ++ joinC parts).length ≤ 20000000000000 := by simp only [List.length_append, List.length_cons, List.length_nil]; omega
      have HBl := Lib.hid hB0l
      clear hall hjl hB0l
      go_wp2_with fail
      refine wp_region_perm [(0, true), (1, true), (2, true), (3, true), (4, true), (5, false)] (fun w' => True) rfl (by kernel_rfl) (by kernel_rfl) (by decide) (fun c a d v w h => by cases d <;> exact h) trivial ?_
      refine perm_q (v := ?v4_0) (some 29) rfl rfl rfl ?q4_0 ?h4_0; (case q4_0 => (intro w' hS; skip; first | (go_simp; done) | (go_simp; rfl))); (try simp only [PU])
      refine perm_q (v := ?v4_1) (some 30) rfl rfl rfl ?q4_1 ?h4_1; (case q4_1 => (intro w' hS; skip; first | (go_simp; done) | (go_simp; rfl))); (try simp only [PU])
      refine perm_q (v := ?v4_2) (some 31) rfl rfl rfl ?q4_2 ?h4_2; (case q4_2 => (intro w' hS; skip; first | (go_simp; done) | (go_simp; rfl))); (try simp only [PU])
      refine perm_q (v := ?v4_3) (some 32) rfl rfl rfl ?q4_3 ?h4_3; (case q4_3 => (intro w' hS; skip; first | (go_simp; done) | (go_simp; rfl))); (try simp only [PU])
      refine perm_q (v := ?v4_4) (some 33) rfl rfl rfl ?q4_4 ?h4_4; (case q4_4 => (intro w' hS; skip; first | (go_simp; done) | (go_simp; rfl))); (try simp only [PU])
      refine perm_e rfl ?_
      go_wp2_with (go_at_call 70; go_must (refine (writeByteI (HB.out.after (Keeps.refl Nob wr).drew) c _ rfl (by have := HBl.out; omega) (by have := HW.out.keep.size; exact Nat.le_trans hbase this)).mono ?_; rintro e w9 ⟨x9, v9, rfl, hb9, hw9⟩))
      have HB := Lib.hid hb9
      have HW := Lib.hid ((HW.out.then (Keeps.refl Nob wr).drew).trans hw9)
      clear hb9 hw9
      (try simp only [PU])
      refine ⟨trivial, ?_⟩
      refine perm_nil ?_
      go_wp2
      go_end0
      exact ⟨_, v9, rfl, HB.out, HW.out⟩
/-- What writing turns lies from 'base' on. -/
theorem Wrote.from {g base : Nat} {v v' : Value} {bs : Bs} {w w' : World} (h : Wrote g v w w' v') (hb : Bld w g base v bs) (hg : base ≤ g) : Keeps (fun k => base ≤ k) w w' :=
  h.keep.mono (fun k _ hm => by
    rcases hm with e | e
    · rw [e]; exact hg
    · exact (hb.own.lt k e.symm).1)
theorem quoteB_ge (s : Bs) : s.length ≤ (quoteB s).length := by
  have : ∀ l : Bs, l.length ≤ (l.flatMap esc).length := fun l => by
    induction l with
    | nil => simp
    | cons a l ih =>
      have h1 : 1 ≤ (esc a).length := by unfold esc; repeat' split
                                         all_goals simp
      simp only [List.flatMap_cons, List.length_append, List.length_cons]; omega
  have := this s
  unfold quoteB
  simp only [List.length_append, List.length_cons, List.length_nil]
  omega
theorem Wrote.pre {g : Nat} {v v1 : Value} {w w1 w2 : World} (k : Keeps Nob w w1) (h : Wrote g v w1 w2 v1) : Wrote g v w w2 v1 :=
  ⟨(k.mono (fun _ _ h => h.elim)).trans h.keep (fun _ _ h => h), h.row.imp id (fun ⟨b, h1, h2⟩ => ⟨b, h1, Nat.le_trans k.size h2⟩)⟩
/-- A block that writing leaves. -/
theorem Wrote.block {g p : Nat} {v v' : Value} {w w' : World} (h : Wrote g v w w' v') {x : Obj} (hp : w.heap[p]? = some x) (h1 : p ≠ g) (h2 : some p ≠ v.ownBlock) : w'.heap[p]? = some x :=
  h.keep.blk hp (fun hm => hm.elim h1 h2)
set_option maxHeartbeats 2000000 in
/-- A part of a list: a value. -/
theorem part68 {g base p2 p3 b o k len c : Nat} {e0 e1 e2 e3 e4 x0 x1 x2 x3 x4 x5 : Value} {W : World} {v : Value} {bs bs' : Bs} (hk : k < len) (h6 : Six W b (o + k * 6) x0 x1 x2 x3 x4 x5) (hB : Bld W g base v bs)
    (hbb : b < base) (hg : base ≤ g) (h2 : W.heap[p2]? = some (.cells #[.pointer (some ⟨g, 0, none⟩)] 67 (0, 0))) (h3 : W.heap[p3]? = some (.cells #[e0, e1, e2, e3, e4, .slice (some ⟨b, o, none⟩) len c] 25 (0, 0)))
    (hn : (p2 ≠ g ∧ some p2 ≠ v.ownBlock) ∧ p3 ≠ g ∧ some p3 ≠ v.ownBlock)
    (hrun : ∀ W', Keeps Nob W W' → Calls Tryd.prog 39 #[.pointer (some ⟨g, 0, none⟩), .agg #[x0, x1, x2, x3, x4, x5]] W' (WOut W' g base v bs')) :
    Calls Tryd.prog 68 #[.int .i64 k, .pointer (some ⟨p2, 0, none⟩), .pointer (some ⟨p3, 0, none⟩)] W (WOut W g base v bs') := by
  obtain ⟨⟨a0, a1, a2⟩, a3, a4, a5⟩ := h6
  have c2 := (blk_cell h2 0).trans rfl
  have c3 := (blk_cell h3 5).trans rfl
  have Hrun := Lib.hid hrun
  have HB := Lib.hid hB
  have Hn := Lib.hid hn
  have Hbb := Lib.hid (And.intro hbb hg)
  clear h2 h3 hrun hB hn hbb hg
  go_enter Tryd.func68, Tryd.ntmps68
  go_wp2_with fail
  refine wp_region_perm [(0, true), (1, true), (2, true), (3, true), (4, true), (5, true), (6, false)] (fun w' => (w'.cell? ⟨p2, 0, none⟩ = some (.pointer (some ⟨g, 0, none⟩)) ∧ w'.cell? ⟨p3, 5, none⟩ = some (.slice (some ⟨b, o, none⟩) len c)) ∧ w'.cell? ⟨b, o + k * 6, none⟩ = some x0 ∧ w'.cell? ⟨b, o + k * 6 + 1, none⟩ = some x1 ∧ w'.cell? ⟨b, o + k * 6 + 2, none⟩ = some x2 ∧ w'.cell? ⟨b, o + k * 6 + 3, none⟩ = some x3 ∧ w'.cell? ⟨b, o + k * 6 + 4, none⟩ = some x4 ∧ w'.cell? ⟨b, o + k * 6 + 5, none⟩ = some x5) rfl (by kernel_rfl) (by kernel_rfl) (by decide) (fun c a d v w h => by cases d <;> exact h) ⟨⟨c2, c3⟩, a0, a1, a2, a3, a4, a5⟩ ?_
  refine perm_q (v := ?v5_0) (some 4) rfl rfl rfl ?q5_0 ?h5_0; (case q5_0 => (intro w' hS; obtain ⟨⟨s1, s2⟩, t0, t1, t2, t3, t4, t5⟩ := hS; first | (go_simp; done) | (go_simp; rfl))); (try simp only [PU])
  refine perm_q (v := ?v5_1) (some 5) rfl rfl rfl ?q5_1 ?h5_1; (case q5_1 => (intro w' hS; obtain ⟨⟨s1, s2⟩, t0, t1, t2, t3, t4, t5⟩ := hS; first | (go_simp; done) | (go_simp; rfl))); (try simp only [PU])
  refine perm_q (v := ?v5_2) (some 6) rfl rfl rfl ?q5_2 ?h5_2; (case q5_2 => (intro w' hS; obtain ⟨⟨s1, s2⟩, t0, t1, t2, t3, t4, t5⟩ := hS; first | (go_simp; done) | (go_simp; rfl))); (try simp only [PU])
  refine perm_q (v := ?v5_3) (some 7) rfl rfl rfl ?q5_3 ?h5_3; (case q5_3 => (intro w' hS; obtain ⟨⟨s1, s2⟩, t0, t1, t2, t3, t4, t5⟩ := hS; first | (go_simp; done) | (go_simp; rfl))); (try simp only [PU])
  refine perm_q (v := ?v5_4) (some 8) rfl rfl rfl ?q5_4 ?h5_4; (case q5_4 => (intro w' hS; obtain ⟨⟨s1, s2⟩, t0, t1, t2, t3, t4, t5⟩ := hS; first | (go_simp; done) | (go_simp; rfl))); (try simp only [PU])
  refine perm_q (v := ?v5_5) (some 9) rfl rfl rfl ?q5_5 ?h5_5; (case q5_5 => (intro w' hS; obtain ⟨⟨s1, s2⟩, t0, t1, t2, t3, t4, t5⟩ := hS; first | (go_simp; done) | (go_simp; rfl))); (try simp only [PU])
  refine perm_e rfl ?_
  go_wp2_with (go_at_call 39; go_must (refine (Hrun.out _ (Keeps.refl Nob W).drew).mono ?_; rintro e w1 ⟨x9, v1, rfl, hb1, hw1⟩))
  have HW := Lib.hid hw1
  have HB1 := Lib.hid hb1
  clear hb1 hw1
  (try simp only [PU])
  have m2 : ¬ (p2 = g ∨ some p2 = v.ownBlock) := fun h => h.elim Hn.out.1.1 Hn.out.1.2
  have m3 : ¬ (p3 = g ∨ some p3 = v.ownBlock) := fun h => h.elim Hn.out.2.1 Hn.out.2.2
  have mb : ¬ (b = g ∨ some b = v.ownBlock) := fun h => h.elim (fun e => by have := Hbb.out; omega) (fun e => by have := (HB.out.own.lt b e.symm).1; have := Hbb.out; omega)
  refine ⟨⟨⟨HW.out.keep.cell (w := W.drew) c2 m2, HW.out.keep.cell (w := W.drew) c3 m3⟩, HW.out.keep.cell (w := W.drew) a0 mb, HW.out.keep.cell (w := W.drew) a1 mb, HW.out.keep.cell (w := W.drew) a2 mb, HW.out.keep.cell (w := W.drew) a3 mb, HW.out.keep.cell (w := W.drew) a4 mb, HW.out.keep.cell (w := W.drew) a5 mb⟩, ?_⟩
  refine perm_nil ?_
  go_wp2
  go_end0
  exact ⟨_, v1, rfl, HB1.out, HW.out.pre (Keeps.refl Nob W).drew⟩
set_option maxHeartbeats 2000000 in
/-- A part of a table: a key and a value. -/
theorem part69 {g base p2 p3 kb ko b o k klen kc len c : Nat} {e0 e1 e2 e3 x0 x1 x2 x3 x4 x5 : Value} {key : ByteArray} {W : World} {v : Value} {bs ts : Bs} (hkk : k < klen) (hk : k < len) (hkey : W.cell? ⟨kb, ko + k, none⟩ = some (.string key)) (h6 : Six W b (o + k * 6) x0 x1 x2 x3 x4 x5) (hB : Bld W g base v bs)
    (hkb : kb < base) (hbb : b < base) (hg : base ≤ g) (hbase : base ≤ W.heap.size) (h2 : W.heap[p2]? = some (.cells #[.pointer (some ⟨g, 0, none⟩)] 67 (0, 0))) (h3 : W.heap[p3]? = some (.cells #[e0, e1, e2, e3, .slice (some ⟨kb, ko, none⟩) klen kc, .slice (some ⟨b, o, none⟩) len c] 25 (0, 0)))
    (hn : (p2 ≠ g ∧ some p2 ≠ v.ownBlock) ∧ p3 ≠ g ∧ some p3 ≠ v.ownBlock) (hl : bs.length + (quoteB (bl key)).length ≤ 1000000000000)
    (hrun : ∀ W' v', Bld W' g base v' (bs ++ quoteB (bl key) ++ [58]) → Keeps (fun k => base ≤ k) W W' → Calls Tryd.prog 39 #[.pointer (some ⟨g, 0, none⟩), .agg #[x0, x1, x2, x3, x4, x5]] W' (WOut W' g base v' (bs ++ quoteB (bl key) ++ [58] ++ ts))) :
    Calls Tryd.prog 69 #[.int .i64 k, .pointer (some ⟨p2, 0, none⟩), .pointer (some ⟨p3, 0, none⟩)] W (WOut W g base v (bs ++ (quoteB (bl key) ++ [58] ++ ts))) := by
  have hql : (bl key).length ≤ 1000000000000 ∧ bs.length ≤ 1000000000000 ∧ (bs ++ quoteB (bl key)).length ≤ 1000000000000 := by
    have : (bl key).length ≤ (quoteB (bl key)).length := quoteB_ge _
    rw [List.length_append]
    omega
  have Hql := Lib.hid hql
  have Hpr := Lib.hid (And.intro h2 h3)
  have H6 := Lib.hid h6
  have c2 := (blk_cell h2 0).trans rfl
  have c3 := (blk_cell h3 4).trans rfl
  have Hrun := Lib.hid hrun
  have HB := Lib.hid hB
  have Hn := Lib.hid hn
  have Hbb := Lib.hid (show b < base ∧ kb < base ∧ base ≤ g ∧ base ≤ W.heap.size from ⟨hbb, hkb, hg, hbase⟩)
  have hassoc : bs ++ (quoteB (bl key) ++ [58] ++ ts) = bs ++ quoteB (bl key) ++ [58] ++ ts := by simp
  rw [hassoc]
  clear h2 h3 hrun hB hn hbb hkb hg hbase hl hql h6 hassoc
  go_enter Tryd.func69, Tryd.ntmps69
  go_wp2_with fail
  refine wp_region_perm [(0, true), (1, true), (2, true), (3, true), (4, true), (5, true), (6, false)] (fun w' => (w'.cell? ⟨p2, 0, none⟩ = some (.pointer (some ⟨g, 0, none⟩)) ∧ w'.cell? ⟨p3, 4, none⟩ = some (.slice (some ⟨kb, ko, none⟩) klen kc)) ∧ w'.cell? ⟨kb, ko + k, none⟩ = some (.string key)) rfl (by kernel_rfl) (by kernel_rfl) (by decide) (fun c a d v w h => by cases d <;> exact h) ⟨⟨c2, c3⟩, hkey⟩ ?_
  refine perm_q (v := ?v6_0) (some 4) rfl rfl rfl ?q6_0 ?h6_0; (case q6_0 => (intro w' hS; obtain ⟨⟨s1, s2⟩, t0⟩ := hS; first | (go_simp; done) | (go_simp; rfl))); (try simp only [PU])
  refine perm_q (v := ?v6_1) (some 5) rfl rfl rfl ?q6_1 ?h6_1; (case q6_1 => (intro w' hS; obtain ⟨⟨s1, s2⟩, t0⟩ := hS; first | (go_simp; done) | (go_simp; rfl))); (try simp only [PU])
  refine perm_q (v := ?v6_2) (some 6) rfl rfl rfl ?q6_2 ?h6_2; (case q6_2 => (intro w' hS; obtain ⟨⟨s1, s2⟩, t0⟩ := hS; first | (go_simp; done) | (go_simp; rfl))); (try simp only [PU])
  refine perm_q (v := ?v6_3) (some 7) rfl rfl rfl ?q6_3 ?h6_3; (case q6_3 => (intro w' hS; obtain ⟨⟨s1, s2⟩, t0⟩ := hS; first | (go_simp; done) | (go_simp; rfl))); (try simp only [PU])
  refine perm_q (v := ?v6_4) (some 8) rfl rfl rfl ?q6_4 ?h6_4; (case q6_4 => (intro w' hS; obtain ⟨⟨s1, s2⟩, t0⟩ := hS; first | (go_simp; done) | (go_simp; rfl))); (try simp only [PU])
  refine perm_q (v := ?v6_5) (some 9) rfl rfl rfl ?q6_5 ?h6_5; (case q6_5 => (intro w' hS; obtain ⟨⟨s1, s2⟩, t0⟩ := hS; first | (go_simp; done) | (go_simp; rfl))); (try simp only [PU])
  refine perm_e rfl ?_
  go_wp2_with (go_at_call 66; go_must (refine (writeText (HB.out.after (Keeps.refl Nob W).drew) key Hql.out.2.1 Hql.out.1 Hbb.out.2.2.2).mono ?_; rintro e w1 ⟨x9, v1, rfl, hb1, hw1⟩))
  have HW := Lib.hid (hw1.pre (Keeps.refl Nob W).drew)
  have HB1 := Lib.hid hb1
  clear hb1 hw1
  (try simp only [PU])
  have m2 : ¬ (p2 = g ∨ some p2 = v.ownBlock) := fun h => h.elim Hn.out.1.1 Hn.out.1.2
  have m3 : ¬ (p3 = g ∨ some p3 = v.ownBlock) := fun h => h.elim Hn.out.2.1 Hn.out.2.2
  have mb : ¬ (kb = g ∨ some kb = v.ownBlock) := fun h => h.elim (fun e => by have := Hbb.out; omega) (fun e => by have := (HB.out.own.lt kb e.symm).1; have := Hbb.out; omega)
  refine ⟨⟨⟨HW.out.keep.cell c2 m2, HW.out.keep.cell c3 m3⟩, HW.out.keep.cell hkey mb⟩, ?_⟩
  refine perm_nil ?_
  have Hp1 := Lib.hid (And.intro (HW.out.block Hpr.out.1 Hn.out.1.1 Hn.out.1.2) (HW.out.block Hpr.out.2 Hn.out.2.1 Hn.out.2.2))
  have Hs1 := Lib.hid (H6.out.keep (HW.out.from HB.out Hbb.out.2.2.1) (by have := Hbb.out; omega))
  have HK1 := Lib.hid (HW.out.from HB.out Hbb.out.2.2.1)
  clear c2 c3 hkey m2 m3 mb
  have c2 := (blk_cell Hp1.out.1 0).trans rfl
  have hlt := blk_lt Hpr.out.1
  have hlt3 := blk_lt Hpr.out.2
  have nb : ∀ k, k < W.heap.size → some k ≠ v.ownBlock → some k ≠ v1.ownBlock := fun k hk h1 e => by
    rcases HW.out.row with hr | ⟨b, hb, hl⟩
    · exact h1 (e.trans hr)
    · rw [hb] at e; injection e with e; omega
  have Hn1 := Lib.hid (show (some p2 ≠ v1.ownBlock) ∧ some p3 ≠ v1.ownBlock from ⟨nb p2 hlt Hn.out.1.2, nb p3 hlt3 Hn.out.2.2⟩)
  have Hsz := Lib.hid (And.intro hlt hlt3)
  clear nb hlt hlt3
  go_wp2_with (first
    | (go_at_call 70; go_must (refine (writeByteI HB1.out 58 58 rfl (by have := Hql.out; omega) (by have := HK1.out.size; have := Hbb.out; omega)).mono ?_; rintro e w2 ⟨x9, v2, rfl, hb2, hw2⟩); have HB2 := Lib.hid hb2; have HW2 := Lib.hid hw2; clear hb2 hw2; (try simp only [PU]))
    | skip; fail)
  have Hp2 := Lib.hid (And.intro (HW2.out.block Hp1.out.1 Hn.out.1.1 Hn1.out.1) (HW2.out.block Hp1.out.2 Hn.out.2.1 Hn1.out.2))
  have Hk2 := Lib.hid (HW2.out.from HB1.out Hbb.out.2.2.1)
  have HK2 := Lib.hid (HK1.out.trans Hk2.out (fun _ _ h => h))
  clear c2
  obtain ⟨⟨a0, a1, a2⟩, a3, a4, a5⟩ := Hs1.out.keep Hk2.out (by have := Hbb.out; omega)
  have c2 := (blk_cell Hp2.out.1 0).trans rfl
  have c3 := (blk_cell Hp2.out.2 5).trans rfl
  have nb : ∀ k, k < W.heap.size → some k ≠ v1.ownBlock → some k ≠ v2.ownBlock := fun k hk h1 e => by
    rcases HW2.out.row with hr | ⟨b, hb, hl⟩
    · exact h1 (e.trans hr)
    · rw [hb] at e; injection e with e; have := HK1.out.size; omega
  have Hn2 := Lib.hid (show (some p2 ≠ v2.ownBlock) ∧ some p3 ≠ v2.ownBlock from ⟨nb p2 Hsz.out.1 Hn1.out.1, nb p3 Hsz.out.2 Hn1.out.2⟩)
  clear nb
  refine wp_region_perm [(0, true), (1, true), (2, true), (3, true), (4, true), (5, true), (6, false)] (fun w' => (w'.cell? ⟨p2, 0, none⟩ = some (.pointer (some ⟨g, 0, none⟩)) ∧ w'.cell? ⟨p3, 5, none⟩ = some (.slice (some ⟨b, o, none⟩) len c)) ∧ w'.cell? ⟨b, o + k * 6, none⟩ = some x0 ∧ w'.cell? ⟨b, o + k * 6 + 1, none⟩ = some x1 ∧ w'.cell? ⟨b, o + k * 6 + 2, none⟩ = some x2 ∧ w'.cell? ⟨b, o + k * 6 + 3, none⟩ = some x3 ∧ w'.cell? ⟨b, o + k * 6 + 4, none⟩ = some x4 ∧ w'.cell? ⟨b, o + k * 6 + 5, none⟩ = some x5) rfl (by kernel_rfl) (by kernel_rfl) (by decide) (fun c a d v w h => by cases d <;> exact h) ⟨⟨c2, c3⟩, a0, a1, a2, a3, a4, a5⟩ ?_
  refine perm_q (v := ?v7_0) (some 15) rfl rfl rfl ?q7_0 ?h7_0; (case q7_0 => (intro w' hS; obtain ⟨⟨s1, s2⟩, t0, t1, t2, t3, t4, t5⟩ := hS; first | (go_simp; done) | (go_simp; rfl))); (try simp only [PU])
  refine perm_q (v := ?v7_1) (some 16) rfl rfl rfl ?q7_1 ?h7_1; (case q7_1 => (intro w' hS; obtain ⟨⟨s1, s2⟩, t0, t1, t2, t3, t4, t5⟩ := hS; first | (go_simp; done) | (go_simp; rfl))); (try simp only [PU])
  refine perm_q (v := ?v7_2) (some 17) rfl rfl rfl ?q7_2 ?h7_2; (case q7_2 => (intro w' hS; obtain ⟨⟨s1, s2⟩, t0, t1, t2, t3, t4, t5⟩ := hS; first | (go_simp; done) | (go_simp; rfl))); (try simp only [PU])
  refine perm_q (v := ?v7_3) (some 18) rfl rfl rfl ?q7_3 ?h7_3; (case q7_3 => (intro w' hS; obtain ⟨⟨s1, s2⟩, t0, t1, t2, t3, t4, t5⟩ := hS; first | (go_simp; done) | (go_simp; rfl))); (try simp only [PU])
  refine perm_q (v := ?v7_4) (some 19) rfl rfl rfl ?q7_4 ?h7_4; (case q7_4 => (intro w' hS; obtain ⟨⟨s1, s2⟩, t0, t1, t2, t3, t4, t5⟩ := hS; first | (go_simp; done) | (go_simp; rfl))); (try simp only [PU])
  refine perm_q (v := ?v7_5) (some 20) rfl rfl rfl ?q7_5 ?h7_5; (case q7_5 => (intro w' hS; obtain ⟨⟨s1, s2⟩, t0, t1, t2, t3, t4, t5⟩ := hS; first | (go_simp; done) | (go_simp; rfl))); (try simp only [PU])
  refine perm_e rfl ?_
  go_wp2_with (go_at_call 39; go_must (refine (Hrun.out _ _ (HB2.out.after (Keeps.refl Nob w2).drew) (HK2.out.then (Keeps.refl Nob w2).drew)).mono ?_; rintro e w3 ⟨x9, v3, rfl, hb3, hw3⟩))
  have HW3 := Lib.hid hw3
  have HB3 := Lib.hid hb3
  clear hb3 hw3
  (try simp only [PU])
  have m2 : ¬ (p2 = g ∨ some p2 = v2.ownBlock) := fun h => h.elim Hn.out.1.1 Hn2.out.1
  have m3 : ¬ (p3 = g ∨ some p3 = v2.ownBlock) := fun h => h.elim Hn.out.2.1 Hn2.out.2
  have mb : ¬ (b = g ∨ some b = v2.ownBlock) := fun h => h.elim (fun e => by have := Hbb.out; omega) (fun e => by have := (HB2.out.own.lt b e.symm).1; have := Hbb.out; omega)
  refine ⟨⟨⟨HW3.out.keep.cell (w := w2.drew) c2 m2, HW3.out.keep.cell (w := w2.drew) c3 m3⟩, HW3.out.keep.cell (w := w2.drew) a0 mb, HW3.out.keep.cell (w := w2.drew) a1 mb, HW3.out.keep.cell (w := w2.drew) a2 mb, HW3.out.keep.cell (w := w2.drew) a3 mb, HW3.out.keep.cell (w := w2.drew) a4 mb, HW3.out.keep.cell (w := w2.drew) a5 mb⟩, ?_⟩
  refine perm_nil ?_
  go_wp2
  go_end0
  exact ⟨_, v3, rfl, HB3.out, HW.out.trans (HW2.out.trans (HW3.out.pre (Keeps.refl Nob w2).drew))⟩
end Go.Proofs.WV

/-
  The writer writes a value (writer.value), in memory. Condition: the value lies apart from the builder, is formed, and its text is not longer than memory.
-/
namespace Go.Proofs.WV
open Go.RowKit Go.Proofs.KL Go.Proofs.WM
set_option maxRecDepth 100000
set_option linter.unusedSimpArgs false
set_option linter.unusedVariables false

theorem joinC_len_eq (l : List Bs) : lens l + l.length + 1 ≤ (joinC l).length + 2 := by
  cases l with
  | nil => simp [lens, joinC]
  | cons x r =>
    have : ∀ r : List Bs, (r.flatMap (44 :: ·)).length = lens r + r.length := fun r => by
      induction r with
      | nil => simp [lens]
      | cons a r ih => simp only [List.flatMap_cons, List.length_append, List.length_cons, ih, lens, List.map_cons, List.sum_cons]; omega
    simp only [joinC, List.length_append, this, lens, List.map_cons, List.sum_cons, List.length_cons]
    omega
/-- The table of powers of ten lies below 'base'. -/
def Tab (w : World) (base : Nat) : Prop := ∃ g, Tryd.prog.globalNamed "internal/strconv.uint64pow10" = some g ∧ g < base ∧ Lib.TabIs Tryd.prog w "internal/strconv.uint64pow10" .u64 Lib.pow10Tab
theorem Tab.keep {w w' : World} {base : Nat} (h : Tab w base) (hk : Keeps (fun k => base ≤ k) w w') : Tab w' base := by
  obtain ⟨g, hg, hb, ht⟩ := h
  refine ⟨g, hg, hb, ?_⟩
  unfold Lib.TabIs World.var? at ht ⊢
  rw [hg] at ht ⊢
  simp only [Option.bind_some] at ht ⊢
  have hlt : g < w.heap.size := by
    rcases Nat.lt_or_ge g w.heap.size with h | h
    · exact h
    · rw [Array.getElem?_eq_none h] at ht; cases ht
  rw [hk.block g hlt (by omega)]
  exact ht
theorem _root_.Go.Proofs.KL.Keeps.any {M : Nat → Prop} {w w' : World} (h : Keeps Nob w w') : Keeps M w w' := h.mono (fun _ _ h => h.elim)
theorem grew (w : World) (k : Nat) (os : Array Obj) : Keeps Nob w (Go.Sort.grow (w.drewN k) os) :=
  ⟨rfl, rfl, rfl, by simp [Go.Sort.grow, World.drewN], fun i hi _ => by simp [Go.Sort.grow, World.drewN, Array.getElem?_append, hi]⟩
theorem itoa42 {w : World} {base : Nat} (h : Tab w base) (n : Int) (h0 : -9223372036854775808 ≤ n) (h1 : n ≤ 9223372036854775807) : Calls Tryd.prog 42 #[.int .i64 n, .int .i64 10] w fun e w' => e = .returned (.string ⟨(Lib.itoa n).toArray⟩) ∧ Keeps Nob w w' := by
  obtain ⟨g, _, _, ht⟩ := h
  refine (Tryd.strconv_FormatInt_10 n h0 h1 w ht).mono ?_
  rintro e w' ⟨rfl, k, os, rfl⟩
  exact ⟨rfl, grew _ _ _⟩
theorem info67 : ∃ i, Tryd.prog.info? 67 = some i ∧ i.size = 1 := by
  have h : (Tryd.prog.info? 67).map (·.size) = some 1 := by kernel_rfl
  obtain ⟨i, hi, hs⟩ := Option.map_eq_some_iff.1 h
  exact ⟨i, hi, hs⟩
set_option maxHeartbeats 4000000 in
/-- A VALUE. -/
theorem value39 {w : World} {X : Nat → Prop} {v0 : Value} {j : J} (h : JX w X v0 j) : ∀ (W : World) (g base : Nat) (v : Value) (bs : Bs), Keeps (fun k => base ≤ k) w W → (∀ b, X b → b < base) → Tab W base → Bld W g base v bs → base ≤ g → base ≤ W.heap.size → formedJ j = true →
    bs.length + (textJ j).length ≤ 1000000000000 → Calls Tryd.prog 39 #[.pointer (some ⟨g, 0, none⟩), v0] W (WOut W g base v (bs ++ textJ j)) := by
  induction h with
  | mk k b n t ks vs kv A c u h1 hc hA hv ih =>
    intro W g base v bs hw hX ht hB hg hbase hf hl
    unfold formedJ at hf
    simp only [fineJ, Bool.and_eq_true, Bool.or_eq_true, decide_eq_true_eq, Bool.not_eq_true', decide_eq_false_iff_not] at hf
    obtain ⟨⟨⟨⟨⟨⟨⟨⟨⟨⟨hk1, hk6⟩, -⟩, -⟩, -⟩, -⟩, -⟩, hr⟩, hlen⟩, -⟩, hfl⟩ := hf
    obtain ⟨kA, kc, rfl, hkc, hkx⟩ := h1
    have HB := Lib.hid hB
    have HT := Lib.hid ht
    have Hw := Lib.hid hw
    have HX := Lib.hid hX
    have Hg := Lib.hid (And.intro hg hbase)
    have HA := Lib.hid hA
    have Hkx := Lib.hid hkx
    have IH := Lib.hid ih
    have Hf := Lib.hid (And.intro hfl hlen)
    have Hr := Lib.hid hr
    have Hlt := Lib.hid hB.lt
    have Hol := Lib.hid hB.own.lt
    clear hw hX ht hB hg hbase hA hkx ih hfl hlen hr hv
    have hcase : k = 1 ∨ k = 2 ∨ k = 3 ∨ k = 4 ∨ k = 5 ∨ k = 6 := by omega
    rcases hcase with rfl | rfl | rfl | rfl | rfl | rfl
    · have htx : textJ (.mk 1 b n t ks vs) = bl ⟨#[110, 117, 108, 108]⟩ := by unfold textJ; rfl
      rw [htx] at hl ⊢
      have Hl := Lib.hid hl
      clear htx hl hk1 hk6
      go_enter Tryd.func39, Tryd.ntmps39
      go_wp2_with (first
        | ((with_reducible refine at_dst (N := 2) rfl ?_); go_must (refine ev_box (cs := #[.pointer (some ⟨g, 0, none⟩)]) rfl rfl rfl ?_; intro p2 w1 hg1 hl1 hb1 hk1)
           have Hb1 := Lib.hid hb1
           have HK1 := Lib.hid hk1
           clear hb1 hk1
           (try simp only [PU]))
        | ((with_reducible refine at_dst (N := 3) rfl ?_); go_must (refine ev_box (cs := #[.int .i64 1, .bool b, .int .i64 n, .string t, .slice kA ks.length kc, .slice A vs.length c]) rfl rfl rfl ?_; intro p3 w2 hg2 hl2 hb2 hk2)
           have q2 := (blk_cell (hk2.blk Hb1.out id) 0).trans rfl
           have q30 := (blk_cell hb2 0).trans rfl
           have q31 := (blk_cell hb2 1).trans rfl
           have q32 := (blk_cell hb2 2).trans rfl
           have q33 := (blk_cell hb2 3).trans rfl
           have q34 := (blk_cell hb2 4).trans rfl
           have q35 := (blk_cell hb2 5).trans rfl
           have Hb2 := Lib.hid (And.intro (hk2.blk Hb1.out id) hb2)
           have HK2 := Lib.hid (HK1.out.trans hk2 (fun _ _ h => h))
           have HB2 := Lib.hid (HB.out.after HK2.out)
           have Hle := Lib.hid (show W.heap.size ≤ p2 ∧ W.heap.size ≤ p3 ∧ p2 < w2.heap.size ∧ p3 < w2.heap.size from ⟨by have := HK1.out.size; omega, by have := HK1.out.size; omega, blk_lt (hk2.blk Hb1.out id), blk_lt hb2⟩)
           clear hb2 hk2 Hb1 HK1 hg1 hl1 hg2 hl2
           (try simp only [PU]))
        | (go_at_call 64; go_must (refine (writeString HB2.out ⟨#[110, 117, 108, 108]⟩ (by have := Hl.out; omega) (by decide) (by have := HK2.out.size; have := Hg.out; omega)).mono ?_; rintro e w9 ⟨x9, v9, rfl, hb9, hw9⟩); have HB := Lib.hid hb9; have HW := Lib.hid (hw9.pre HK2.out); clear hb9 hw9; (try simp only [PU]))
      )
      go_end0
      exact ⟨_, v9, rfl, HB.out, HW.out⟩
    · have htx : textJ (.mk 2 b n t ks vs) = bl ⟨(Lib.formatBool b).toArray⟩ := by unfold textJ; cases b <;> rfl
      have h5 : (bl ⟨(Lib.formatBool b).toArray⟩).length ≤ 1000000000000 := by cases b <;> decide
      rw [htx] at hl ⊢
      have Hl := Lib.hid (And.intro hl h5)
      clear htx hl hk1 hk6 h5
      go_enter Tryd.func39, Tryd.ntmps39
      go_wp2_with (first
        | ((with_reducible refine at_dst (N := 2) rfl ?_); go_must (refine ev_box (cs := #[.pointer (some ⟨g, 0, none⟩)]) rfl rfl rfl ?_; intro p2 w1 hg1 hl1 hb1 hk1)
           have Hb1 := Lib.hid hb1
           have HK1 := Lib.hid hk1
           clear hb1 hk1
           (try simp only [PU]))
        | ((with_reducible refine at_dst (N := 3) rfl ?_); go_must (refine ev_box (cs := #[.int .i64 2, .bool b, .int .i64 n, .string t, .slice kA ks.length kc, .slice A vs.length c]) rfl rfl rfl ?_; intro p3 w2 hg2 hl2 hb2 hk2)
           have q2 := (blk_cell (hk2.blk Hb1.out id) 0).trans rfl
           have q30 := (blk_cell hb2 0).trans rfl
           have q31 := (blk_cell hb2 1).trans rfl
           have q32 := (blk_cell hb2 2).trans rfl
           have q33 := (blk_cell hb2 3).trans rfl
           have q34 := (blk_cell hb2 4).trans rfl
           have q35 := (blk_cell hb2 5).trans rfl
           have Hb2 := Lib.hid (And.intro (hk2.blk Hb1.out id) hb2)
           have HK2 := Lib.hid (HK1.out.trans hk2 (fun _ _ h => h))
           have HB2 := Lib.hid (HB.out.after HK2.out)
           have Hle := Lib.hid (show W.heap.size ≤ p2 ∧ W.heap.size ≤ p3 ∧ p2 < w2.heap.size ∧ p3 < w2.heap.size from ⟨by have := HK1.out.size; omega, by have := HK1.out.size; omega, blk_lt (hk2.blk Hb1.out id), blk_lt hb2⟩)
           clear hb2 hk2 Hb1 HK1 hg1 hl1 hg2 hl2
           (try simp only [PU]))
      )
      refine wp_region_perm [(0, true), (1, true), (2, true), (3, true), (4, true), (5, false), (6, false)] (fun w' => w'.cell? ⟨p2, 0, none⟩ = some (.pointer (some ⟨g, 0, none⟩)) ∧ w'.cell? ⟨p3, 1, none⟩ = some (.bool b)) rfl (by kernel_rfl) (by kernel_rfl) (by decide) (fun c a d v w h => by cases d <;> exact h) ⟨q2, q31⟩ ?_
      refine perm_q (v := ?v1_0) (some 14) rfl rfl rfl ?q1_0 ?h1_0; (case q1_0 => (intro w' hS; obtain ⟨s1, s2⟩ := hS; first | (go_simp; done) | (go_simp; rfl))); (try simp only [PU])
      refine perm_q (v := ?v1_1) (some 15) rfl rfl rfl ?q1_1 ?h1_1; (case q1_1 => (intro w' hS; obtain ⟨s1, s2⟩ := hS; first | (go_simp; done) | (go_simp; rfl))); (try simp only [PU])
      refine perm_q (v := ?v1_2) (some 16) rfl rfl rfl ?q1_2 ?h1_2; (case q1_2 => (intro w' hS; obtain ⟨s1, s2⟩ := hS; first | (go_simp; done) | (go_simp; rfl))); (try simp only [PU])
      refine perm_q (v := ?v1_3) (some 17) rfl rfl rfl ?q1_3 ?h1_3; (case q1_3 => (intro w' hS; obtain ⟨s1, s2⟩ := hS; first | (go_simp; done) | (go_simp; rfl))); (try simp only [PU])
      refine perm_q (v := ?v1_4) (some 18) rfl rfl rfl ?q1_4 ?h1_4; (case q1_4 => (intro w' hS; obtain ⟨s1, s2⟩ := hS; first | (go_simp; done) | (go_simp; rfl))); (try simp only [PU])
      refine perm_e rfl ?_
      go_wp2_with (go_at_call 65; go_must (refine (Tryd.strconv_FormatBool b _).mono ?_; rintro e w3 ⟨rfl, rfl⟩))
      (try simp only [PU])
      refine ⟨⟨q2, q31⟩, ?_⟩
      refine perm_e rfl ?_
      go_wp2_with (go_at_call 64; go_must (refine (writeString (HB2.out.after (Keeps.refl Nob w2).drew) ⟨(Lib.formatBool b).toArray⟩ (by have := Hl.out; omega) Hl.out.2 (by show base ≤ w2.heap.size; have := HK2.out.size; have := Hg.out; omega)).mono ?_; rintro e w9 ⟨x9, v9, rfl, hb9, hw9⟩))
      have HW9 := Lib.hid (hw9.pre (Keeps.refl Nob w2).drew)
      have HB := Lib.hid hb9
      have HW := Lib.hid (HW9.out.pre HK2.out)
      clear hb9 hw9
      (try simp only [PU])
      have m2 : ¬ (p2 = g ∨ some p2 = v.ownBlock) := fun h => h.elim (fun e => by have := Hlt.out; have := Hle.out; omega) (fun e => by have := (Hol.out p2 e.symm).2; have := Hle.out; omega)
      have m3 : ¬ (p3 = g ∨ some p3 = v.ownBlock) := fun h => h.elim (fun e => by have := Hlt.out; have := Hle.out; omega) (fun e => by have := (Hol.out p3 e.symm).2; have := Hle.out; omega)
      refine ⟨⟨HW9.out.keep.cell q2 m2, HW9.out.keep.cell q31 m3⟩, ?_⟩
      refine perm_nil ?_
      go_wp2
      go_end0
      exact ⟨_, v9, rfl, HB.out, HW.out⟩
    · have htx : textJ (.mk 3 b n t ks vs) = bl ⟨(Lib.itoa n).toArray⟩ := by unfold textJ; rfl
      have h5 : (bl ⟨(Lib.itoa n).toArray⟩).length ≤ 1000000000000 := by have := itoa_len Hr.out; simp only [bl]; omega
      rw [htx] at hl ⊢
      have Hl := Lib.hid (And.intro hl h5)
      clear htx hl hk1 hk6 h5
      go_enter Tryd.func39, Tryd.ntmps39
      go_wp2_with (first
        | ((with_reducible refine at_dst (N := 2) rfl ?_); go_must (refine ev_box (cs := #[.pointer (some ⟨g, 0, none⟩)]) rfl rfl rfl ?_; intro p2 w1 hg1 hl1 hb1 hk1)
           have Hb1 := Lib.hid hb1
           have HK1 := Lib.hid hk1
           clear hb1 hk1
           (try simp only [PU]))
        | ((with_reducible refine at_dst (N := 3) rfl ?_); go_must (refine ev_box (cs := #[.int .i64 3, .bool b, .int .i64 n, .string t, .slice kA ks.length kc, .slice A vs.length c]) rfl rfl rfl ?_; intro p3 w2 hg2 hl2 hb2 hk2)
           have q2 := (blk_cell (hk2.blk Hb1.out id) 0).trans rfl
           have q30 := (blk_cell hb2 0).trans rfl
           have q31 := (blk_cell hb2 1).trans rfl
           have q32 := (blk_cell hb2 2).trans rfl
           have q33 := (blk_cell hb2 3).trans rfl
           have q34 := (blk_cell hb2 4).trans rfl
           have q35 := (blk_cell hb2 5).trans rfl
           have Hb2 := Lib.hid (And.intro (hk2.blk Hb1.out id) hb2)
           have HK2 := Lib.hid (HK1.out.trans hk2 (fun _ _ h => h))
           have HB2 := Lib.hid (HB.out.after HK2.out)
           have Hle := Lib.hid (show W.heap.size ≤ p2 ∧ W.heap.size ≤ p3 ∧ p2 < w2.heap.size ∧ p3 < w2.heap.size from ⟨by have := HK1.out.size; omega, by have := HK1.out.size; omega, blk_lt (hk2.blk Hb1.out id), blk_lt hb2⟩)
           clear hb2 hk2 Hb1 HK1 hg1 hl1 hg2 hl2
           (try simp only [PU]))
      )
      refine wp_region_perm [(0, true), (1, true), (2, true), (3, true), (4, true), (5, false), (6, false)] (fun w' => w'.cell? ⟨p2, 0, none⟩ = some (.pointer (some ⟨g, 0, none⟩)) ∧ w'.cell? ⟨p3, 2, none⟩ = some (.int .i64 n)) rfl (by kernel_rfl) (by kernel_rfl) (by decide) (fun c a d v w h => by cases d <;> exact h) ⟨q2, q32⟩ ?_
      refine perm_q (v := ?v2_0) (some 23) rfl rfl rfl ?q2_0 ?h2_0; (case q2_0 => (intro w' hS; obtain ⟨s1, s2⟩ := hS; first | (go_simp; done) | (go_simp; rfl))); (try simp only [PU])
      refine perm_q (v := ?v2_1) (some 24) rfl rfl rfl ?q2_1 ?h2_1; (case q2_1 => (intro w' hS; obtain ⟨s1, s2⟩ := hS; first | (go_simp; done) | (go_simp; rfl))); (try simp only [PU])
      refine perm_q (v := ?v2_2) (some 25) rfl rfl rfl ?q2_2 ?h2_2; (case q2_2 => (intro w' hS; obtain ⟨s1, s2⟩ := hS; first | (go_simp; done) | (go_simp; rfl))); (try simp only [PU])
      refine perm_q (v := ?v2_3) (some 26) rfl rfl rfl ?q2_3 ?h2_3; (case q2_3 => (intro w' hS; obtain ⟨s1, s2⟩ := hS; first | (go_simp; done) | (go_simp; rfl))); (try simp only [PU])
      refine perm_q (v := ?v2_4) (some 27) rfl rfl rfl ?q2_4 ?h2_4; (case q2_4 => (intro w' hS; obtain ⟨s1, s2⟩ := hS; first | (go_simp; done) | (go_simp; rfl))); (try simp only [PU])
      refine perm_e rfl ?_
      go_wp2_with (go_at_call 42; go_must (refine (itoa42 (HT.out.keep (HK2.out.then (Keeps.refl Nob w2).drew).any) n (by have := Hr.out; omega) (by have := Hr.out; omega)).mono ?_; rintro e w3 ⟨rfl, hk3⟩))
      have HK3 := Lib.hid hk3
      clear hk3
      (try simp only [PU])
      refine ⟨⟨HK3.out.cell (w := w2.drew) q2 id, HK3.out.cell (w := w2.drew) q32 id⟩, ?_⟩
      refine perm_e rfl ?_
      go_wp2_with (go_at_call 64; go_must (refine (writeString (HB2.out.after ((Keeps.refl Nob w2).drew.trans HK3.out (fun _ _ h => h))) ⟨(Lib.itoa n).toArray⟩ (by have := Hl.out; omega) Hl.out.2 (by have h3 : w2.heap.size ≤ w3.heap.size := HK3.out.size; have := HK2.out.size; have := Hg.out; omega)).mono ?_; rintro e w9 ⟨x9, v9, rfl, hb9, hw9⟩))
      have HW9 := Lib.hid (hw9.pre ((Keeps.refl Nob w2).drew.trans HK3.out (fun _ _ h => h)))
      have HB := Lib.hid hb9
      have HW := Lib.hid (HW9.out.pre HK2.out)
      clear hb9 hw9
      (try simp only [PU])
      have m2 : ¬ (p2 = g ∨ some p2 = v.ownBlock) := fun h => h.elim (fun e => by have := Hlt.out; have := Hle.out; omega) (fun e => by have := (Hol.out p2 e.symm).2; have := Hle.out; omega)
      have m3 : ¬ (p3 = g ∨ some p3 = v.ownBlock) := fun h => h.elim (fun e => by have := Hlt.out; have := Hle.out; omega) (fun e => by have := (Hol.out p3 e.symm).2; have := Hle.out; omega)
      refine ⟨⟨HW9.out.keep.cell q2 m2, HW9.out.keep.cell q32 m3⟩, ?_⟩
      refine perm_nil ?_
      go_wp2
      go_end0
      exact ⟨_, v9, rfl, HB.out, HW.out⟩
    · have htx : textJ (.mk 4 b n t ks vs) = quoteB (bl t) := by unfold textJ; rfl
      have hq := quoteB_ge (bl t)
      rw [htx] at hl ⊢
      have Hl := Lib.hid (show bs.length ≤ 1000000000000 ∧ (bl t).length ≤ 1000000000000 from ⟨by omega, by omega⟩)
      clear htx hl hk1 hk6 hq
      go_enter Tryd.func39, Tryd.ntmps39
      go_wp2_with (first
        | ((with_reducible refine at_dst (N := 2) rfl ?_); go_must (refine ev_box (cs := #[.pointer (some ⟨g, 0, none⟩)]) rfl rfl rfl ?_; intro p2 w1 hg1 hl1 hb1 hk1)
           have Hb1 := Lib.hid hb1
           have HK1 := Lib.hid hk1
           clear hb1 hk1
           (try simp only [PU]))
        | ((with_reducible refine at_dst (N := 3) rfl ?_); go_must (refine ev_box (cs := #[.int .i64 4, .bool b, .int .i64 n, .string t, .slice kA ks.length kc, .slice A vs.length c]) rfl rfl rfl ?_; intro p3 w2 hg2 hl2 hb2 hk2)
           have q2 := (blk_cell (hk2.blk Hb1.out id) 0).trans rfl
           have q30 := (blk_cell hb2 0).trans rfl
           have q31 := (blk_cell hb2 1).trans rfl
           have q32 := (blk_cell hb2 2).trans rfl
           have q33 := (blk_cell hb2 3).trans rfl
           have q34 := (blk_cell hb2 4).trans rfl
           have q35 := (blk_cell hb2 5).trans rfl
           have Hb2 := Lib.hid (And.intro (hk2.blk Hb1.out id) hb2)
           have HK2 := Lib.hid (HK1.out.trans hk2 (fun _ _ h => h))
           have HB2 := Lib.hid (HB.out.after HK2.out)
           have Hle := Lib.hid (show W.heap.size ≤ p2 ∧ W.heap.size ≤ p3 ∧ p2 < w2.heap.size ∧ p3 < w2.heap.size from ⟨by have := HK1.out.size; omega, by have := HK1.out.size; omega, blk_lt (hk2.blk Hb1.out id), blk_lt hb2⟩)
           clear hb2 hk2 Hb1 HK1 hg1 hl1 hg2 hl2
           (try simp only [PU]))
        | (go_at_call 66; go_must (refine (writeText HB2.out t Hl.out.1 Hl.out.2 (by have := HK2.out.size; have := Hg.out; omega)).mono ?_; rintro e w9 ⟨x9, v9, rfl, hb9, hw9⟩); have HB := Lib.hid hb9; have HW := Lib.hid (hw9.pre HK2.out); clear hb9 hw9; (try simp only [PU]))
      )
      go_end0
      exact ⟨_, v9, rfl, HB.out, HW.out⟩
    · have htx : textJ (.mk 5 b n t ks vs) = [91] ++ joinC (textL vs) ++ [93] := by unfold textJ; rfl
      have hj := joinC_len_eq (textL vs)
      rw [htx] at hl ⊢
      simp only [List.length_append, List.length_cons, List.length_nil] at hl
      have Hl := Lib.hid (show bs.length + lens (textL vs) + (textL vs).length + 1 ≤ 1000000000000 by omega)
      have hassoc : bs ++ ([91] ++ joinC (textL vs) ++ [93]) = bs ++ [91] ++ joinC (textL vs) ++ [93] := by simp
      rw [hassoc]
      clear htx hl hk1 hk6 hj hassoc
      go_enter Tryd.func39, Tryd.ntmps39
      go_wp2_with (first
        | ((with_reducible refine at_dst (N := 2) rfl ?_); go_must (refine ev_box (cs := #[.pointer (some ⟨g, 0, none⟩)]) rfl rfl rfl ?_; intro p2 w1 hg1 hl1 hb1 hk1)
           have Hb1 := Lib.hid hb1
           have HK1 := Lib.hid hk1
           clear hb1 hk1
           (try simp only [PU]))
        | ((with_reducible refine at_dst (N := 3) rfl ?_); go_must (refine ev_box (cs := #[.int .i64 5, .bool b, .int .i64 n, .string t, .slice kA ks.length kc, .slice A vs.length c]) rfl rfl rfl ?_; intro p3 w2 hg2 hl2 hb2 hk2)
           have q2 := (blk_cell (hk2.blk Hb1.out id) 0).trans rfl
           have q30 := (blk_cell hb2 0).trans rfl
           have q31 := (blk_cell hb2 1).trans rfl
           have q32 := (blk_cell hb2 2).trans rfl
           have q33 := (blk_cell hb2 3).trans rfl
           have q34 := (blk_cell hb2 4).trans rfl
           have q35 := (blk_cell hb2 5).trans rfl
           have Hb2 := Lib.hid (And.intro (hk2.blk Hb1.out id) hb2)
           have HK2 := Lib.hid (HK1.out.trans hk2 (fun _ _ h => h))
           have HB2 := Lib.hid (HB.out.after HK2.out)
           have Hle := Lib.hid (show W.heap.size ≤ p2 ∧ W.heap.size ≤ p3 ∧ p2 < w2.heap.size ∧ p3 < w2.heap.size from ⟨by have := HK1.out.size; omega, by have := HK1.out.size; omega, blk_lt (hk2.blk Hb1.out id), blk_lt hb2⟩)
           clear hb2 hk2 Hb1 HK1 hg1 hl1 hg2 hl2
           (try simp only [PU]))
        | (go_at_call 67
           have hrun := list68 91 93 g base p2 p3 (textL vs) w2 v bs HB2.out (by have := HK2.out.size; have := Hg.out; omega) Hl.out (fun k hk W' v' bs' h1 h2 h3 => by
             rw [textL_length] at hk
             obtain ⟨b', o', rfl, hb', h6⟩ := HA.out k hk
             have hkw : Keeps (fun k => base ≤ k) W W' := HK2.out.any.trans (h2.from HB2.out Hg.out.1) (fun _ _ h => h)
             have e2 : p2 ≠ g := by have := Hlt.out; have := Hle.out; omega
             have e3 : p3 ≠ g := by have := Hlt.out; have := Hle.out; omega
             have o2 : some p2 ≠ v.ownBlock := fun e => by have := (Hol.out p2 e.symm).2; have := Hle.out; omega
             have o3 : some p3 ≠ v.ownBlock := fun e => by have := (Hol.out p3 e.symm).2; have := Hle.out; omega
             have nb : ∀ q, q < w2.heap.size → some q ≠ v.ownBlock → some q ≠ v'.ownBlock := fun q hq h1 e => by
               rcases h2.row with hr | ⟨b, hb, hl⟩
               · exact h1 (e.trans hr)
               · rw [hb] at e; injection e with e; omega
             refine part68 hk (h6.keep (Hw.out.trans hkw (fun _ _ h => h)) (by have := HX.out b' hb'; omega)) h1 (HX.out b' hb') Hg.out.1 (h2.block Hb2.out.1 e2 o2) (h2.block Hb2.out.2 e3 o3) ⟨⟨e2, nb p2 Hle.out.2.2.1 o2⟩, e3, nb p3 Hle.out.2.2.2 o3⟩ (fun W'' hk'' => ?_)
             rw [textL_get hk] at h3 ⊢
             exact IH.out k hk W'' g base v' bs' (Hw.out.trans (hkw.then hk'') (fun _ _ h => h)) HX.out (HT.out.keep (hkw.then hk'')) (h1.after hk'') Hg.out.1 (by have := hkw.size; have := hk''.size; have := Hg.out; omega) (formed_get Hf.out.1 hk) h3)
           rw [textL_length] at hrun
           go_must (refine hrun.mono ?_; rintro e w9 ⟨x9, v9, rfl, hb9, hw9⟩); have HB := Lib.hid hb9; have HW := Lib.hid (hw9.pre HK2.out); clear hb9 hw9 hrun; (try simp only [PU]))
      )
      go_end0
      exact ⟨_, v9, rfl, HB.out, HW.out⟩
    · have hlen : ks.length = vs.length := by rcases Hf.out.2 with h | h; · exact absurd rfl h
                                              · exact h
      have htx : textJ (.mk 6 b n t ks vs) = [123] ++ joinC (pairT ks vs) ++ [125] := by unfold textJ; rfl
      have hj := joinC_len_eq (pairT ks vs)
      rw [htx] at hl ⊢
      simp only [List.length_append, List.length_cons, List.length_nil] at hl
      have Hl := Lib.hid (show bs.length + lens (pairT ks vs) + (pairT ks vs).length + 1 ≤ 1000000000000 by omega)
      have hassoc : bs ++ ([123] ++ joinC (pairT ks vs) ++ [125]) = bs ++ [123] ++ joinC (pairT ks vs) ++ [125] := by simp
      rw [hassoc]
      have Hlen := Lib.hid hlen
      clear htx hl hk1 hk6 hj hassoc hlen
      go_enter Tryd.func39, Tryd.ntmps39
      go_wp2_with (first
        | ((with_reducible refine at_dst (N := 2) rfl ?_); go_must (refine ev_box (cs := #[.pointer (some ⟨g, 0, none⟩)]) rfl rfl rfl ?_; intro p2 w1 hg1 hl1 hb1 hk1)
           have Hb1 := Lib.hid hb1
           have HK1 := Lib.hid hk1
           clear hb1 hk1
           (try simp only [PU]))
        | ((with_reducible refine at_dst (N := 3) rfl ?_); go_must (refine ev_box (cs := #[.int .i64 6, .bool b, .int .i64 n, .string t, .slice kA ks.length kc, .slice A vs.length c]) rfl rfl rfl ?_; intro p3 w2 hg2 hl2 hb2 hk2)
           have q2 := (blk_cell (hk2.blk Hb1.out id) 0).trans rfl
           have q30 := (blk_cell hb2 0).trans rfl
           have q31 := (blk_cell hb2 1).trans rfl
           have q32 := (blk_cell hb2 2).trans rfl
           have q33 := (blk_cell hb2 3).trans rfl
           have q34 := (blk_cell hb2 4).trans rfl
           have q35 := (blk_cell hb2 5).trans rfl
           have Hb2 := Lib.hid (And.intro (hk2.blk Hb1.out id) hb2)
           have HK2 := Lib.hid (HK1.out.trans hk2 (fun _ _ h => h))
           have HB2 := Lib.hid (HB.out.after HK2.out)
           have Hle := Lib.hid (show W.heap.size ≤ p2 ∧ W.heap.size ≤ p3 ∧ p2 < w2.heap.size ∧ p3 < w2.heap.size from ⟨by have := HK1.out.size; omega, by have := HK1.out.size; omega, blk_lt (hk2.blk Hb1.out id), blk_lt hb2⟩)
           clear hb2 hk2 Hb1 HK1 hg1 hl1 hg2 hl2
           (try simp only [PU]))
        | (go_at_call 67
           have hrun := list69 123 125 g base p2 p3 (pairT ks vs) w2 v bs HB2.out (by have := HK2.out.size; have := Hg.out; omega) Hl.out (fun k hk W' v' bs' h1 h2 h3 => by
             rw [pairT_length Hlen.out] at hk
             have hkk : k < ks.length := by rw [Hlen.out]; exact hk
             obtain ⟨b', o', rfl, hb', h6⟩ := HA.out k hk
             obtain ⟨kb, ko, rfl, hkb, hkey⟩ := Hkx.out k hkk
             have hkw : Keeps (fun k => base ≤ k) W W' := HK2.out.any.trans (h2.from HB2.out Hg.out.1) (fun _ _ h => h)
             have e2 : p2 ≠ g := by have := Hlt.out; have := Hle.out; omega
             have e3 : p3 ≠ g := by have := Hlt.out; have := Hle.out; omega
             have o2 : some p2 ≠ v.ownBlock := fun e => by have := (Hol.out p2 e.symm).2; have := Hle.out; omega
             have o3 : some p3 ≠ v.ownBlock := fun e => by have := (Hol.out p3 e.symm).2; have := Hle.out; omega
             have nb : ∀ q, q < w2.heap.size → some q ≠ v.ownBlock → some q ≠ v'.ownBlock := fun q hq h1 e => by
               rcases h2.row with hr | ⟨b, hb, hl⟩
               · exact h1 (e.trans hr)
               · rw [hb] at e; injection e with e; omega
             rw [pairT_get hk Hlen.out] at h3 ⊢
             have hl3 := h3
             simp only [List.length_append, List.length_cons, List.length_nil] at hl3
             have hww := Hw.out.trans hkw (fun _ _ h => h)
             refine part69 hkk hk (hww.cell hkey (by have := HX.out kb hkb; show ¬ base ≤ kb; omega)) (h6.keep hww (by have := HX.out b' hb'; omega)) h1 (HX.out kb hkb) (HX.out b' hb') Hg.out.1 (by have := hkw.size; have := Hg.out; omega) (h2.block Hb2.out.1 e2 o2) (h2.block Hb2.out.2 e3 o3) ⟨⟨e2, nb p2 Hle.out.2.2.1 o2⟩, e3, nb p3 Hle.out.2.2.2 o3⟩ (by omega) (fun W'' v'' hb'' hk'' => ?_)
             exact IH.out k hk W'' g base v'' _ (hww.trans hk'' (fun _ _ h => h)) HX.out (HT.out.keep (hkw.trans hk'' (fun _ _ h => h))) hb'' Hg.out.1 (by have := hkw.size; have := hk''.size; have := Hg.out; omega) (formed_get Hf.out.1 hk) (by simp only [List.length_append, List.length_cons, List.length_nil]; omega))
           rw [pairT_length Hlen.out] at hrun
           go_must (refine hrun.mono ?_; rintro e w9 ⟨x9, v9, rfl, hb9, hw9⟩); have HB := Lib.hid hb9; have HW := Lib.hid (hw9.pre HK2.out); clear hb9 hw9 hrun; (try simp only [PU]))
      )
      go_end0
      exact ⟨_, v9, rfl, by have h := HB.out; simp only [List.append_assoc, List.cons_append, List.nil_append] at h ⊢; exact h, HW.out⟩
end Go.Proofs.WV

/-
  What is formed, by the program (formed), in memory. Condition: the value lies, and is not larger than an int counts.
-/
namespace Go.Proofs.WV
open Go.RowKit Go.Proofs.KL Go.Proofs.WM
set_option maxRecDepth 100000
set_option linter.unusedSimpArgs false
set_option linter.unusedVariables false

theorem formedL_iff : ∀ vs : List J, formedL vs = true ↔ ∀ i, i < vs.length → formedJ (vs.getD i default) = true
  | [] => by simp [formedL]
  | v :: vs => by
    simp only [formedL, Bool.and_eq_true, formedL_iff vs]
    constructor
    · rintro ⟨h1, h2⟩ i hi
      cases i with
      | zero => simpa using h1
      | succ i => simp only [List.getD_cons_succ]; exact h2 i (by simpa using hi)
    · intro h
      exact ⟨by simpa using h 0 (by simp), fun i hi => by simpa using h (i + 1) (by simpa using hi)⟩
set_option maxHeartbeats 1000000 in
/-- The closure of formed. -/
theorem not63 {W : World} {X : Nat → Prop} {w : World} {x0 x1 x2 x3 x4 x5 : Value} {j : J} {r : Bool} (hx : JX w X (.agg #[x0, x1, x2, x3, x4, x5]) j)
    (hrun : ∀ W', Keeps Nob W W' → Calls Tryd.prog 37 #[.agg #[x0, x1, x2, x3, x4, x5]] W' fun e w' => e = .returned (.bool r) ∧ Keeps Nob W' w') :
    Calls Tryd.prog 63 #[.agg #[x0, x1, x2, x3, x4, x5]] W fun e w' => e = .returned (.bool (!r)) ∧ Keeps Nob W w' := by
  obtain ⟨y0, y1, y2, y3, yA, yn, yc, yB, ym, yd, ⟨rfl, rfl, rfl⟩, rfl, rfl, rfl⟩ := hx.six
  have Hrun := Lib.hid hrun
  clear hx hrun
  go_enter Tryd.func63, Tryd.ntmps63
  go_wp2_with (first
    | ((with_reducible refine at_dst (N := 1) rfl ?_); go_must (refine ev_box (cs := #[.int .i64 y0, .bool y1, .int .i64 y2, .string y3, .slice yA yn yc, .slice yB ym yd]) rfl rfl rfl ?_; intro g1 w1 hg1 hl1 hb1 hk1)
       have v0 := (blk_cell hb1 0).trans rfl
       have v1 := (blk_cell hb1 1).trans rfl
       have v2 := (blk_cell hb1 2).trans rfl
       have v3 := (blk_cell hb1 3).trans rfl
       have v4 := (blk_cell hb1 4).trans rfl
       have v5 := (blk_cell hb1 5).trans rfl
       have HK1 := Lib.hid hk1
       clear hb1 hk1
       (try simp only [PU]))
    | (go_at_call 37; go_must (refine (Hrun.out w1 HK1.out).mono ?_; rintro e w2 ⟨rfl, hk2⟩); have HK2 := Lib.hid (HK1.out.trans hk2 (fun _ _ h => h)); clear hk2; (try simp only [PU]))
  )
  go_ret
  exact ⟨rfl, HK2.out⟩
set_option maxHeartbeats 1000000 in
/-- IndexFunc, of the first that is not formed. -/
theorem index93 {w W : World} {X : Nat → Prop} {A : Option Addr} {c : Nat} {u : Nat → Nat → Value} {vs : List J} (hw : Keeps Nob w W) (hc : vs.length ≤ 1000000000000)
    (hA : ∀ i, i < vs.length → ∃ b o, A = some ⟨b, o, none⟩ ∧ X b ∧ Six w b (o + i * 6) (u i 0) (u i 1) (u i 2) (u i 3) (u i 4) (u i 5))
    (hv : ∀ i, i < vs.length → JX w X (.agg #[u i 0, u i 1, u i 2, u i 3, u i 4, u i 5]) (vs.getD i default))
    (hp : ∀ i, i < vs.length → ∀ W', Keeps Nob w W' → Calls Tryd.prog 37 #[.agg #[u i 0, u i 1, u i 2, u i 3, u i 4, u i 5]] W' fun e w' => e = .returned (.bool (formedJ (vs.getD i default))) ∧ Keeps Nob W' w') :
    Calls Tryd.prog 93 #[.slice A vs.length c, .func (.func 63) #[] #[]] W fun e w' => (∃ r : Int, e = .returned (.int .i64 r) ∧ (0 ≤ r ↔ formedL vs = false)) ∧ Keeps Nob W w' := by
  obtain ⟨len, hlen⟩ : ∃ x, vs.length = x := ⟨_, rfl⟩
  have Hlen := Lib.hid hlen
  rw [hlen] at hc ⊢
  have HA := Lib.hid hA
  have HV := Lib.hid hv
  have HP := Lib.hid hp
  have HW := Lib.hid hw
  clear hlen hA hv hp hw
  go_enter Tryd.func93, Tryd.ntmps93
  go_wp2
  go_loopw [5, 8] (fun nv iv wr => ∃ j : Nat, iv = .int .i64 j ∧ j ≤ len ∧ Hid (Keeps Nob W wr) ∧ Hid (∀ i, i < j → formedJ (vs.getD i default) = true)) (fun _ iv _ => len - (intOf iv).toNat)
  case atStart => exact ⟨0, rfl, Nat.zero_le _, Lib.hid (Keeps.refl _ _), Lib.hid (fun i h => absurd h (Nat.not_lt_zero _))⟩
  case round =>
    obtain ⟨j, rfl, hj, HKr, HF⟩ := hrel
    by_cases hlt : j < len
    · obtain ⟨b', o, rfl, -, h6⟩ := HA.out j (by rw [Hlen.out]; exact hlt)
      obtain ⟨⟨e0, e1, e2⟩, e3, e4, e5⟩ := h6.keep (HW.out.trans HKr.out (fun _ _ h => h)) id
      have Hrun := Lib.hid (not63 (W := wr) (HV.out j (by rw [Hlen.out]; exact hlt)) (fun W' hk => HP.out j (by rw [Hlen.out]; exact hlt) W' ((HW.out.trans HKr.out (fun _ _ h => h)).trans hk (fun _ _ h => h))))
      generalize u j 0 = x0 at *
      generalize u j 1 = x1 at *
      generalize u j 2 = x2 at *
      generalize u j 3 = x3 at *
      generalize u j 4 = x4 at *
      generalize u j 5 = x5 at *
      obtain ⟨fj, hfj⟩ : ∃ x, formedJ (vs.getD j default) = x := ⟨_, rfl⟩
      rw [hfj] at Hrun
      have Hfj := Lib.hid hfj
      clear h6 hfj
      cases fj
      · go_wp2_with (first
          | (go_at_call 63; go_must (refine Hrun.out.mono ?_; rintro e w4 ⟨rfl, hk4⟩); have HK4 := Lib.hid (HKr.out.trans hk4 (fun _ _ h => h)); clear hk4; (try simp only [PU]))
        )
        go_ret
        refine ⟨⟨j, rfl, fun _ => ?_, fun _ => by omega⟩, HK4.out⟩
        rcases hfl : formedL vs with _ | _
        · rfl
        · have := (formedL_iff vs).1 hfl j (by rw [Hlen.out]; exact hlt)
          rw [Hfj.out] at this
          cases this
      · go_wp2_with (first
          | (go_at_call 63; go_must (refine Hrun.out.mono ?_; rintro e w4 ⟨rfl, hk4⟩); have HK4 := Lib.hid (HKr.out.trans hk4 (fun _ _ h => h)); clear hk4; (try simp only [PU]))
        )
        go_roundw
        case rel =>
          refine ⟨j + 1, by go_num, by omega, HK4, Lib.hid (fun i hi => ?_)⟩
          by_cases e : i = j
          · rw [e]; exact Hfj.out
          · exact HF.out i (by omega)
        case measure => simp [intOf]; omega
    · have hj' : j = len := by omega
      subst hj'
      go_wp2
      go_ret
      have hfl := (formedL_iff vs).2 (fun i hi => HF.out i (by rw [← Hlen.out]; exact hi))
      exact ⟨⟨-1, rfl, by simp [hfl]⟩, HKr.out⟩
theorem contains62 {w W : World} {X : Nat → Prop} {A : Option Addr} {c : Nat} {u : Nat → Nat → Value} {vs : List J} (hw : Keeps Nob w W) (hc : vs.length ≤ 1000000000000)
    (hA : ∀ i, i < vs.length → ∃ b o, A = some ⟨b, o, none⟩ ∧ X b ∧ Six w b (o + i * 6) (u i 0) (u i 1) (u i 2) (u i 3) (u i 4) (u i 5))
    (hv : ∀ i, i < vs.length → JX w X (.agg #[u i 0, u i 1, u i 2, u i 3, u i 4, u i 5]) (vs.getD i default))
    (hp : ∀ i, i < vs.length → ∀ W', Keeps Nob w W' → Calls Tryd.prog 37 #[.agg #[u i 0, u i 1, u i 2, u i 3, u i 4, u i 5]] W' fun e w' => e = .returned (.bool (formedJ (vs.getD i default))) ∧ Keeps Nob W' w') :
    Calls Tryd.prog 62 #[.slice A vs.length c, .func (.func 63) #[] #[]] W fun e w' => e = .returned (.bool (!formedL vs)) ∧ Keeps Nob W w' := by
  have Hrun := Lib.hid (index93 (c := c) hw hc hA hv hp)
  generalize vs.length = len at *
  clear hw hc hA hv hp
  go_enter Tryd.func62, Tryd.ntmps62
  go_wp2_with (first
    | (go_at_call 93; go_must (refine Hrun.out.mono ?_; rintro e w4 ⟨⟨r, rfl, hr⟩, hk4⟩); have HK4 := Lib.hid hk4; have Hr := Lib.hid hr; clear hk4 hr; (try simp only [PU]))
  )
  go_ret
  refine ⟨?_, HK4.out⟩
  have := Hr.out
  rcases hfl : formedL vs with _ | _ <;> rw [hfl] at this <;> simp at this ⊢ <;> omega
end Go.Proofs.WV

/-
  What is formed, by the program (formed): the whole, in memory. Condition: the value lies, and is not larger than an int counts.
-/
namespace Go.Proofs.WV
open Go.RowKit Go.Proofs.KL Go.Proofs.WM
set_option maxRecDepth 100000
set_option linter.unusedSimpArgs false
set_option linter.unusedVariables false

theorem at_update {P : Program} {ops : Array Oper} {rest : List Oper} {o : Oper} {a : Act} {Q : Exit → Act → World → Prop} {t : TypeId} {m k v : Operand} {W : World} (_h : o.op = .mapUpdate t m k v) (h : wpList P ops Q (o :: rest) a W) : wpList P ops Q (o :: rest) a W := h
theorem bl_nil (t : ByteArray) : bl t = [] ↔ t = ByteArray.empty := by
  constructor
  · intro h; obtain ⟨a⟩ := t; simp [bl] at h; subst h; rfl
  · rintro rfl; rfl
theorem zero98 : (Tryd.prog.info? 4).map (·.zero) = some (some (.bool false)) := by kernel_rfl
theorem hasKey_mem (q : ByteArray) : ∀ ks : List ByteArray, hasKey ks q = true ↔ q ∈ ks
  | [] => by simp [hasKey]
  | k :: ks => by
    rw [hasKey_cons]
    simp only [Bool.or_eq_true, decide_eq_true_eq, hasKey_mem q ks, List.mem_cons]
    constructor
    · rintro (h | h); · exact .inl h.symm
      · exact .inr h
    · rintro (h | h); · exact .inl h.symm
      · exact .inr h
theorem nodup_step {ks : List ByteArray} {i : Nat} (hi : i < ks.length) : (ks.take (i + 1)).Nodup ↔ (ks.take i).Nodup ∧ hasKey (ks.take i) (ks.getD i ByteArray.empty) = false := by
  have e : ks.take (i + 1) = ks.take i ++ [ks.getD i ByteArray.empty] := by
    rw [List.take_succ_eq_append_getElem hi, List.getD_eq_getElem?_getD, List.getElem?_eq_getElem hi]; rfl
  rw [e, List.nodup_append]
  have hm := hasKey_mem (ks.getD i ByteArray.empty) (ks.take i)
  constructor
  · rintro ⟨h1, -, h3⟩
    refine ⟨h1, ?_⟩
    rcases hk : hasKey (ks.take i) (ks.getD i ByteArray.empty) with _ | _
    · rfl
    · exact absurd rfl (h3 _ (hm.1 hk) _ (List.mem_singleton.2 rfl))
  · rintro ⟨h1, h2⟩
    refine ⟨h1, by simp, fun a ha b hb e => ?_⟩
    rw [List.mem_singleton.1 hb] at e
    rw [e] at ha
    rw [hm.2 ha] at h2
    cases h2
theorem nodup_all (ks : List ByteArray) (h : ks.Nodup) (i : Nat) : (ks.take i).Nodup := h.sublist (List.take_sublist _ _)
theorem fine_eq (k : Int) (b : Bool) (n : Int) (t : ByteArray) (ks : List ByteArray) (nv : Nat) : fineJ k b n t ks nv = (decide (1 ≤ k ∧ k ≤ 6) && ((!b || k == 2) && (n == 0 || k == 3) && (t.toList.isEmpty || k == 4)) && (((ks.length : Int) == 0 || k == 6) && ((nv : Int) == 0 || decide (5 ≤ k))) && (decide (-9007199254740991 ≤ n ∧ n ≤ 9007199254740991) && (!(k == 6) || !((ks.length : Int) != (nv : Int)))) && decide ks.Nodup) := by
  have ht : t.toList.isEmpty = decide (bl t = []) := by
    rw [Lib.toList_data, Bool.eq_iff_iff]; simp [bl]
  have h1 : ((ks.length : Int) == 0) = decide (ks = []) := by
    rw [Bool.eq_iff_iff]; simp
  have h2 : ((nv : Int) == 0) = decide (nv = 0) := by rw [Bool.eq_iff_iff]; simp
  have h3 : ((ks.length : Int) != (nv : Int)) = !decide (ks.length = nv) := by
    rw [Bool.eq_iff_iff]; simp
    omega
  have h4 : ∀ z : Int, (k == z) = decide (k = z) := fun z => by rw [Bool.eq_iff_iff]; simp
  have h5 : (n == 0) = decide (n = 0) := by rw [Bool.eq_iff_iff]; simp
  rw [ht, h1, h2, h3, h4, h4, h4, h4, h5]
  unfold fineJ
  rw [Bool.not_not]
  simp only [Bool.and_assoc]
set_option maxHeartbeats 4000000 in
theorem formed37 {w : World} {X : Nat → Prop} {v : Value} {j : J} (h : JX w X v j) : ∀ W, Keeps Nob w W → sizeJ j ≤ 1000000000000 → Calls Tryd.prog 37 #[v] W fun e w' => e = .returned (.bool (formedJ j)) ∧ Keeps Nob W w' := by
  induction h with
  | mk k b n t ks vs kv A c u h1 hc hA hv ih =>
    intro W hW hb
    have hsz : vs.length ≤ 1000000000000 ∧ ks.length ≤ 1000000000000 ∧ sizeL vs ≤ 1000000000000 := by have h1 := size_len vs; unfold sizeJ at hb; omega
    obtain ⟨kA, kc, rfl, hkc, hkx⟩ := h1
    have hrunc : ∀ W', Keeps Nob w W' → Calls Tryd.prog 62 #[.slice A vs.length c, .func (.func 63) #[] #[]] W' fun e w' => e = .returned (.bool (!formedL vs)) ∧ Keeps Nob W' w' :=
      fun W' hw' => contains62 hw' hsz.1 hA hv (fun i hi W'' h'' => ih i hi W'' h'' (by have := size_get (vs := vs) (i := i) hi; omega))
    have Hrunc := Lib.hid hrunc
    have Hkx := Lib.hid hkx
    have HW := Lib.hid hW
    have Hsz := Lib.hid hsz
    obtain ⟨nk, hnk⟩ : ∃ x, ks.length = x := ⟨_, rfl⟩
    obtain ⟨nv, hnv⟩ : ∃ x, vs.length = x := ⟨_, rfl⟩
    have Hnk := Lib.hid hnk
    rw [hnk] at hkc hsz ⊢
    rw [hnv] at hsz Hrunc ⊢
    obtain ⟨hsz1, hsz2, -⟩ := hsz
    obtain ⟨fl, hfl⟩ : ∃ x, formedL vs = x := ⟨_, rfl⟩
    rw [hfl] at Hrunc
    have hfine : formedJ (.mk k b n t ks vs) = (fineJ k b n t ks nv && fl) := by unfold formedJ; rw [hnv, hfl]
    rw [hfine]
    clear hrunc hkx hW hnk hnv hfl hfine hA hv ih hc hb
    go_enter Tryd.func37, Tryd.ntmps37
    go_upto_region 1 with (first
      | ((with_reducible refine at_dst (N := 1) rfl ?_); go_must (refine ev_box (cs := #[.int .i64 k, .bool b, .int .i64 n, .string t, .slice kA nk kc, .slice A nv c]) rfl rfl rfl ?_; intro g1 w1 hg1 hl1 hb1 hk1)
         have v0 := (blk_cell hb1 0).trans rfl
         have v1 := (blk_cell hb1 1).trans rfl
         have v2 := (blk_cell hb1 2).trans rfl
         have v3 := (blk_cell hb1 3).trans rfl
         have v4 := (blk_cell hb1 4).trans rfl
         have v5 := (blk_cell hb1 5).trans rfl
         have HK1 := Lib.hid hk1
         have Hb1 := Lib.hid hb1
         clear hb1 hk1
         (try simp only [PU]))
    )
    obtain ⟨b', hb'⟩ : ∃ x, b = x := ⟨_, rfl⟩
    obtain ⟨B2, e2⟩ : ∃ x, (k == 2) = x := ⟨_, rfl⟩
    obtain ⟨B3, e3⟩ : ∃ x, (k == 3) = x := ⟨_, rfl⟩
    obtain ⟨B4, e4⟩ : ∃ x, (k == 4) = x := ⟨_, rfl⟩
    obtain ⟨B6, e6⟩ : ∃ x, (k == 6) = x := ⟨_, rfl⟩
    obtain ⟨N0, en⟩ : ∃ x, (n == 0) = x := ⟨_, rfl⟩
    obtain ⟨K0, ek⟩ : ∃ x, ((nk : Int) == 0) = x := ⟨_, rfl⟩
    obtain ⟨V0, ev⟩ : ∃ x, ((nv : Int) == 0) = x := ⟨_, rfl⟩
    obtain ⟨KV, ekv⟩ : ∃ x, ((nk : Int) != (nv : Int)) = x := ⟨_, rfl⟩
    rw [hb'] at v1
    have HE := Lib.hid (show b = b' ∧ (k == 2) = B2 ∧ (k == 3) = B3 ∧ (k == 4) = B4 ∧ (k == 6) = B6 ∧ (n == 0) = N0 ∧ ((nk : Int) == 0) = K0 ∧ ((nv : Int) == 0) = V0 ∧ ((nk : Int) != (nv : Int)) = KV from ⟨hb', e2, e3, e4, e6, en, ek, ev, ekv⟩)
    clear hb'
    go_cut [3] (fun s wx => ∃ pl : Bool, s = .bool pl ∧ Hid (pl = true ↔ 1 ≤ k ∧ k ≤ 6) ∧ wx = w1)
    case first =>
      go_wp2
      all_goals
        go_meet
        refine ⟨_, rfl, Lib.hid ?_, rfl⟩
        clear v0 v1 v2 v3 v4 v5 e2 e3 e4 e6 en ek ev ekv
        simp_all <;> omega
    case rest =>
      obtain ⟨pl, rfl, Hpl, rfl⟩ := hcut
      go_upto_region 2 with fail
      go_cut [4] (fun s wx => ∃ fn : Bool, s = .bool fn ∧ Hid (fn = ((!b' || B2) && (N0 || B3) && (t.toList.isEmpty || B4))) ∧ wx = wc)
      case first =>
        go_wp2
        all_goals
          go_meet
          refine ⟨_, rfl, Lib.hid ?_, rfl⟩
          clear v0 v1 v2 v3 v4 v5 e2 e3 e4 e6 en ek ev ekv
          simp [*]
      case rest =>
        obtain ⟨fn, rfl, Hfn, rfl⟩ := hcut
        go_upto_region 3 with fail
        go_cut [5] (fun s wx => ∃ li : Bool, s = .bool li ∧ Hid (li = ((K0 || B6) && (V0 || decide (5 ≤ k)))) ∧ wx = wc)
        case first =>
          go_wp2
          all_goals
            go_meet
            refine ⟨_, rfl, Lib.hid ?_, rfl⟩
            clear v0 v1 v2 v3 v4 v5 e2 e3 e4 e6 en ek ev ekv
            simp [*]
        case rest =>
          obtain ⟨li, rfl, Hli, rfl⟩ := hcut
          cases pl
          · go_wp2
            go_ret
            refine ⟨?_, HK1.out⟩
            have hz : fineJ k b n t ks nv = false := by
              rw [fine_eq, show decide (1 ≤ k ∧ k ≤ 6) = false from decide_eq_false (fun h => by cases Hpl.out.2 h)]
              simp only [Bool.false_and]
            rw [hz]
            rfl
          cases fn
          · go_wp2
            go_ret
            refine ⟨?_, HK1.out⟩
            have HE' := HE.out
            have hf := Hfn.out
            have hz : fineJ k b n t ks nv = false := by
              rw [fine_eq, HE'.1, HE'.2.1, HE'.2.2.1, HE'.2.2.2.1, HE'.2.2.2.2.2.1, ← hf]
              simp only [Bool.false_and, Bool.and_false]
            rw [hz]
            rfl
          cases li
          · go_wp2
            go_ret
            refine ⟨?_, HK1.out⟩
            have HE' := HE.out
            have hf := Hli.out
            have hz : fineJ k b n t ks nv = false := by
              rw [fine_eq, Hnk.out, HE'.2.2.2.2.1, HE'.2.2.2.2.2.2.1, HE'.2.2.2.2.2.2.2.1, ← hf]
              simp only [Bool.false_and, Bool.and_false]
            rw [hz]
            rfl
          go_upto_region 4 with fail
          go_cut [98] (fun s wx => ∃ no : Bool, s = .bool no ∧ Hid (no = !(decide (-9007199254740991 ≤ n ∧ n ≤ 9007199254740991) && (!B6 || !KV))) ∧ wx = wc)
          case first =>
            go_wp2
            all_goals
              go_meet
              refine ⟨_, rfl, Lib.hid ?_, rfl⟩
              clear v0 v1 v2 v3 v4 v5 e2 e3 e4 e6 en ek ev ekv
              first
              | (simp [*]; done)
              | (simp [*]; omega)
          case rest =>
            obtain ⟨no, rfl, Hno, rfl⟩ := hcut
            have hfe : fineJ k b n t ks nv = ((!no) && decide ks.Nodup) := by
              have HE' := HE.out
              have hf := Hno.out
              rw [fine_eq, Hnk.out, HE'.1, HE'.2.1, HE'.2.2.1, HE'.2.2.2.1, HE'.2.2.2.2.1, HE'.2.2.2.2.2.1, HE'.2.2.2.2.2.2.1, HE'.2.2.2.2.2.2.2.1, HE'.2.2.2.2.2.2.2.2, ← Hfn.out, ← Hli.out, hf, decide_eq_true (Hpl.out.1 rfl), Bool.not_not]
              simp only [Bool.true_and]
            have Hfe := Lib.hid hfe
            clear e2 e3 e4 e6 en ek ev ekv hfe
            cases no
            case true =>
              go_wp2
              go_ret
              refine ⟨?_, HK1.out⟩
              rw [Hfe.out]
              rfl
            have hgl := blk_lt Hb1.out
            go_wp2_with (first
              | ((with_reducible refine at_dst (N := 99) rfl ?_); go_must (refine ev_makeMap rfl rfl ?_; intro gm wm hgm hlm hbm hkm); have Hbm := Lib.hid hbm; have HKm := Lib.hid (HK1.out.trans hkm (fun _ _ h => h)); have Hb2 := Lib.hid (hkm.blk Hb1.out id); have q4 := (blk_cell Hb2.out 4).trans rfl; clear hbm hkm; (try simp only [PU]))
            )
            go_loopw [8, 103] (fun nv iv wr => ∃ (i : Nat) (es : Array MapEntry) (c' : Nat), iv = .int .i64 i ∧ i ≤ nk ∧ Hid (wr.heap[gm]? = some (.map es c') ∧ StrSet es.toList (ks.take i)) ∧ Hid (Keeps (· = gm) wm wr) ∧ Hid ((ks.take i).Nodup)) (fun _ iv _ => nk - (intOf iv).toNat)
            case atStart => exact ⟨0, _, _, rfl, Nat.zero_le _, Lib.hid ⟨Hbm.out, StrSet.nil⟩, Lib.hid (Keeps.refl _ _), Lib.hid (by simp)⟩
            case round =>
              obtain ⟨i, es, c', rfl, hi, Hm, HKr, Hnd⟩ := hrel
              by_cases hlt : i < nk
              · obtain ⟨kb, ko, rfl, -, hkey⟩ := Hkx.out i (by rw [Hnk.out]; exact hlt)
                have hltk : kb < w.heap.size := World.block_lt_of_cell? _ _ hkey
                have e0 := HKr.out.cell (HKm.out.cell (HW.out.cell hkey id) id) (by have := HW.out.size; have := HK1.out.size; show ¬ kb = gm; omega)
                obtain ⟨key, hkk⟩ : ∃ x, ks.getD i ByteArray.empty = x := ⟨_, rfl⟩
                rw [hkk] at e0
                have Hkk := Lib.hid hkk
                obtain ⟨hk, hhk⟩ : ∃ x, hasKey (ks.take i) key = x := ⟨_, rfl⟩
                have Hhk := Lib.hid hhk
                clear hkey hkk hhk
                cases hk
                · go_wp2_with (first
                    | ((with_reducible refine at_dst (N := 109) rfl ?_); go_must (refine ev_lookup_set (q := key) rfl rfl Tryd.underlying98 Tryd.underlying9 zero98 rfl rfl Hm.out.1 Hm.out.2 ?_; rw [Hhk.out]); (try simp only [PU]))
                    | (refine at_update rfl ?_; go_must (refine ev_mapUpdate_set (q := key) rfl rfl rfl Tryd.underlying98 Tryd.underlying9 rfl rfl rfl Hm.out.1 Hm.out.2 Hhk.out ?_; intro es5 c5 w5 hb5 hs5 hk5); have Hb5 := Lib.hid (And.intro hb5 hs5); have HK5 := Lib.hid hk5; clear hb5 hs5 hk5; (try simp only [PU]))
                  )
                  go_roundw
                  case rel =>
                    have htk : ks.take (i + 1) = ks.take i ++ [key] := by
                      have hi' : i < ks.length := by rw [Hnk.out]; exact hlt
                      rw [List.take_succ_eq_append_getElem hi', ← Hkk.out, List.getD_eq_getElem?_getD, List.getElem?_eq_getElem hi']; rfl
                    refine ⟨i + 1, es5, c5, by go_num, by omega, Lib.hid ⟨Hb5.out.1, by rw [htk]; exact Hb5.out.2⟩, Lib.hid (HKr.out.trans HK5.out (fun _ _ h => h)), Lib.hid ((nodup_step (by rw [Hnk.out]; exact hlt)).2 ⟨Hnd.out, by rw [Hkk.out]; exact Hhk.out⟩)⟩
                  case measure => simp [intOf]; omega
                · go_wp2_with (first
                    | ((with_reducible refine at_dst (N := 109) rfl ?_); go_must (refine ev_lookup_set (q := key) rfl rfl Tryd.underlying98 Tryd.underlying9 zero98 rfl rfl Hm.out.1 Hm.out.2 ?_; rw [Hhk.out]); (try simp only [PU]))
                  )
                  go_ret
                  refine ⟨?_, HKm.out.trans (M' := (· = gm)) HKr.out (fun q hq e => by have := HK1.out.size; omega)⟩
                  have hnd : ¬ ks.Nodup := fun h => by
                    have h2 := ((nodup_step (ks := ks) (i := i) (by rw [Hnk.out]; exact hlt)).1 (nodup_all ks h _)).2
                    rw [Hkk.out, Hhk.out] at h2
                    cases h2
                  rw [Hfe.out, decide_eq_false hnd]
                  rfl
              · have hi' : i = nk := by omega
                subst hi'
                have htl := List.take_length (l := ks)
                rw [Hnk.out] at htl
                have hnd : ks.Nodup := by have := Hnd.out; rw [htl] at this; exact this
                have Hfe2 := Lib.hid (Hfe.out.trans (by rw [decide_eq_true hnd]; rfl : _ = true))
                clear htl hnd
                have q5 := (blk_cell (HKr.out.blk Hb2.out (by show ¬ _ = gm; omega)) 5).trans rfl
                have HKz := Lib.hid (show Keeps Nob W wr from HKm.out.trans HKr.out (fun q hq e => by have := HK1.out.size; omega))
                go_wp2_with (first
                  | (go_at_call 62; go_must (refine (Hrunc.out wr (HW.out.trans HKz.out (fun _ _ h => h))).mono ?_; rintro e w4 ⟨rfl, hk4⟩); have HK4 := Lib.hid (HKz.out.trans hk4 (fun _ _ h => h)); clear hk4; (try simp only [PU]))
                )
                go_ret
                refine ⟨?_, HK4.out⟩
                rw [Hfe2.out]
                simp
end Go.Proofs.WV

/-
  Write and Check, by the program, in memory. Condition: the value lies, and is not too large to count.
-/
namespace Go.Proofs.WV
open Go.RowKit Go.Proofs.KL Go.Proofs.WM
set_option maxRecDepth 100000
set_option linter.unusedSimpArgs false
set_option linter.unusedVariables false

theorem text_ne (j : J) : textJ j ≠ [] := by
  obtain ⟨k, b, n, t, ks, vs⟩ := j
  unfold textJ
  split
  · simp
  split
  · split <;> simp
  split
  · obtain ⟨c, q, e, _⟩ := itoa_head (n := n); rw [e]; simp
  split
  · simp [quoteB]
  split <;> simp
/-- What Write answers. -/
def writeJ (j : J) : Bs × Int := if formedJ j = false then ([], 4) else if 40 < levelsJ j ∨ 1000000 < (textJ j).length then ([], 3) else (textJ j, 0)
theorem writeJ_check (j : J) : (writeJ j).2 = checkJ j := by
  unfold writeJ checkJ
  split
  · rfl
  split <;> rfl
theorem Tab.up {W : World} {a b : Nat} (h : Tab W a) (hb : a ≤ b) : Tab W b := by
  obtain ⟨g, h1, h2, h3⟩ := h
  exact ⟨g, h1, by omega, h3⟩
theorem JX.low {W : World} {X : Nat → Prop} {v : Value} {j : J} (h : JX W X v j) : JX W (fun b => b < W.heap.size) v j := h.keep (Keeps.refl Nob W) (fun _ _ _ => id) (fun _ hb _ => hb)
def RetStrInt (t : Bs) (n : Int) (W : World) (e : Ending) (w' : World) : Prop := e = .returned (.tuple #[.string (mkB t), .int .i64 n]) ∧ Keeps Nob W w'
set_option maxHeartbeats 4000000 in
/-- Write. -/
theorem write15 {W : World} {X : Nat → Prop} {v : Value} {j : J} (h : JX W X v j) (ht : Tab W W.heap.size) (hs : sizeJ j ≤ 10000000000) : Calls Tryd.prog 15 #[v] W (RetStrInt (writeJ j).1 (writeJ j).2 W) := by
  obtain ⟨k, b, n, t, ks, vs, kv, vv, hj, rfl, hkv, hvv⟩ := h.open
  obtain ⟨kA, kc, rfl, -, -⟩ := id hkv
  obtain ⟨vA, vc, u, rfl, -, -, -⟩ := id hvv
  have H37 := Lib.hid (fun W' hk => formed37 h W' hk (by omega))
  have H38 := Lib.hid (fun W' hk => levels38 h W' hk (by omega))
  have H39 := Lib.hid (fun W' (hk : Keeps Nob W W') (g : Nat) hb hg (hf : formedJ j = true) (hl : ([] : Bs).length + (textJ j).length ≤ 1000000000000) => value39 h.low W' g W.heap.size (.slice none 0 0) [] hk.any (fun _ hb => hb) (ht.keep hk.any) hb hg hk.size hf hl)
  have Hlen := Lib.hid (fun (hf : formedJ j = true) => text_size j hf)
  have Hs := Lib.hid hs
  have Hne := Lib.hid (text_ne j)
  have hlv : levelsJ j ≤ 10000000000 := Nat.le_trans (levels_size j) hs
  obtain ⟨R, hR⟩ : ∃ x, writeJ j = x := ⟨_, rfl⟩
  rw [hR]
  have HR := Lib.hid hR
  obtain ⟨fm, hfm⟩ : ∃ x, formedJ j = x := ⟨_, rfl⟩
  rw [hfm] at H37 H39 Hlen
  have Hfm := Lib.hid hfm
  obtain ⟨lv, hlve⟩ : ∃ x, levelsJ j = x := ⟨_, rfl⟩
  rw [hlve] at H38 hlv
  have Hlv := Lib.hid hlve
  generalize ks.length = nk at *
  generalize vs.length = nv at *
  clear h hkv hvv ht hs hR hfm hlve hj
  cases fm
  · go_enter Tryd.func15, Tryd.ntmps15
    go_wp2_with (first
      | ((with_reducible refine at_dst (N := 1) rfl ?_); go_must (refine ev_box (cs := #[.int .i64 k, .bool b, .int .i64 n, .string t, .slice kA nk kc, .slice vA nv vc]) rfl rfl rfl ?_; intro g1 w1 hg1 hl1 hb1 hk1)
         have v0 := (blk_cell hb1 0).trans rfl
         have v1 := (blk_cell hb1 1).trans rfl
         have v2 := (blk_cell hb1 2).trans rfl
         have v3 := (blk_cell hb1 3).trans rfl
         have v4 := (blk_cell hb1 4).trans rfl
         have v5 := (blk_cell hb1 5).trans rfl
         have HK1 := Lib.hid hk1
         clear hb1 hk1
         (try simp only [PU]))
      | (go_at_call 37; go_must (refine (H37.out w1 HK1.out).mono ?_; rintro e w2 ⟨rfl, hk2⟩); have HK2 := Lib.hid (HK1.out.trans hk2 (fun _ _ h => h)); clear hk2; (try simp only [PU]))
    )
    go_ret2
    refine ⟨?_, HK2.out⟩
    rw [← HR.out]
    unfold writeJ
    rw [if_pos Hfm.out]
    rfl
  · by_cases hdeep : 40 < lv
    · go_enter Tryd.func15, Tryd.ntmps15
      go_wp2_with (first
        | ((with_reducible refine at_dst (N := 1) rfl ?_); go_must (refine ev_box (cs := #[.int .i64 k, .bool b, .int .i64 n, .string t, .slice kA nk kc, .slice vA nv vc]) rfl rfl rfl ?_; intro g1 w1 hg1 hl1 hb1 hk1)
           have v0 := (blk_cell hb1 0).trans rfl
           have v1 := (blk_cell hb1 1).trans rfl
           have v2 := (blk_cell hb1 2).trans rfl
           have v3 := (blk_cell hb1 3).trans rfl
           have v4 := (blk_cell hb1 4).trans rfl
           have v5 := (blk_cell hb1 5).trans rfl
           have HK1 := Lib.hid hk1
           have Hb1 := Lib.hid hb1
           clear hb1 hk1
           (try simp only [PU]))
        | (go_at_call 37; go_must (refine (H37.out w1 HK1.out).mono ?_; rintro e w2 ⟨rfl, hk2⟩)
           clear v0 v1 v2 v3 v4 v5
           have hb2 := hk2.blk Hb1.out id
           have v0 := (blk_cell hb2 0).trans rfl
           have v1 := (blk_cell hb2 1).trans rfl
           have v2 := (blk_cell hb2 2).trans rfl
           have v3 := (blk_cell hb2 3).trans rfl
           have v4 := (blk_cell hb2 4).trans rfl
           have v5 := (blk_cell hb2 5).trans rfl
           have HK2 := Lib.hid (HK1.out.trans hk2 (fun _ _ h => h))
           have Hb2 := Lib.hid hb2
           clear hk2 hb2
           (try simp only [PU]))
        | (go_at_call 38; go_must (refine (H38.out w2 HK2.out).mono ?_; rintro e w3 ⟨rfl, hk3⟩)
           clear v0 v1 v2 v3 v4 v5
           have HK3 := Lib.hid (HK2.out.trans hk3 (fun _ _ h => h))
           have Hb3 := Lib.hid (hk3.blk Hb2.out id)
           clear hk3
           (try simp only [PU]))
        | ((with_reducible refine at_dst (N := 14) rfl ?_); go_must (refine ev_box (cs := #[.pointer none, .slice none 0 0]) rfl rfl rfl ?_; intro g4 w4 hg4 hl4 hb4 hk4)
           have hb5 := hk4.blk Hb3.out id
           have v0 := (blk_cell hb5 0).trans rfl
           have v1 := (blk_cell hb5 1).trans rfl
           have v2 := (blk_cell hb5 2).trans rfl
           have v3 := (blk_cell hb5 3).trans rfl
           have v4 := (blk_cell hb5 4).trans rfl
           have v5 := (blk_cell hb5 5).trans rfl
           have HK4 := Lib.hid (HK3.out.trans hk4 (fun _ _ h => h))
           have Hb4 := Lib.hid (show Bld w4 g4 W.heap.size (.slice none 0 0) [] from ⟨⟨_, hb4, .inl rfl⟩, .inl ⟨rfl, rfl⟩⟩)
           have Hg4 := Lib.hid (show W.heap.size ≤ g4 by have := HK3.out.size; omega)
           clear hk4 hb4 hb5
           (try simp only [PU]))
        | (go_at_call 39; go_must (refine (H39.out w4 HK4.out g4 Hb4.out Hg4.out rfl (by have := Hlen.out rfl; have := Hs.out; simp only [List.length_nil]; omega)).mono ?_; rintro e w5 ⟨x5, v9, rfl, hb5, hw5⟩)
           rw [List.nil_append] at hb5
           have HB5 := Lib.hid hb5
           have HK5 := Lib.hid (show Keeps Nob W w5 from HK4.out.trans hw5.keep (fun q hq e => e.elim (fun e => by have := Hg4.out; omega) (fun e => by cases e)))
           clear v0 v1 v2 v3 v4 v5
           clear hb5 hw5
           (try simp only [PU]))
        | (go_at_call 40; go_must (refine (bldLen HB5.out).mono ?_; rintro e w6 ⟨rfl, rfl⟩); rw [Htl.out]; (try simp only [PU]))
        | (go_at_call 41; go_must (refine (bldString HB5.out Hne.out).mono ?_; rintro e w6 ⟨rfl, hk6⟩); have HK6 := Lib.hid (show Keeps Nob W w6 from HK5.out.trans hk6 (fun q hq e => by have := (HB5.out.own.lt q e.symm).1; omega)); clear hk6; (try simp only [PU]))
      )
      go_ret2
      refine ⟨?_, HK3.out⟩
      rw [← HR.out]
      unfold writeJ
      rw [if_neg (by rw [Hfm.out]; decide), if_pos (.inl (by rw [Hlv.out]; exact hdeep))]
      rfl
    · by_cases hlong : 1000000 < (textJ j).length
      · obtain ⟨tl, htl⟩ : ∃ x, (textJ j).length = x := ⟨_, rfl⟩
        have Htl := Lib.hid htl
        rw [htl] at hlong
        clear htl
        go_enter Tryd.func15, Tryd.ntmps15
        go_wp2_with (first
          | ((with_reducible refine at_dst (N := 1) rfl ?_); go_must (refine ev_box (cs := #[.int .i64 k, .bool b, .int .i64 n, .string t, .slice kA nk kc, .slice vA nv vc]) rfl rfl rfl ?_; intro g1 w1 hg1 hl1 hb1 hk1)
             have v0 := (blk_cell hb1 0).trans rfl
             have v1 := (blk_cell hb1 1).trans rfl
             have v2 := (blk_cell hb1 2).trans rfl
             have v3 := (blk_cell hb1 3).trans rfl
             have v4 := (blk_cell hb1 4).trans rfl
             have v5 := (blk_cell hb1 5).trans rfl
             have HK1 := Lib.hid hk1
             have Hb1 := Lib.hid hb1
             clear hb1 hk1
             (try simp only [PU]))
          | (go_at_call 37; go_must (refine (H37.out w1 HK1.out).mono ?_; rintro e w2 ⟨rfl, hk2⟩)
             clear v0 v1 v2 v3 v4 v5
             have hb2 := hk2.blk Hb1.out id
             have v0 := (blk_cell hb2 0).trans rfl
             have v1 := (blk_cell hb2 1).trans rfl
             have v2 := (blk_cell hb2 2).trans rfl
             have v3 := (blk_cell hb2 3).trans rfl
             have v4 := (blk_cell hb2 4).trans rfl
             have v5 := (blk_cell hb2 5).trans rfl
             have HK2 := Lib.hid (HK1.out.trans hk2 (fun _ _ h => h))
             have Hb2 := Lib.hid hb2
             clear hk2 hb2
             (try simp only [PU]))
          | (go_at_call 38; go_must (refine (H38.out w2 HK2.out).mono ?_; rintro e w3 ⟨rfl, hk3⟩)
             clear v0 v1 v2 v3 v4 v5
             have HK3 := Lib.hid (HK2.out.trans hk3 (fun _ _ h => h))
             have Hb3 := Lib.hid (hk3.blk Hb2.out id)
             clear hk3
             (try simp only [PU]))
          | ((with_reducible refine at_dst (N := 14) rfl ?_); go_must (refine ev_box (cs := #[.pointer none, .slice none 0 0]) rfl rfl rfl ?_; intro g4 w4 hg4 hl4 hb4 hk4)
             have hb5 := hk4.blk Hb3.out id
             have v0 := (blk_cell hb5 0).trans rfl
             have v1 := (blk_cell hb5 1).trans rfl
             have v2 := (blk_cell hb5 2).trans rfl
             have v3 := (blk_cell hb5 3).trans rfl
             have v4 := (blk_cell hb5 4).trans rfl
             have v5 := (blk_cell hb5 5).trans rfl
             have HK4 := Lib.hid (HK3.out.trans hk4 (fun _ _ h => h))
             have Hb4 := Lib.hid (show Bld w4 g4 W.heap.size (.slice none 0 0) [] from ⟨⟨_, hb4, .inl rfl⟩, .inl ⟨rfl, rfl⟩⟩)
             have Hg4 := Lib.hid (show W.heap.size ≤ g4 by have := HK3.out.size; omega)
             clear hk4 hb4 hb5
             (try simp only [PU]))
          | (go_at_call 39; go_must (refine (H39.out w4 HK4.out g4 Hb4.out Hg4.out rfl (by have := Hlen.out rfl; have := Hs.out; simp only [List.length_nil]; omega)).mono ?_; rintro e w5 ⟨x5, v9, rfl, hb5, hw5⟩)
             rw [List.nil_append] at hb5
             have HB5 := Lib.hid hb5
             have HK5 := Lib.hid (show Keeps Nob W w5 from HK4.out.trans hw5.keep (fun q hq e => e.elim (fun e => by have := Hg4.out; omega) (fun e => by cases e)))
             clear v0 v1 v2 v3 v4 v5
             clear hb5 hw5
             (try simp only [PU]))
          | (go_at_call 40; go_must (refine (bldLen HB5.out).mono ?_; rintro e w6 ⟨rfl, rfl⟩); rw [Htl.out]; (try simp only [PU]))
          | (go_at_call 41; go_must (refine (bldString HB5.out Hne.out).mono ?_; rintro e w6 ⟨rfl, hk6⟩); have HK6 := Lib.hid (show Keeps Nob W w6 from HK5.out.trans hk6 (fun q hq e => by have := (HB5.out.own.lt q e.symm).1; omega)); clear hk6; (try simp only [PU]))
        )
        go_ret2
        refine ⟨?_, HK5.out⟩
        rw [← HR.out]
        unfold writeJ
        rw [if_neg (by rw [Hfm.out]; decide), if_pos (.inr (by rw [Htl.out]; exact hlong))]
        rfl
      · obtain ⟨tl, htl⟩ : ∃ x, (textJ j).length = x := ⟨_, rfl⟩
        have Htl := Lib.hid htl
        rw [htl] at hlong
        clear htl
        go_enter Tryd.func15, Tryd.ntmps15
        go_wp2_with (first
          | ((with_reducible refine at_dst (N := 1) rfl ?_); go_must (refine ev_box (cs := #[.int .i64 k, .bool b, .int .i64 n, .string t, .slice kA nk kc, .slice vA nv vc]) rfl rfl rfl ?_; intro g1 w1 hg1 hl1 hb1 hk1)
             have v0 := (blk_cell hb1 0).trans rfl
             have v1 := (blk_cell hb1 1).trans rfl
             have v2 := (blk_cell hb1 2).trans rfl
             have v3 := (blk_cell hb1 3).trans rfl
             have v4 := (blk_cell hb1 4).trans rfl
             have v5 := (blk_cell hb1 5).trans rfl
             have HK1 := Lib.hid hk1
             have Hb1 := Lib.hid hb1
             clear hb1 hk1
             (try simp only [PU]))
          | (go_at_call 37; go_must (refine (H37.out w1 HK1.out).mono ?_; rintro e w2 ⟨rfl, hk2⟩)
             clear v0 v1 v2 v3 v4 v5
             have hb2 := hk2.blk Hb1.out id
             have v0 := (blk_cell hb2 0).trans rfl
             have v1 := (blk_cell hb2 1).trans rfl
             have v2 := (blk_cell hb2 2).trans rfl
             have v3 := (blk_cell hb2 3).trans rfl
             have v4 := (blk_cell hb2 4).trans rfl
             have v5 := (blk_cell hb2 5).trans rfl
             have HK2 := Lib.hid (HK1.out.trans hk2 (fun _ _ h => h))
             have Hb2 := Lib.hid hb2
             clear hk2 hb2
             (try simp only [PU]))
          | (go_at_call 38; go_must (refine (H38.out w2 HK2.out).mono ?_; rintro e w3 ⟨rfl, hk3⟩)
             clear v0 v1 v2 v3 v4 v5
             have HK3 := Lib.hid (HK2.out.trans hk3 (fun _ _ h => h))
             have Hb3 := Lib.hid (hk3.blk Hb2.out id)
             clear hk3
             (try simp only [PU]))
          | ((with_reducible refine at_dst (N := 14) rfl ?_); go_must (refine ev_box (cs := #[.pointer none, .slice none 0 0]) rfl rfl rfl ?_; intro g4 w4 hg4 hl4 hb4 hk4)
             have hb5 := hk4.blk Hb3.out id
             have v0 := (blk_cell hb5 0).trans rfl
             have v1 := (blk_cell hb5 1).trans rfl
             have v2 := (blk_cell hb5 2).trans rfl
             have v3 := (blk_cell hb5 3).trans rfl
             have v4 := (blk_cell hb5 4).trans rfl
             have v5 := (blk_cell hb5 5).trans rfl
             have HK4 := Lib.hid (HK3.out.trans hk4 (fun _ _ h => h))
             have Hb4 := Lib.hid (show Bld w4 g4 W.heap.size (.slice none 0 0) [] from ⟨⟨_, hb4, .inl rfl⟩, .inl ⟨rfl, rfl⟩⟩)
             have Hg4 := Lib.hid (show W.heap.size ≤ g4 by have := HK3.out.size; omega)
             clear hk4 hb4 hb5
             (try simp only [PU]))
          | (go_at_call 39; go_must (refine (H39.out w4 HK4.out g4 Hb4.out Hg4.out rfl (by have := Hlen.out rfl; have := Hs.out; simp only [List.length_nil]; omega)).mono ?_; rintro e w5 ⟨x5, v9, rfl, hb5, hw5⟩)
             rw [List.nil_append] at hb5
             have HB5 := Lib.hid hb5
             have HK5 := Lib.hid (show Keeps Nob W w5 from HK4.out.trans hw5.keep (fun q hq e => e.elim (fun e => by have := Hg4.out; omega) (fun e => by cases e)))
             clear v0 v1 v2 v3 v4 v5
             clear hb5 hw5
             (try simp only [PU]))
          | (go_at_call 40; go_must (refine (bldLen HB5.out).mono ?_; rintro e w6 ⟨rfl, rfl⟩); rw [Htl.out]; (try simp only [PU]))
          | (go_at_call 41; go_must (refine (bldString HB5.out Hne.out).mono ?_; rintro e w6 ⟨rfl, hk6⟩); have HK6 := Lib.hid (show Keeps Nob W w6 from HK5.out.trans hk6 (fun q hq e => by have := (HB5.out.own.lt q e.symm).1; omega)); clear hk6; (try simp only [PU]))
        )
        go_ret2
        refine ⟨?_, HK6.out⟩
        rw [← HR.out]
        unfold writeJ
        rw [if_neg (by rw [Hfm.out]; decide), if_neg (by rw [Hlv.out, Htl.out]; omega)]
        rfl
set_option maxHeartbeats 1000000 in
/-- Check. -/
theorem check16 {W : World} {X : Nat → Prop} {v : Value} {j : J} (h : JX W X v j) (ht : Tab W W.heap.size) (hs : sizeJ j ≤ 10000000000) : Calls Tryd.prog 16 #[v] W fun e w' => e = .returned (.int .i64 (checkJ j)) ∧ Keeps Nob W w' := by
  obtain ⟨k, b, n, t, ks, vs, kv, vv, hj, rfl, hkv, hvv⟩ := h.open
  obtain ⟨kA, kc, rfl, -, -⟩ := id hkv
  obtain ⟨vA, vc, u, rfl, -, -, -⟩ := id hvv
  have H15 := Lib.hid (fun W' (hk : Keeps Nob W W') => write15 (h.after hk) (Tab.up (ht.keep hk.any) hk.size) hs)
  rw [← writeJ_check]
  generalize writeJ j = R at *
  obtain ⟨R1, R2⟩ := R
  generalize ks.length = nk at *
  generalize vs.length = nv at *
  clear h hkv hvv ht hs hj
  go_enter Tryd.func16, Tryd.ntmps16
  go_wp2_with (first
    | ((with_reducible refine at_dst (N := 1) rfl ?_); go_must (refine ev_box (cs := #[.int .i64 k, .bool b, .int .i64 n, .string t, .slice kA nk kc, .slice vA nv vc]) rfl rfl rfl ?_; intro g1 w1 hg1 hl1 hb1 hk1)
       have v0 := (blk_cell hb1 0).trans rfl
       have v1 := (blk_cell hb1 1).trans rfl
       have v2 := (blk_cell hb1 2).trans rfl
       have v3 := (blk_cell hb1 3).trans rfl
       have v4 := (blk_cell hb1 4).trans rfl
       have v5 := (blk_cell hb1 5).trans rfl
       have HK1 := Lib.hid hk1
       clear hb1 hk1
       (try simp only [PU]))
    | (go_at_call 15; go_must (refine (H15.out w1 HK1.out).mono ?_; rintro e w2 ⟨rfl, hk2⟩); have HK2 := Lib.hid (HK1.out.trans hk2 (fun _ _ h => h)); clear hk2; (try simp only [PU]))
  )
  go_ret
  exact ⟨rfl, HK2.out⟩
end Go.Proofs.WV

/-
  Whether two values are the same, by the program (Same) and by the specification, in memory. Condition: both lie, and are not larger than an int counts.
-/
namespace Go.Proofs.WV
open Go.RowKit Go.Proofs.KL Go.Proofs.WM
set_option maxRecDepth 100000
set_option linter.unusedSimpArgs false
set_option linter.unusedVariables false

theorem equal54 {W : World} {X Y : Nat → Prop} {v v' : Value} {ks ks' : List ByteArray} (h : StrsX W X v ks) (h' : StrsX W Y v' ks') (hl : ks.length ≤ 1000000000000) (hl' : ks'.length ≤ 1000000000000) :
    Calls Tryd.prog 54 #[v, v'] W fun e w' => e = .returned (.bool (decide (ks = ks'))) ∧ Keeps Nob W w' := by
  obtain ⟨A, c, rfl, hc, hx⟩ := h
  obtain ⟨A', c', rfl, hc', hx'⟩ := h'
  by_cases hn : ks.length = ks'.length
  · by_cases h0 : ks.length = 0
    · have e1 : ks = [] := List.length_eq_zero_iff.1 h0
      have e2 : ks' = [] := List.length_eq_zero_iff.1 (by omega)
      subst e1 e2
      refine (Tryd.slices_Equal_string_empty A A' c 0 c' W (by omega)).mono ?_
      rintro e w' ⟨rfl, rfl⟩
      exact ⟨rfl, Keeps.refl _ _⟩
    · obtain ⟨b, o, rfl, -, -⟩ := hx 0 (by omega)
      obtain ⟨b', o', rfl, -, -⟩ := hx' 0 (by omega)
      have g1 : ∀ j, j < ks.length → W.cell? ⟨b, o + j, none⟩ = some (.string (ks.getD j ByteArray.empty)) := fun j hj => by
        obtain ⟨b2, o2, e, -, hcell⟩ := hx j hj
        injection e with e; injection e with e1 e2; subst e1 e2; exact hcell
      have g2 : ∀ j, j < ks'.length → W.cell? ⟨b', o' + j, none⟩ = some (.string (ks'.getD j ByteArray.empty)) := fun j hj => by
        obtain ⟨b2, o2, e, -, hcell⟩ := hx' j hj
        injection e with e; injection e with e1 e2; subst e1 e2; exact hcell
      refine (Tryd.slices_Equal_string b o ks.length c b' o' ks'.length c' ks ks' W (Nat.le_refl _) (Nat.le_refl _) (by omega) (by omega) g1 g2).mono ?_
      rintro e w' ⟨rfl, q, rfl⟩
      rw [List.take_length, List.take_length]
      exact ⟨rfl, Keeps.drewN (Keeps.refl _ _) q⟩
  · refine (Tryd.slices_Equal_string_lens A A' ks.length c ks'.length c' W hn).mono ?_
    rintro e w' ⟨rfl, rfl⟩
    rw [decide_eq_false (fun e : ks = ks' => hn (by rw [e]))]
    exact ⟨rfl, Keeps.refl _ _⟩
theorem sameL_len : ∀ (a b : List J), a.length ≠ b.length → sameL a b = false
  | [], [], h => absurd rfl h
  | [], _ :: _, _ => by unfold sameL; rfl
  | _ :: _, [], _ => by unfold sameL; rfl
  | v :: r, v' :: r', h => by unfold sameL; rw [sameL_len r r' (by simpa using h), Bool.and_false]
theorem sameL_get : ∀ (a b : List J), a.length = b.length → (sameL a b = true ↔ ∀ i, i < a.length → sameJ (a.getD i default) (b.getD i default) = true)
  | [], [], _ => by unfold sameL; simp
  | v :: r, v' :: r', h => by
    unfold sameL
    rw [Bool.and_eq_true, sameL_get r r' (by simpa using h)]
    constructor
    · rintro ⟨h1, h2⟩ i hi
      cases i with
      | zero => simpa using h1
      | succ i => simp only [List.getD_cons_succ]; exact h2 i (by simpa using hi)
    · intro h3
      exact ⟨by simpa using h3 0 (by simp), fun i hi => by simpa using h3 (i + 1) (by simpa using hi)⟩
set_option maxHeartbeats 4000000 in
/-- EqualFunc, by Same. -/
theorem equal55 {w W : World} {X Y : Nat → Prop} {A A' : Option Addr} {c c' : Nat} {u u' : Nat → Nat → Value} {vs vs' : List J} (hw : Keeps Nob w W) (hl : vs.length ≤ 1000000000000) (hl' : vs'.length ≤ 1000000000000)
    (hA : ∀ i, i < vs.length → ∃ b o, A = some ⟨b, o, none⟩ ∧ X b ∧ Six w b (o + i * 6) (u i 0) (u i 1) (u i 2) (u i 3) (u i 4) (u i 5))
    (hv : ∀ i, i < vs.length → JX w X (.agg #[u i 0, u i 1, u i 2, u i 3, u i 4, u i 5]) (vs.getD i default))
    (hA' : ∀ i, i < vs'.length → ∃ b o, A' = some ⟨b, o, none⟩ ∧ Y b ∧ Six w b (o + i * 6) (u' i 0) (u' i 1) (u' i 2) (u' i 3) (u' i 4) (u' i 5))
    (hv' : ∀ i, i < vs'.length → JX w Y (.agg #[u' i 0, u' i 1, u' i 2, u' i 3, u' i 4, u' i 5]) (vs'.getD i default))
    (hp : ∀ i, i < vs.length → i < vs'.length → ∀ W', Keeps Nob w W' → Calls Tryd.prog 23 #[.agg #[u i 0, u i 1, u i 2, u i 3, u i 4, u i 5], .agg #[u' i 0, u' i 1, u' i 2, u' i 3, u' i 4, u' i 5]] W' fun e w' => e = .returned (.bool (sameJ (vs.getD i default) (vs'.getD i default))) ∧ Keeps Nob W' w') :
    Calls Tryd.prog 55 #[.slice A vs.length c, .slice A' vs'.length c', .func (.func 23) #[] #[]] W fun e w' => e = .returned (.bool (sameL vs vs')) ∧ Keeps Nob W w' := by
  obtain ⟨i25, hi25, hs25⟩ := info25
  have HI := Lib.hid (And.intro hi25 hs25)
  have HA := Lib.hid hA
  have HV := Lib.hid hv
  have HA' := Lib.hid hA'
  have HV' := Lib.hid hv'
  have HP := Lib.hid hp
  have HW := Lib.hid hw
  clear hA hv hA' hv' hp hw hi25 hs25
  by_cases hn : vs.length = vs'.length
  · rw [← hn] at hl' ⊢
    obtain ⟨R, hR⟩ : ∃ x, sameL vs vs' = x := ⟨_, rfl⟩
    rw [hR]
    have HR := Lib.hid hR
    obtain ⟨len, hlen⟩ : ∃ x, vs.length = x := ⟨_, rfl⟩
    have Hlen := Lib.hid (And.intro hlen (show vs'.length = len by omega))
    rw [hlen] at hl ⊢
    clear hR hlen hn hl'
    go_enter Tryd.func55, Tryd.ntmps55
    go_wp2
    go_loopw [7, 8, 9, 17] (fun n1 n2 n3 iv wr => ∃ j : Nat, iv = .int .i64 j ∧ j ≤ len ∧ Hid (Keeps Nob W wr) ∧ Hid (∀ i, i < j → sameJ (vs.getD i default) (vs'.getD i default) = true)) (fun _ _ _ iv _ => len - (intOf iv).toNat)
    case atStart => exact ⟨0, rfl, Nat.zero_le _, Lib.hid (Keeps.refl _ _), Lib.hid (fun i h => absurd h (Nat.not_lt_zero _))⟩
    case round =>
      obtain ⟨j, rfl, hj, HKr, HF⟩ := hrel
      by_cases hlt : j < len
      · obtain ⟨b1, o1, rfl, -, h6⟩ := HA.out j (by rw [Hlen.out.1]; exact hlt)
        obtain ⟨b2, o2, rfl, -, h6'⟩ := HA'.out j (by rw [Hlen.out.2]; exact hlt)
        obtain ⟨⟨e0, e1, e2⟩, e3, e4, e5⟩ := h6.keep (HW.out.trans HKr.out (fun _ _ h => h)) id
        have H6' := Lib.hid (h6'.keep (HW.out.trans HKr.out (fun _ _ h => h)) id)
        have Hrun := Lib.hid (fun W' hk => HP.out j (by rw [Hlen.out.1]; exact hlt) (by rw [Hlen.out.2]; exact hlt) W' hk)
        have hsix := (HV.out j (by rw [Hlen.out.1]; exact hlt)).six
        have hsix' := (HV'.out j (by rw [Hlen.out.2]; exact hlt)).six
        generalize u j 0 = x0 at *
        generalize u j 1 = x1 at *
        generalize u j 2 = x2 at *
        generalize u j 3 = x3 at *
        generalize u j 4 = x4 at *
        generalize u j 5 = x5 at *
        generalize u' j 0 = x0' at *
        generalize u' j 1 = x1' at *
        generalize u' j 2 = x2' at *
        generalize u' j 3 = x3' at *
        generalize u' j 4 = x4' at *
        generalize u' j 5 = x5' at *
        obtain ⟨y0, y1, y2, y3, yA, yn, yc, yB, ym, yd, ⟨rfl, rfl, rfl⟩, rfl, rfl, rfl⟩ := hsix
        obtain ⟨z0, z1, z2, z3, zA, zn, zc, zB, zm, zd, ⟨rfl, rfl, rfl⟩, rfl, rfl, rfl⟩ := hsix'
        obtain ⟨fj, hfj⟩ : ∃ x, sameJ (vs.getD j default) (vs'.getD j default) = x := ⟨_, rfl⟩
        rw [hfj] at Hrun
        have Hfj := Lib.hid hfj
        clear h6 h6' hfj
        cases fj
        · skip
          go_wp2_with (first
            | ((with_reducible refine at_dst (N := 8) rfl ?_); go_must (refine ev_alloc rfl rfl zero25 rfl ?_; intro g5 w2 hg5 hl5 hb5 hk5)
               have Hb5 := Lib.hid hb5
               have HK2 := Lib.hid hk5
               clear hb5 hk5
               (try simp only [PU]))
            | ((with_reducible refine at_store (t := 25) (p := 8) rfl ?_); go_must (refine ev_store (cs' := #[.int .i64 y0, .bool y1, .int .i64 y2, .string y3, .slice yA yn yc, .slice yB ym yd]) rfl rfl rfl rfl rfl rfl HI.out.1 HI.out.2 rfl Hb5.out (Nat.le_of_ble_eq_true rfl) rfl ?_; intro w3 hb3 hk3)
               have HKa := Lib.hid (show Keeps Nob wr w3 from HK2.out.own hk3 hg5)
               have HK3 := Lib.hid (show Keeps Nob W w3 from HKr.out.trans HKa.out (fun _ _ h => h))
               have Hb3 := Lib.hid hb3
               clear e0 e1 e2 e3 e4 e5
               obtain ⟨⟨e0, e1, e2⟩, e3, e4, e5⟩ := H6'.out.keep HKa.out id
               clear hb3 hk3
               (try simp only [PU]))
            | ((with_reducible refine at_dst (N := 9) rfl ?_); go_must (refine ev_alloc rfl rfl zero25 rfl ?_; intro g6 w4 hg6 hl6 hb6 hk6)
               have Hb6 := Lib.hid hb6
               have HK4 := Lib.hid hk6
               clear hb6 hk6
               (try simp only [PU]))
            | ((with_reducible refine at_store (t := 25) (p := 9) rfl ?_); go_must (refine ev_store (cs' := #[.int .i64 z0, .bool z1, .int .i64 z2, .string z3, .slice zA zn zc, .slice zB zm zd]) rfl rfl rfl rfl rfl rfl HI.out.1 HI.out.2 rfl Hb6.out (Nat.le_of_ble_eq_true rfl) rfl ?_; intro w5 hb7 hk7)
               have HKb := Lib.hid (show Keeps Nob w3 w5 from HK4.out.own hk7 hg6)
               have HK5 := Lib.hid (show Keeps Nob W w5 from HK3.out.trans HKb.out (fun _ _ h => h))
               have hb8 := HKb.out.blk Hb3.out id
               have s0 := (blk_cell hb8 0).trans rfl
               have s1 := (blk_cell hb8 1).trans rfl
               have s2 := (blk_cell hb8 2).trans rfl
               have s3 := (blk_cell hb8 3).trans rfl
               have s4 := (blk_cell hb8 4).trans rfl
               have s5 := (blk_cell hb8 5).trans rfl
               have r0 := (blk_cell hb7 0).trans rfl
               have r1 := (blk_cell hb7 1).trans rfl
               have r2 := (blk_cell hb7 2).trans rfl
               have r3 := (blk_cell hb7 3).trans rfl
               have r4 := (blk_cell hb7 4).trans rfl
               have r5 := (blk_cell hb7 5).trans rfl
               clear hb7 hk7 hb8
               (try simp only [PU]))
            | (go_at_call 23; go_must (refine (Hrun.out w5 (HW.out.trans HK5.out (fun _ _ h => h))).mono ?_; rintro e w6 ⟨rfl, hk8⟩); have HK6 := Lib.hid (HK5.out.trans hk8 (fun _ _ h => h)); clear hk8; (try simp only [PU]))
          )
          go_ret
          refine ⟨?_, HK6.out⟩
          rcases hfl : sameL vs vs' with _ | _
          · rw [← HR.out, hfl]; rfl
          · have := (sameL_get vs vs' (by rw [Hlen.out.1, Hlen.out.2])).1 hfl j (by rw [Hlen.out.1]; exact hlt)
            rw [Hfj.out] at this
            cases this
        · skip
          go_wp2_with (first
            | ((with_reducible refine at_dst (N := 8) rfl ?_); go_must (refine ev_alloc rfl rfl zero25 rfl ?_; intro g5 w2 hg5 hl5 hb5 hk5)
               have Hb5 := Lib.hid hb5
               have HK2 := Lib.hid hk5
               clear hb5 hk5
               (try simp only [PU]))
            | ((with_reducible refine at_store (t := 25) (p := 8) rfl ?_); go_must (refine ev_store (cs' := #[.int .i64 y0, .bool y1, .int .i64 y2, .string y3, .slice yA yn yc, .slice yB ym yd]) rfl rfl rfl rfl rfl rfl HI.out.1 HI.out.2 rfl Hb5.out (Nat.le_of_ble_eq_true rfl) rfl ?_; intro w3 hb3 hk3)
               have HKa := Lib.hid (show Keeps Nob wr w3 from HK2.out.own hk3 hg5)
               have HK3 := Lib.hid (show Keeps Nob W w3 from HKr.out.trans HKa.out (fun _ _ h => h))
               have Hb3 := Lib.hid hb3
               clear e0 e1 e2 e3 e4 e5
               obtain ⟨⟨e0, e1, e2⟩, e3, e4, e5⟩ := H6'.out.keep HKa.out id
               clear hb3 hk3
               (try simp only [PU]))
            | ((with_reducible refine at_dst (N := 9) rfl ?_); go_must (refine ev_alloc rfl rfl zero25 rfl ?_; intro g6 w4 hg6 hl6 hb6 hk6)
               have Hb6 := Lib.hid hb6
               have HK4 := Lib.hid hk6
               clear hb6 hk6
               (try simp only [PU]))
            | ((with_reducible refine at_store (t := 25) (p := 9) rfl ?_); go_must (refine ev_store (cs' := #[.int .i64 z0, .bool z1, .int .i64 z2, .string z3, .slice zA zn zc, .slice zB zm zd]) rfl rfl rfl rfl rfl rfl HI.out.1 HI.out.2 rfl Hb6.out (Nat.le_of_ble_eq_true rfl) rfl ?_; intro w5 hb7 hk7)
               have HKb := Lib.hid (show Keeps Nob w3 w5 from HK4.out.own hk7 hg6)
               have HK5 := Lib.hid (show Keeps Nob W w5 from HK3.out.trans HKb.out (fun _ _ h => h))
               have hb8 := HKb.out.blk Hb3.out id
               have s0 := (blk_cell hb8 0).trans rfl
               have s1 := (blk_cell hb8 1).trans rfl
               have s2 := (blk_cell hb8 2).trans rfl
               have s3 := (blk_cell hb8 3).trans rfl
               have s4 := (blk_cell hb8 4).trans rfl
               have s5 := (blk_cell hb8 5).trans rfl
               have r0 := (blk_cell hb7 0).trans rfl
               have r1 := (blk_cell hb7 1).trans rfl
               have r2 := (blk_cell hb7 2).trans rfl
               have r3 := (blk_cell hb7 3).trans rfl
               have r4 := (blk_cell hb7 4).trans rfl
               have r5 := (blk_cell hb7 5).trans rfl
               clear hb7 hk7 hb8
               (try simp only [PU]))
            | (go_at_call 23; go_must (refine (Hrun.out w5 (HW.out.trans HK5.out (fun _ _ h => h))).mono ?_; rintro e w6 ⟨rfl, hk8⟩); have HK6 := Lib.hid (HK5.out.trans hk8 (fun _ _ h => h)); clear hk8; (try simp only [PU]))
          )
          go_roundw
          case rel =>
            refine ⟨j + 1, by go_num, by omega, HK6, Lib.hid (fun i hi => ?_)⟩
            by_cases e : i = j
            · rw [e]; exact Hfj.out
            · exact HF.out i (by omega)
          case measure => simp [intOf]; omega
      · have hj' : j = len := by omega
        subst hj'
        go_wp2
        go_ret
        have hfl := (sameL_get vs vs' (by rw [Hlen.out.1, Hlen.out.2])).2 (fun i hi => HF.out i (by rw [← Hlen.out.1]; exact hi))
        rw [HR.out] at hfl
        exact ⟨by rw [hfl]; rfl, HKr.out⟩
  · rw [sameL_len vs vs' hn]
    generalize vs.length = n at *
    generalize vs'.length = n' at *
    go_enter Tryd.func55, Tryd.ntmps55
    go_wp2
    go_ret
    exact ⟨rfl, Keeps.refl _ _⟩
end Go.Proofs.WV

/-
  Whether two values are the same, by the program (Same), in memory. Condition: both lie, and are not larger than an int counts.
-/
namespace Go.Proofs.WV
open Go.RowKit Go.Proofs.KL Go.Proofs.WM
set_option maxRecDepth 100000
set_option linter.unusedSimpArgs false
set_option linter.unusedVariables false

def sameC (k k' : Int) (b b' : Bool) (n n' : Int) (t t' : ByteArray) (E1 E2 : Bool) : Bool := decide (k = k') && (b == b') && decide (n = n') && decide (t.toList = t'.toList) && E1 && E2
theorem str_eq (t t' : ByteArray) : decide (t = t') = decide (t.toList = t'.toList) := by
  rw [decide_eq_decide, Lib.toList_data, Lib.toList_data]
  constructor
  · rintro rfl; rfl
  · intro h; obtain ⟨a⟩ := t; obtain ⟨a'⟩ := t'; have h2 : a = a' := Array.toList_inj.1 h; rw [h2]
set_option maxHeartbeats 4000000 in
/-- SAME. -/
theorem same23 {w : World} {X Y : Nat → Prop} {v : Value} {j : J} (h : JX w X v j) : ∀ (v2 : Value) (j2 : J), JX w Y v2 j2 → ∀ W, Keeps Nob w W → sizeJ j ≤ 1000000000000 → sizeJ j2 ≤ 1000000000000 → Calls Tryd.prog 23 #[v, v2] W fun e w' => e = .returned (.bool (sameJ j j2)) ∧ Keeps Nob W w' := by
  induction h with
  | mk k b n t ks vs kv A c u h1 hc hA hv ih =>
    intro v2 j2 h2 W hW hb hb2
    cases h2 with
    | mk k' b' n' t' ks' vs' kv' A' c' u' h1' hc' hA' hv' =>
      have hsz : vs.length ≤ 1000000000000 ∧ ks.length ≤ 1000000000000 ∧ sizeL vs ≤ 1000000000000 := by have h1 := size_len vs; unfold sizeJ at hb; omega
      have hsz2 : vs'.length ≤ 1000000000000 ∧ ks'.length ≤ 1000000000000 ∧ sizeL vs' ≤ 1000000000000 := by have h1 := size_len vs'; unfold sizeJ at hb2; omega
      obtain ⟨kA, kc, rfl, hkc, hkx⟩ := id h1
      obtain ⟨kA', kc', rfl, hkc', hkx'⟩ := id h1'
      have H54 := Lib.hid (fun W' (hk : Keeps Nob w W') => equal54 (h1.after hk) (h1'.after hk) hsz.2.1 hsz2.2.1)
      have H55 := Lib.hid (fun W' (hk : Keeps Nob w W') => equal55 (c := c) (c' := c') hk hsz.1 hsz2.1 hA hv hA' hv' (fun i hi hi' W'' hk' => ih i hi _ _ (hv' i hi') W'' hk'
        (by have := size_get (vs := vs) (i := i) hi; omega) (by have := size_get (vs := vs') (i := i) hi'; omega)))
      have HW := Lib.hid hW
      have hsame : sameJ (.mk k b n t ks vs) (.mk k' b' n' t' ks' vs') = sameC k k' b b' n n' t t' (decide (ks = ks')) (sameL vs vs') := by unfold sameJ sameC; rw [str_eq]
      rw [hsame]
      obtain ⟨E1, hE1⟩ : ∃ x, decide (ks = ks') = x := ⟨_, rfl⟩
      obtain ⟨E2, hE2⟩ : ∃ x, sameL vs vs' = x := ⟨_, rfl⟩
      rw [hE1] at H54 ⊢
      rw [hE2] at H55 ⊢
      generalize ks.length = nk at *
      generalize vs.length = nv at *
      generalize ks'.length = nk' at *
      generalize vs'.length = nv' at *
      clear h1 h1' hc hc' hA hA' hv hv' ih hW hb hb2 hsz hsz2 hkc hkc' hkx hkx' hsame hE1 hE2
      obtain ⟨R, hR⟩ : ∃ x, sameC k k' b b' n n' t t' E1 E2 = x := ⟨_, rfl⟩
      rw [hR]
      have HR := Lib.hid hR
      clear hR
      go_enter Tryd.func23, Tryd.ntmps23
      go_wp2_with (first
        | ((with_reducible refine at_dst (N := 2) rfl ?_); go_must (refine ev_box (cs := #[.int .i64 k, .bool b, .int .i64 n, .string t, .slice kA nk kc, .slice A nv c]) rfl rfl rfl ?_; intro g1 w1 hg1 hl1 hb1 hk1)
           have Hb1 := Lib.hid hb1
           have HK1 := Lib.hid hk1
           clear hb1 hk1
           (try simp only [PU]))
        | ((with_reducible refine at_dst (N := 3) rfl ?_); go_must (refine ev_box (cs := #[.int .i64 k', .bool b', .int .i64 n', .string t', .slice kA' nk' kc', .slice A' nv' c']) rfl rfl rfl ?_; intro g2 w2 hg2 hl2 hb2 hk2)
           have hb3 := hk2.blk Hb1.out id
           have s0 := (blk_cell hb3 0).trans rfl
           have s1 := (blk_cell hb3 1).trans rfl
           have s2 := (blk_cell hb3 2).trans rfl
           have s3 := (blk_cell hb3 3).trans rfl
           have s4 := (blk_cell hb3 4).trans rfl
           have r0 := (blk_cell hb2 0).trans rfl
           have r1 := (blk_cell hb2 1).trans rfl
           have r2 := (blk_cell hb2 2).trans rfl
           have r3 := (blk_cell hb2 3).trans rfl
           have r4 := (blk_cell hb2 4).trans rfl
           have Hb2 := Lib.hid (And.intro hb3 hb2)
           have HK2 := Lib.hid (HK1.out.trans hk2 (fun _ _ h => h))
           clear hb2 hk2 hb3
           (try simp only [PU]))
        | (go_at_call 54; go_must (refine (H54.out w2 (HW.out.trans HK2.out (fun _ _ h => h))).mono ?_; rintro e w3 ⟨rfl, hk3⟩)
           have s5 := (blk_cell (hk3.blk Hb2.out.1 id) 5).trans rfl
           have r5 := (blk_cell (hk3.blk Hb2.out.2 id) 5).trans rfl
           have HK3 := Lib.hid (HK2.out.trans hk3 (fun _ _ h => h)); clear hk3; (try simp only [PU]))
        | (go_at_call 55; go_must (refine (H55.out w3 (HW.out.trans HK3.out (fun _ _ h => h))).mono ?_; rintro e w4 ⟨rfl, hk4⟩); have HK4 := Lib.hid (HK3.out.trans hk4 (fun _ _ h => h)); clear hk4; (try simp only [PU]))
      )
      all_goals
        go_ret
        refine ⟨?_, by first | exact HK4.out | exact HK3.out | exact HK2.out⟩
        rw [← HR.out]
        first
        | (simp [sameC, *]; done)
        | (simp_all [sameC]; done)
end Go.Proofs.WV

/-
  Whether two values are the same, by the specification (Same), in memory. Condition: both lie, and are not larger than an int counts.
-/
namespace Go.Proofs.WV
open Go.RowKit Go.Proofs.KL Go.Proofs.WM
set_option maxRecDepth 100000
set_option linter.unusedSimpArgs false
set_option linter.unusedVariables false

theorem keys_eq (ks ks' : List ByteArray) (hl : ks.length = ks'.length) : ks = ks' ↔ ∀ i, i < ks.length → ks.getD i ByteArray.empty = ks'.getD i ByteArray.empty := by
  constructor
  · rintro rfl i _; rfl
  · intro h
    refine List.ext_getElem hl (fun i h1 h2 => ?_)
    have := h i h1
    simpa [List.getD_eq_getElem?_getD, h1, h2] using this
theorem str_ne {t t' : ByteArray} (h : ¬ t = t') : ¬ t.toList = t'.toList := fun e => h (by
  have := str_eq t t'
  rw [decide_eq_true e] at this
  exact of_decide_eq_true this)
theorem toList_str {t t' : ByteArray} (h : t.toList = t'.toList) : t = t' := by
  have := str_eq t t'
  rw [decide_eq_true h] at this
  exact of_decide_eq_true this
/-- What differs at once. -/
def diffC (k k' : Int) (b b' : Bool) (n n' : Int) (t t' : ByteArray) (nk nk' nv nv' : Nat) : Prop := k ≠ k' ∨ b ≠ b' ∨ n ≠ n' ∨ t ≠ t' ∨ nk ≠ nk' ∨ nv ≠ nv'
set_option maxHeartbeats 4000000 in
theorem differ20 {W : World} {k k' : Int} {b b' : Bool} {n n' : Int} {t t' : ByteArray} {kA kA' A A' : Option Addr} {nk nk' kc kc' nv nv' c c' : Nat} (h : diffC k k' b b' n n' t t' nk nk' nv nv') :
    Calls Tryd.prog 20 #[.agg #[.int .i64 k, .bool b, .int .i64 n, .string t, .slice kA nk kc, .slice A nv c], .agg #[.int .i64 k', .bool b', .int .i64 n', .string t', .slice kA' nk' kc', .slice A' nv' c']] W fun e w' => e = .returned (.bool false) ∧ Keeps Nob W w' := by
  unfold diffC at h
  by_cases h0 : k = k'
  · subst h0
    by_cases h1 : b = b'
    · subst h1
      by_cases h2 : n = n'
      · subst h2
        by_cases h3 : t = t'
        · subst h3
          by_cases h4 : nk = nk'
          · subst h4
            have h5 : nv ≠ nv' := by
              rcases h with h | h | h | h | h | h
              · exact absurd rfl h
              · exact absurd rfl h
              · exact absurd rfl h
              · exact absurd rfl h
              · exact absurd rfl h
              · exact h
            have q1 : ((nv : Int) != (nv' : Int)) = true := by simp; omega
            clear h
            go_enter Tryd.func20, Tryd.ntmps20
            go_wp2_with (first
              | ((with_reducible refine at_dst (N := 2) rfl ?_); go_must (refine ev_box (cs := #[.int .i64 k, .bool b, .int .i64 n, .string t, .slice kA nk kc, .slice A nv c]) rfl rfl rfl ?_; intro g1 w1 hg1 hl1 hb1 hk1)
                 have Hb1 := Lib.hid hb1
                 have HK1 := Lib.hid hk1
                 clear hb1 hk1
                 (try simp only [PU]))
              | ((with_reducible refine at_dst (N := 3) rfl ?_); go_must (refine ev_box (cs := #[.int .i64 k, .bool b, .int .i64 n, .string t, .slice kA' nk kc', .slice A' nv' c']) rfl rfl rfl ?_; intro g2 w2 hg2 hl2 hb2 hk2)
                 have hb3 := hk2.blk Hb1.out id
                 have s0 := (blk_cell hb3 0).trans rfl
                 have s1 := (blk_cell hb3 1).trans rfl
                 have s2 := (blk_cell hb3 2).trans rfl
                 have s3 := (blk_cell hb3 3).trans rfl
                 have s4 := (blk_cell hb3 4).trans rfl
                 have s5 := (blk_cell hb3 5).trans rfl
                 have r0 := (blk_cell hb2 0).trans rfl
                 have r1 := (blk_cell hb2 1).trans rfl
                 have r2 := (blk_cell hb2 2).trans rfl
                 have r3 := (blk_cell hb2 3).trans rfl
                 have r4 := (blk_cell hb2 4).trans rfl
                 have r5 := (blk_cell hb2 5).trans rfl
                 have HK2 := Lib.hid (HK1.out.trans hk2 (fun _ _ h => h))
                 clear hb2 hk2 hb3
                 (try simp only [PU]))
            )
            go_ret
            exact ⟨rfl, HK2.out⟩
          · have q1 : ((nk : Int) != (nk' : Int)) = true := by simp; omega
            clear h
            go_enter Tryd.func20, Tryd.ntmps20
            go_wp2_with (first
              | ((with_reducible refine at_dst (N := 2) rfl ?_); go_must (refine ev_box (cs := #[.int .i64 k, .bool b, .int .i64 n, .string t, .slice kA nk kc, .slice A nv c]) rfl rfl rfl ?_; intro g1 w1 hg1 hl1 hb1 hk1)
                 have Hb1 := Lib.hid hb1
                 have HK1 := Lib.hid hk1
                 clear hb1 hk1
                 (try simp only [PU]))
              | ((with_reducible refine at_dst (N := 3) rfl ?_); go_must (refine ev_box (cs := #[.int .i64 k, .bool b, .int .i64 n, .string t, .slice kA' nk' kc', .slice A' nv' c']) rfl rfl rfl ?_; intro g2 w2 hg2 hl2 hb2 hk2)
                 have hb3 := hk2.blk Hb1.out id
                 have s0 := (blk_cell hb3 0).trans rfl
                 have s1 := (blk_cell hb3 1).trans rfl
                 have s2 := (blk_cell hb3 2).trans rfl
                 have s3 := (blk_cell hb3 3).trans rfl
                 have s4 := (blk_cell hb3 4).trans rfl
                 have s5 := (blk_cell hb3 5).trans rfl
                 have r0 := (blk_cell hb2 0).trans rfl
                 have r1 := (blk_cell hb2 1).trans rfl
                 have r2 := (blk_cell hb2 2).trans rfl
                 have r3 := (blk_cell hb2 3).trans rfl
                 have r4 := (blk_cell hb2 4).trans rfl
                 have r5 := (blk_cell hb2 5).trans rfl
                 have HK2 := Lib.hid (HK1.out.trans hk2 (fun _ _ h => h))
                 clear hb2 hk2 hb3
                 (try simp only [PU]))
            )
            go_ret
            exact ⟨rfl, HK2.out⟩
        · have q1 := str_ne h3
          clear h
          go_enter Tryd.func20, Tryd.ntmps20
          go_wp2_with (first
            | ((with_reducible refine at_dst (N := 2) rfl ?_); go_must (refine ev_box (cs := #[.int .i64 k, .bool b, .int .i64 n, .string t, .slice kA nk kc, .slice A nv c]) rfl rfl rfl ?_; intro g1 w1 hg1 hl1 hb1 hk1)
               have Hb1 := Lib.hid hb1
               have HK1 := Lib.hid hk1
               clear hb1 hk1
               (try simp only [PU]))
            | ((with_reducible refine at_dst (N := 3) rfl ?_); go_must (refine ev_box (cs := #[.int .i64 k, .bool b, .int .i64 n, .string t', .slice kA' nk' kc', .slice A' nv' c']) rfl rfl rfl ?_; intro g2 w2 hg2 hl2 hb2 hk2)
               have hb3 := hk2.blk Hb1.out id
               have s0 := (blk_cell hb3 0).trans rfl
               have s1 := (blk_cell hb3 1).trans rfl
               have s2 := (blk_cell hb3 2).trans rfl
               have s3 := (blk_cell hb3 3).trans rfl
               have s4 := (blk_cell hb3 4).trans rfl
               have s5 := (blk_cell hb3 5).trans rfl
               have r0 := (blk_cell hb2 0).trans rfl
               have r1 := (blk_cell hb2 1).trans rfl
               have r2 := (blk_cell hb2 2).trans rfl
               have r3 := (blk_cell hb2 3).trans rfl
               have r4 := (blk_cell hb2 4).trans rfl
               have r5 := (blk_cell hb2 5).trans rfl
               have HK2 := Lib.hid (HK1.out.trans hk2 (fun _ _ h => h))
               clear hb2 hk2 hb3
               (try simp only [PU]))
          )
          go_ret
          exact ⟨rfl, HK2.out⟩
      · have q1 : (n != n') = true := by simpa using h2
        clear h
        go_enter Tryd.func20, Tryd.ntmps20
        go_wp2_with (first
          | ((with_reducible refine at_dst (N := 2) rfl ?_); go_must (refine ev_box (cs := #[.int .i64 k, .bool b, .int .i64 n, .string t, .slice kA nk kc, .slice A nv c]) rfl rfl rfl ?_; intro g1 w1 hg1 hl1 hb1 hk1)
             have Hb1 := Lib.hid hb1
             have HK1 := Lib.hid hk1
             clear hb1 hk1
             (try simp only [PU]))
          | ((with_reducible refine at_dst (N := 3) rfl ?_); go_must (refine ev_box (cs := #[.int .i64 k, .bool b, .int .i64 n', .string t', .slice kA' nk' kc', .slice A' nv' c']) rfl rfl rfl ?_; intro g2 w2 hg2 hl2 hb2 hk2)
             have hb3 := hk2.blk Hb1.out id
             have s0 := (blk_cell hb3 0).trans rfl
             have s1 := (blk_cell hb3 1).trans rfl
             have s2 := (blk_cell hb3 2).trans rfl
             have s3 := (blk_cell hb3 3).trans rfl
             have s4 := (blk_cell hb3 4).trans rfl
             have s5 := (blk_cell hb3 5).trans rfl
             have r0 := (blk_cell hb2 0).trans rfl
             have r1 := (blk_cell hb2 1).trans rfl
             have r2 := (blk_cell hb2 2).trans rfl
             have r3 := (blk_cell hb2 3).trans rfl
             have r4 := (blk_cell hb2 4).trans rfl
             have r5 := (blk_cell hb2 5).trans rfl
             have HK2 := Lib.hid (HK1.out.trans hk2 (fun _ _ h => h))
             clear hb2 hk2 hb3
             (try simp only [PU]))
        )
        go_ret
        exact ⟨rfl, HK2.out⟩
    · clear h
      cases b
      · cases b'
        · exact absurd rfl h1
        clear h1
        go_enter Tryd.func20, Tryd.ntmps20
        go_wp2_with (first
          | ((with_reducible refine at_dst (N := 2) rfl ?_); go_must (refine ev_box (cs := #[.int .i64 k, .bool false, .int .i64 n, .string t, .slice kA nk kc, .slice A nv c]) rfl rfl rfl ?_; intro g1 w1 hg1 hl1 hb1 hk1)
             have Hb1 := Lib.hid hb1
             have HK1 := Lib.hid hk1
             clear hb1 hk1
             (try simp only [PU]))
          | ((with_reducible refine at_dst (N := 3) rfl ?_); go_must (refine ev_box (cs := #[.int .i64 k, .bool true, .int .i64 n', .string t', .slice kA' nk' kc', .slice A' nv' c']) rfl rfl rfl ?_; intro g2 w2 hg2 hl2 hb2 hk2)
             have hb3 := hk2.blk Hb1.out id
             have s0 := (blk_cell hb3 0).trans rfl
             have s1 := (blk_cell hb3 1).trans rfl
             have s2 := (blk_cell hb3 2).trans rfl
             have s3 := (blk_cell hb3 3).trans rfl
             have s4 := (blk_cell hb3 4).trans rfl
             have s5 := (blk_cell hb3 5).trans rfl
             have r0 := (blk_cell hb2 0).trans rfl
             have r1 := (blk_cell hb2 1).trans rfl
             have r2 := (blk_cell hb2 2).trans rfl
             have r3 := (blk_cell hb2 3).trans rfl
             have r4 := (blk_cell hb2 4).trans rfl
             have r5 := (blk_cell hb2 5).trans rfl
             have HK2 := Lib.hid (HK1.out.trans hk2 (fun _ _ h => h))
             clear hb2 hk2 hb3
             (try simp only [PU]))
        )
        go_ret
        exact ⟨rfl, HK2.out⟩
      · cases b'
        case true => exact absurd rfl h1
        clear h1
        go_enter Tryd.func20, Tryd.ntmps20
        go_wp2_with (first
          | ((with_reducible refine at_dst (N := 2) rfl ?_); go_must (refine ev_box (cs := #[.int .i64 k, .bool true, .int .i64 n, .string t, .slice kA nk kc, .slice A nv c]) rfl rfl rfl ?_; intro g1 w1 hg1 hl1 hb1 hk1)
             have Hb1 := Lib.hid hb1
             have HK1 := Lib.hid hk1
             clear hb1 hk1
             (try simp only [PU]))
          | ((with_reducible refine at_dst (N := 3) rfl ?_); go_must (refine ev_box (cs := #[.int .i64 k, .bool false, .int .i64 n', .string t', .slice kA' nk' kc', .slice A' nv' c']) rfl rfl rfl ?_; intro g2 w2 hg2 hl2 hb2 hk2)
             have hb3 := hk2.blk Hb1.out id
             have s0 := (blk_cell hb3 0).trans rfl
             have s1 := (blk_cell hb3 1).trans rfl
             have s2 := (blk_cell hb3 2).trans rfl
             have s3 := (blk_cell hb3 3).trans rfl
             have s4 := (blk_cell hb3 4).trans rfl
             have s5 := (blk_cell hb3 5).trans rfl
             have r0 := (blk_cell hb2 0).trans rfl
             have r1 := (blk_cell hb2 1).trans rfl
             have r2 := (blk_cell hb2 2).trans rfl
             have r3 := (blk_cell hb2 3).trans rfl
             have r4 := (blk_cell hb2 4).trans rfl
             have r5 := (blk_cell hb2 5).trans rfl
             have HK2 := Lib.hid (HK1.out.trans hk2 (fun _ _ h => h))
             clear hb2 hk2 hb3
             (try simp only [PU]))
        )
        go_ret
        exact ⟨rfl, HK2.out⟩
  · have q1 : (k != k') = true := by simpa using h0
    clear h
    go_enter Tryd.func20, Tryd.ntmps20
    go_wp2_with (first
      | ((with_reducible refine at_dst (N := 2) rfl ?_); go_must (refine ev_box (cs := #[.int .i64 k, .bool b, .int .i64 n, .string t, .slice kA nk kc, .slice A nv c]) rfl rfl rfl ?_; intro g1 w1 hg1 hl1 hb1 hk1)
         have Hb1 := Lib.hid hb1
         have HK1 := Lib.hid hk1
         clear hb1 hk1
         (try simp only [PU]))
      | ((with_reducible refine at_dst (N := 3) rfl ?_); go_must (refine ev_box (cs := #[.int .i64 k', .bool b', .int .i64 n', .string t', .slice kA' nk' kc', .slice A' nv' c']) rfl rfl rfl ?_; intro g2 w2 hg2 hl2 hb2 hk2)
         have hb3 := hk2.blk Hb1.out id
         have s0 := (blk_cell hb3 0).trans rfl
         have s1 := (blk_cell hb3 1).trans rfl
         have s2 := (blk_cell hb3 2).trans rfl
         have s3 := (blk_cell hb3 3).trans rfl
         have s4 := (blk_cell hb3 4).trans rfl
         have s5 := (blk_cell hb3 5).trans rfl
         have r0 := (blk_cell hb2 0).trans rfl
         have r1 := (blk_cell hb2 1).trans rfl
         have r2 := (blk_cell hb2 2).trans rfl
         have r3 := (blk_cell hb2 3).trans rfl
         have r4 := (blk_cell hb2 4).trans rfl
         have r5 := (blk_cell hb2 5).trans rfl
         have HK2 := Lib.hid (HK1.out.trans hk2 (fun _ _ h => h))
         clear hb2 hk2 hb3
         (try simp only [PU]))
    )
    go_ret
    exact ⟨rfl, HK2.out⟩
end Go.Proofs.WV

/-
  Whether two values are the same, by the specification (Same), in memory: the whole. Condition: both lie, and are not larger than an int counts.
-/
namespace Go.Proofs.WV
open Go.RowKit Go.Proofs.KL Go.Proofs.WM
set_option maxRecDepth 100000
set_option linter.unusedSimpArgs false
set_option linter.unusedVariables false

set_option maxHeartbeats 4000000 in
/-- SAME. -/
theorem same20 {w : World} {X Y : Nat → Prop} {v : Value} {j : J} (h : JX w X v j) : ∀ (v2 : Value) (j2 : J), JX w Y v2 j2 → ∀ W, Keeps Nob w W → sizeJ j ≤ 1000000000000 → sizeJ j2 ≤ 1000000000000 → Calls Tryd.prog 20 #[v, v2] W fun e w' => e = .returned (.bool (sameJ j j2)) ∧ Keeps Nob W w' := by
  induction h with
  | mk k b n t ks vs kv A c u h1 hc hA hv ih =>
    intro v2 j2 h2 W hW hb hb2
    cases h2 with
    | mk k' b' n' t' ks' vs' kv' A' c' u' h1' hc' hA' hv' =>
      have hsz : vs.length ≤ 1000000000000 ∧ ks.length ≤ 1000000000000 ∧ sizeL vs ≤ 1000000000000 := by have h1 := size_len vs; unfold sizeJ at hb; omega
      have hsz2 : vs'.length ≤ 1000000000000 ∧ ks'.length ≤ 1000000000000 ∧ sizeL vs' ≤ 1000000000000 := by have h1 := size_len vs'; unfold sizeJ at hb2; omega
      obtain ⟨kA, kc, rfl, hkc, hkx⟩ := id h1
      obtain ⟨kA', kc', rfl, hkc', hkx'⟩ := id h1'
      by_cases hd : diffC k k' b b' n n' t t' ks.length ks'.length vs.length vs'.length
      · have hf : sameJ (.mk k b n t ks vs) (.mk k' b' n' t' ks' vs') = false := by
          rcases hs : sameJ (.mk k b n t ks vs) (.mk k' b' n' t' ks' vs') with _ | _
          · rfl
          · have := (sameJ_iff _ _).1 hs
            injection this with e1 e2 e3 e4 e5 e6
            subst e1 e2 e3 e4 e5 e6
            unfold diffC at hd
            simp at hd
        rw [hf]
        exact differ20 hd
      have hq : (k = k' ∧ b = b' ∧ n = n' ∧ t = t') ∧ ks.length = ks'.length ∧ vs.length = vs'.length := by
        unfold diffC at hd
        simp only [not_or, ne_eq, Decidable.not_not] at hd
        obtain ⟨h1, h2, h3, h4, h5, h6⟩ := hd
        exact ⟨⟨h1, h2, h3, h4⟩, h5, h6⟩
      obtain ⟨⟨rfl, rfl, rfl, rfl⟩, hkl, hvl⟩ := hq
      have hsame : sameJ (.mk k b n t ks vs) (.mk k b n t ks' vs') = (decide (ks = ks') && sameL vs vs') := by unfold sameJ; simp
      rw [hsame]
      obtain ⟨R, hR⟩ : ∃ x, (decide (ks = ks') && sameL vs vs') = x := ⟨_, rfl⟩
      rw [hR]
      have HR := Lib.hid hR
      have HW := Lib.hid hW
      have HA := Lib.hid hA
      have HA' := Lib.hid hA'
      have Hkx := Lib.hid hkx
      have Hkx' := Lib.hid hkx'
      have IH := Lib.hid (fun i (hi : i < vs.length) (hi' : i < vs'.length) W'' hk' => ih i hi _ _ (hv' i hi') W'' hk'
        (by have := size_get (vs := vs) (i := i) hi; omega) (by have := size_get (vs := vs') (i := i) hi'; omega))
      obtain ⟨nk, hnk⟩ : ∃ x, ks.length = x := ⟨_, rfl⟩
      obtain ⟨nv, hnv⟩ : ∃ x, vs.length = x := ⟨_, rfl⟩
      have Hnk := Lib.hid (And.intro hnk (hkl.symm.trans hnk))
      have Hnv := Lib.hid (And.intro hnv (hvl.symm.trans hnv))
      rw [← hkl, ← hvl, hnk, hnv]
      rw [hnk, hnv] at hsz
      obtain ⟨hs1, hs2, -⟩ := hsz
      clear h1 h1' hc hc' hA hA' hv hv' ih hW hb hb2 hsz2 hkc hkc' hkx hkx' hsame hR hd hnk hnv hkl hvl
      go_enter Tryd.func20, Tryd.ntmps20
      go_wp2_with (first
        | ((with_reducible refine at_dst (N := 2) rfl ?_); go_must (refine ev_box (cs := #[.int .i64 k, .bool b, .int .i64 n, .string t, .slice kA nk kc, .slice A nv c]) rfl rfl rfl ?_; intro g1 w1 hg1 hl1 hb1 hk1)
           have Hb1 := Lib.hid hb1
           have HK1 := Lib.hid hk1
           clear hb1 hk1
           (try simp only [PU]))
        | ((with_reducible refine at_dst (N := 3) rfl ?_); go_must (refine ev_box (cs := #[.int .i64 k, .bool b, .int .i64 n, .string t, .slice kA' nk kc', .slice A' nv c']) rfl rfl rfl ?_; intro g2 w2 hg2 hl2 hb2 hk2)
           have hb3 := hk2.blk Hb1.out id
           have s0 := (blk_cell hb3 0).trans rfl
           have s1 := (blk_cell hb3 1).trans rfl
           have s2 := (blk_cell hb3 2).trans rfl
           have s3 := (blk_cell hb3 3).trans rfl
           have s4 := (blk_cell hb3 4).trans rfl
           have s5 := (blk_cell hb3 5).trans rfl
           have r0 := (blk_cell hb2 0).trans rfl
           have r1 := (blk_cell hb2 1).trans rfl
           have r2 := (blk_cell hb2 2).trans rfl
           have r3 := (blk_cell hb2 3).trans rfl
           have r4 := (blk_cell hb2 4).trans rfl
           have r5 := (blk_cell hb2 5).trans rfl
           have Hb2 := Lib.hid (And.intro hb3 hb2)
           have HK2 := Lib.hid (HK1.out.trans hk2 (fun _ _ h => h))
           clear hb2 hk2 hb3
           (try simp only [PU]))
      )
      clear s0 s1 s2 s3 s4 s5 r0 r1 r2 r3 r4 r5
      go_loopw [5, 54] (fun n1 iv wr => ∃ j : Nat, iv = .int .i64 j ∧ j ≤ nk ∧ Hid (Keeps Nob w2 wr) ∧ Hid (∀ i, i < j → ks.getD i ByteArray.empty = ks'.getD i ByteArray.empty)) (fun _ iv _ => nk - (intOf iv).toNat)
      case atStart => exact ⟨0, rfl, Nat.zero_le _, Lib.hid (Keeps.refl _ _), Lib.hid (fun i h => absurd h (Nat.not_lt_zero _))⟩
      case round =>
        obtain ⟨j, rfl, hj, HKr, HF⟩ := hrel
        by_cases hlt : j < nk
        · obtain ⟨q1, o1, rfl, -, x1⟩ := Hkx.out j (by rw [Hnk.out.1]; exact hlt)
          obtain ⟨q2, o2, rfl, -, x2⟩ := Hkx'.out j (by rw [Hnk.out.2]; exact hlt)
          have HKw := Lib.hid (show Keeps Nob w wr from (HW.out.trans HK2.out (fun _ _ h => h)).trans HKr.out (fun _ _ h => h))
          have e1 := HKw.out.cell x1 id
          have e2 := HKw.out.cell x2 id
          have c1 := (blk_cell (HKr.out.blk Hb2.out.1 id) 4).trans rfl
          have c2 := (blk_cell (HKr.out.blk Hb2.out.2 id) 4).trans rfl
          obtain ⟨y1, hy1⟩ : ∃ x, ks.getD j ByteArray.empty = x := ⟨_, rfl⟩
          obtain ⟨y2, hy2⟩ : ∃ x, ks'.getD j ByteArray.empty = x := ⟨_, rfl⟩
          rw [hy1] at e1
          rw [hy2] at e2
          have Hy := Lib.hid (And.intro hy1 hy2)
          clear x1 x2 hy1 hy2
          by_cases hyy : y1 = y2
          · subst hyy
            go_wp2_with fail
            refine wp_region_perm [(0, true), (1, true), (2, true), (3, true), (4, true), (5, true), (6, true), (7, true), (8, true), (9, true), (10, true)] (fun w' => (w'.cell? ⟨g1, 4, none⟩ = some (.slice (some ⟨q1, o1, none⟩) nk kc) ∧ w'.cell? ⟨g2, 4, none⟩ = some (.slice (some ⟨q2, o2, none⟩) nk kc')) ∧ w'.cell? ⟨q1, o1 + j, none⟩ = some (.string y1) ∧ w'.cell? ⟨q2, o2 + j, none⟩ = some (.string y1)) rfl (by kernel_rfl) (by kernel_rfl) (by decide) (fun c a d v w h => by cases d <;> exact h) ⟨⟨c1, c2⟩, e1, e2⟩ ?_
            refine perm_q (v := ?v1_0) (some 57) rfl rfl rfl ?q1_0 ?h1_0; (case q1_0 => (intro w' hS; obtain ⟨⟨z1, z2⟩, z3, z4⟩ := hS; first | (go_simp; done) | (go_simp; rfl))); (try simp only [PU])
            refine perm_q (v := ?v1_1) (some 58) rfl rfl rfl ?q1_1 ?h1_1; (case q1_1 => (intro w' hS; obtain ⟨⟨z1, z2⟩, z3, z4⟩ := hS; first | (go_simp; done) | (go_simp; rfl))); (try simp only [PU])
            refine perm_q (v := ?v1_2) (some 59) rfl rfl rfl ?q1_2 ?h1_2; (case q1_2 => (intro w' hS; obtain ⟨⟨z1, z2⟩, z3, z4⟩ := hS; first | (go_simp; done) | (go_simp; rfl))); (try simp only [PU])
            refine perm_q (v := ?v1_3) (some 60) rfl rfl rfl ?q1_3 ?h1_3; (case q1_3 => (intro w' hS; obtain ⟨⟨z1, z2⟩, z3, z4⟩ := hS; first | (go_simp; done) | (go_simp; rfl))); (try simp only [PU])
            refine perm_q (v := ?v1_4) (some 61) rfl rfl rfl ?q1_4 ?h1_4; (case q1_4 => (intro w' hS; obtain ⟨⟨z1, z2⟩, z3, z4⟩ := hS; first | (go_simp; done) | (go_simp; rfl))); (try simp only [PU])
            refine perm_q (v := ?v1_5) (some 62) rfl rfl rfl ?q1_5 ?h1_5; (case q1_5 => (intro w' hS; obtain ⟨⟨z1, z2⟩, z3, z4⟩ := hS; first | (go_simp; done) | (go_simp; rfl))); (try simp only [PU])
            refine perm_q (v := ?v1_6) (some 63) rfl rfl rfl ?q1_6 ?h1_6; (case q1_6 => (intro w' hS; obtain ⟨⟨z1, z2⟩, z3, z4⟩ := hS; first | (go_simp; done) | (go_simp; rfl))); (try simp only [PU])
            refine perm_q (v := ?v1_7) (some 64) rfl rfl rfl ?q1_7 ?h1_7; (case q1_7 => (intro w' hS; obtain ⟨⟨z1, z2⟩, z3, z4⟩ := hS; first | (go_simp; done) | (go_simp; rfl))); (try simp only [PU])
            refine perm_q (v := ?v1_8) (some 65) rfl rfl rfl ?q1_8 ?h1_8; (case q1_8 => (intro w' hS; obtain ⟨⟨z1, z2⟩, z3, z4⟩ := hS; first | (go_simp; done) | (go_simp; rfl))); (try simp only [PU])
            refine perm_q (v := ?v1_9) (some 66) rfl rfl rfl ?q1_9 ?h1_9; (case q1_9 => (intro w' hS; obtain ⟨⟨z1, z2⟩, z3, z4⟩ := hS; first | (go_simp; done) | (go_simp; rfl))); (try simp only [PU])
            refine perm_q (v := ?v1_10) (some 67) rfl rfl rfl ?q1_10 ?h1_10; (case q1_10 => (intro w' hS; obtain ⟨⟨z1, z2⟩, z3, z4⟩ := hS; first | (go_simp; done) | (go_simp; rfl))); (try simp only [PU])
            refine perm_nil ?_
            go_wp2
            go_roundw
            case rel =>
              refine ⟨j + 1, by go_num, by omega, Lib.hid (HKr.out.then (Keeps.refl Nob wr).drew), Lib.hid (fun i hi => ?_)⟩
              by_cases e : i = j
              · rw [e, Hy.out.1, Hy.out.2]
              · exact HF.out i (by omega)
            case measure => simp [intOf]; omega
          · have hne : (y1.toList == y2.toList) = false := by simpa using str_ne hyy
            have Hyy := Lib.hid hyy
            clear hyy
            go_wp2_with fail
            refine wp_region_perm [(0, true), (1, true), (2, true), (3, true), (4, true), (5, true), (6, true), (7, true), (8, true), (9, true), (10, true)] (fun w' => (w'.cell? ⟨g1, 4, none⟩ = some (.slice (some ⟨q1, o1, none⟩) nk kc) ∧ w'.cell? ⟨g2, 4, none⟩ = some (.slice (some ⟨q2, o2, none⟩) nk kc')) ∧ w'.cell? ⟨q1, o1 + j, none⟩ = some (.string y1) ∧ w'.cell? ⟨q2, o2 + j, none⟩ = some (.string y2)) rfl (by kernel_rfl) (by kernel_rfl) (by decide) (fun c a d v w h => by cases d <;> exact h) ⟨⟨c1, c2⟩, e1, e2⟩ ?_
            refine perm_q (v := ?v2_0) (some 57) rfl rfl rfl ?q2_0 ?h2_0; (case q2_0 => (intro w' hS; obtain ⟨⟨z1, z2⟩, z3, z4⟩ := hS; first | (go_simp; done) | (go_simp; rfl))); (try simp only [PU])
            refine perm_q (v := ?v2_1) (some 58) rfl rfl rfl ?q2_1 ?h2_1; (case q2_1 => (intro w' hS; obtain ⟨⟨z1, z2⟩, z3, z4⟩ := hS; first | (go_simp; done) | (go_simp; rfl))); (try simp only [PU])
            refine perm_q (v := ?v2_2) (some 59) rfl rfl rfl ?q2_2 ?h2_2; (case q2_2 => (intro w' hS; obtain ⟨⟨z1, z2⟩, z3, z4⟩ := hS; first | (go_simp; done) | (go_simp; rfl))); (try simp only [PU])
            refine perm_q (v := ?v2_3) (some 60) rfl rfl rfl ?q2_3 ?h2_3; (case q2_3 => (intro w' hS; obtain ⟨⟨z1, z2⟩, z3, z4⟩ := hS; first | (go_simp; done) | (go_simp; rfl))); (try simp only [PU])
            refine perm_q (v := ?v2_4) (some 61) rfl rfl rfl ?q2_4 ?h2_4; (case q2_4 => (intro w' hS; obtain ⟨⟨z1, z2⟩, z3, z4⟩ := hS; first | (go_simp; done) | (go_simp; rfl))); (try simp only [PU])
            refine perm_q (v := ?v2_5) (some 62) rfl rfl rfl ?q2_5 ?h2_5; (case q2_5 => (intro w' hS; obtain ⟨⟨z1, z2⟩, z3, z4⟩ := hS; first | (go_simp; done) | (go_simp; rfl))); (try simp only [PU])
            refine perm_q (v := ?v2_6) (some 63) rfl rfl rfl ?q2_6 ?h2_6; (case q2_6 => (intro w' hS; obtain ⟨⟨z1, z2⟩, z3, z4⟩ := hS; first | (go_simp; done) | (go_simp; rfl))); (try simp only [PU])
            refine perm_q (v := ?v2_7) (some 64) rfl rfl rfl ?q2_7 ?h2_7; (case q2_7 => (intro w' hS; obtain ⟨⟨z1, z2⟩, z3, z4⟩ := hS; first | (go_simp; done) | (go_simp; rfl))); (try simp only [PU])
            refine perm_q (v := ?v2_8) (some 65) rfl rfl rfl ?q2_8 ?h2_8; (case q2_8 => (intro w' hS; obtain ⟨⟨z1, z2⟩, z3, z4⟩ := hS; first | (go_simp; done) | (go_simp; rfl))); (try simp only [PU])
            refine perm_q (v := ?v2_9) (some 66) rfl rfl rfl ?q2_9 ?h2_9; (case q2_9 => (intro w' hS; obtain ⟨⟨z1, z2⟩, z3, z4⟩ := hS; first | (go_simp; done) | (go_simp; rfl))); (try simp only [PU])
            refine perm_q (v := ?v2_10) (some 67) rfl rfl rfl ?q2_10 ?h2_10; (case q2_10 => (intro w' hS; obtain ⟨⟨z1, z2⟩, z3, z4⟩ := hS; first | (go_simp; done) | (go_simp; rfl))); (try simp only [PU])
            refine perm_nil ?_
            go_wp2
            go_ret
            refine ⟨?_, HK2.out.trans ((HKr.out.then (Keeps.refl Nob wr).drew)) (fun _ _ h => h)⟩
            have hkn : ¬ ks = ks' := fun e => by
              have := (keys_eq ks ks' (by rw [Hnk.out.1, Hnk.out.2])).1 e j (by rw [Hnk.out.1]; exact hlt)
              rw [Hy.out.1, Hy.out.2] at this
              exact Hyy.out this
            rw [← HR.out, decide_eq_false hkn]
            rfl
        · have hj' : j = nk := by omega
          subst hj'
          obtain ⟨wq, rfl⟩ : ∃ x, x = wr := ⟨_, rfl⟩
          have hkk : ks = ks' := (keys_eq ks ks' (by rw [Hnk.out.1, Hnk.out.2])).2 (fun i hi => HF.out i (by rw [← Hnk.out.1]; exact hi))
          have HRv := Lib.hid (show sameL vs vs' = R by rw [← HR.out, decide_eq_true hkk]; rfl)
          have HK3 := Lib.hid (show Keeps Nob W wq from HK2.out.trans HKr.out (fun _ _ h => h))
          have Hb3 := Lib.hid (And.intro (HKr.out.blk Hb2.out.1 id) (HKr.out.blk Hb2.out.2 id))
          have s5 := (blk_cell Hb3.out.1 5).trans rfl
          clear hkk
          go_wp2
          go_loopw [6, 72] (fun n1 iv wr => ∃ j : Nat, iv = .int .i64 j ∧ j ≤ nv ∧ Hid (Keeps Nob wq wr) ∧ Hid (∀ i, i < j → sameJ (vs.getD i default) (vs'.getD i default) = true)) (fun _ iv _ => nv - (intOf iv).toNat)
          case atStart => exact ⟨0, rfl, Nat.zero_le _, Lib.hid (Keeps.refl _ _), Lib.hid (fun i h => absurd h (Nat.not_lt_zero _))⟩
          case round =>
            obtain ⟨m, rfl, hm, HKm, HG⟩ := hrel
            clear s5
            by_cases hlt2 : m < nv
            · obtain ⟨q1, o1, rfl, -, h6⟩ := HA.out m (by rw [Hnv.out.1]; exact hlt2)
              obtain ⟨q2, o2, rfl, -, h6'⟩ := HA'.out m (by rw [Hnv.out.2]; exact hlt2)
              have HKw := Lib.hid (show Keeps Nob w wr from (HW.out.trans HK3.out (fun _ _ h => h)).trans HKm.out (fun _ _ h => h))
              obtain ⟨⟨e0, e1, e2⟩, e3, e4, e5⟩ := h6.keep HKw.out id
              obtain ⟨⟨f0, f1, f2⟩, f3, f4, f5⟩ := h6'.keep HKw.out id
              have c1 := (blk_cell (HKm.out.blk Hb3.out.1 id) 5).trans rfl
              have c2 := (blk_cell (HKm.out.blk Hb3.out.2 id) 5).trans rfl
              have Hrun := Lib.hid (fun W' hk => IH.out m (by rw [Hnv.out.1]; exact hlt2) (by rw [Hnv.out.2]; exact hlt2) W' hk)
              generalize u m 0 = x0 at *
              generalize u m 1 = x1 at *
              generalize u m 2 = x2 at *
              generalize u m 3 = x3 at *
              generalize u m 4 = x4 at *
              generalize u m 5 = x5 at *
              generalize u' m 0 = x0' at *
              generalize u' m 1 = x1' at *
              generalize u' m 2 = x2' at *
              generalize u' m 3 = x3' at *
              generalize u' m 4 = x4' at *
              generalize u' m 5 = x5' at *
              obtain ⟨fj, hfj⟩ : ∃ x, sameJ (vs.getD m default) (vs'.getD m default) = x := ⟨_, rfl⟩
              rw [hfj] at Hrun
              have Hfj := Lib.hid hfj
              clear h6 h6' hfj
              cases fj
              · skip
                go_wp2_with fail
                refine wp_region_perm [(0, true), (1, true), (2, true), (3, true), (4, true), (5, true), (6, true), (7, true), (8, true), (9, true), (10, false), (11, true)] (fun w' => (w'.cell? ⟨g1, 5, none⟩ = some (.slice (some ⟨q1, o1, none⟩) nv c) ∧ w'.cell? ⟨g2, 5, none⟩ = some (.slice (some ⟨q2, o2, none⟩) nv c')) ∧ (w'.cell? ⟨q1, o1 + m * 6, none⟩ = some x0 ∧ w'.cell? ⟨q1, o1 + m * 6 + 1, none⟩ = some x1 ∧ w'.cell? ⟨q1, o1 + m * 6 + 2, none⟩ = some x2 ∧ w'.cell? ⟨q1, o1 + m * 6 + 3, none⟩ = some x3 ∧ w'.cell? ⟨q1, o1 + m * 6 + 4, none⟩ = some x4 ∧ w'.cell? ⟨q1, o1 + m * 6 + 5, none⟩ = some x5) ∧ w'.cell? ⟨q2, o2 + m * 6, none⟩ = some x0' ∧ w'.cell? ⟨q2, o2 + m * 6 + 1, none⟩ = some x1' ∧ w'.cell? ⟨q2, o2 + m * 6 + 2, none⟩ = some x2' ∧ w'.cell? ⟨q2, o2 + m * 6 + 3, none⟩ = some x3' ∧ w'.cell? ⟨q2, o2 + m * 6 + 4, none⟩ = some x4' ∧ w'.cell? ⟨q2, o2 + m * 6 + 5, none⟩ = some x5') rfl (by kernel_rfl) (by kernel_rfl) (by decide) (fun c a d v w h => by cases d <;> exact h) ⟨⟨c1, c2⟩, ⟨e0, e1, e2, e3, e4, e5⟩, f0, f1, f2, f3, f4, f5⟩ ?_
                refine perm_q (v := ?v3_0) (some 75) rfl rfl rfl ?q3_0 ?h3_0; (case q3_0 => (intro w' hS; obtain ⟨⟨s1, s2⟩, ⟨t0, t1, t2, t3, t4, t5⟩, p0, p1, p2, p3, p4, p5⟩ := hS; first | (go_simp; done) | (go_simp; rfl))); (try simp only [PU])
                refine perm_q (v := ?v3_1) (some 76) rfl rfl rfl ?q3_1 ?h3_1; (case q3_1 => (intro w' hS; obtain ⟨⟨s1, s2⟩, ⟨t0, t1, t2, t3, t4, t5⟩, p0, p1, p2, p3, p4, p5⟩ := hS; first | (go_simp; done) | (go_simp; rfl))); (try simp only [PU])
                refine perm_q (v := ?v3_2) (some 77) rfl rfl rfl ?q3_2 ?h3_2; (case q3_2 => (intro w' hS; obtain ⟨⟨s1, s2⟩, ⟨t0, t1, t2, t3, t4, t5⟩, p0, p1, p2, p3, p4, p5⟩ := hS; first | (go_simp; done) | (go_simp; rfl))); (try simp only [PU])
                refine perm_q (v := ?v3_3) (some 78) rfl rfl rfl ?q3_3 ?h3_3; (case q3_3 => (intro w' hS; obtain ⟨⟨s1, s2⟩, ⟨t0, t1, t2, t3, t4, t5⟩, p0, p1, p2, p3, p4, p5⟩ := hS; first | (go_simp; done) | (go_simp; rfl))); (try simp only [PU])
                refine perm_q (v := ?v3_4) (some 79) rfl rfl rfl ?q3_4 ?h3_4; (case q3_4 => (intro w' hS; obtain ⟨⟨s1, s2⟩, ⟨t0, t1, t2, t3, t4, t5⟩, p0, p1, p2, p3, p4, p5⟩ := hS; first | (go_simp; done) | (go_simp; rfl))); (try simp only [PU])
                refine perm_q (v := ?v3_5) (some 80) rfl rfl rfl ?q3_5 ?h3_5; (case q3_5 => (intro w' hS; obtain ⟨⟨s1, s2⟩, ⟨t0, t1, t2, t3, t4, t5⟩, p0, p1, p2, p3, p4, p5⟩ := hS; first | (go_simp; done) | (go_simp; rfl))); (try simp only [PU])
                refine perm_q (v := ?v3_6) (some 81) rfl rfl rfl ?q3_6 ?h3_6; (case q3_6 => (intro w' hS; obtain ⟨⟨s1, s2⟩, ⟨t0, t1, t2, t3, t4, t5⟩, p0, p1, p2, p3, p4, p5⟩ := hS; first | (go_simp; done) | (go_simp; rfl))); (try simp only [PU])
                refine perm_q (v := ?v3_7) (some 82) rfl rfl rfl ?q3_7 ?h3_7; (case q3_7 => (intro w' hS; obtain ⟨⟨s1, s2⟩, ⟨t0, t1, t2, t3, t4, t5⟩, p0, p1, p2, p3, p4, p5⟩ := hS; first | (go_simp; done) | (go_simp; rfl))); (try simp only [PU])
                refine perm_q (v := ?v3_8) (some 83) rfl rfl rfl ?q3_8 ?h3_8; (case q3_8 => (intro w' hS; obtain ⟨⟨s1, s2⟩, ⟨t0, t1, t2, t3, t4, t5⟩, p0, p1, p2, p3, p4, p5⟩ := hS; first | (go_simp; done) | (go_simp; rfl))); (try simp only [PU])
                refine perm_q (v := ?v3_9) (some 84) rfl rfl rfl ?q3_9 ?h3_9; (case q3_9 => (intro w' hS; obtain ⟨⟨s1, s2⟩, ⟨t0, t1, t2, t3, t4, t5⟩, p0, p1, p2, p3, p4, p5⟩ := hS; first | (go_simp; done) | (go_simp; rfl))); (try simp only [PU])
                refine perm_e rfl ?_
                go_wp2_with (go_at_call 20; go_must (refine (Hrun.out _ (HKw.out.then (Keeps.refl Nob wr).drew)).mono ?_; rintro e w4 ⟨rfl, hk4⟩))
                have HK4 := Lib.hid hk4
                clear hk4
                (try simp only [PU])
                refine ⟨⟨⟨HK4.out.cell (w := wr.drew) c1 id, HK4.out.cell (w := wr.drew) c2 id⟩, ⟨HK4.out.cell (w := wr.drew) e0 id, HK4.out.cell (w := wr.drew) e1 id, HK4.out.cell (w := wr.drew) e2 id, HK4.out.cell (w := wr.drew) e3 id, HK4.out.cell (w := wr.drew) e4 id, HK4.out.cell (w := wr.drew) e5 id⟩, HK4.out.cell (w := wr.drew) f0 id, HK4.out.cell (w := wr.drew) f1 id, HK4.out.cell (w := wr.drew) f2 id, HK4.out.cell (w := wr.drew) f3 id, HK4.out.cell (w := wr.drew) f4 id, HK4.out.cell (w := wr.drew) f5 id⟩, ?_⟩
                refine perm_q (v := ?v3_11) (some 86) rfl rfl rfl ?q3_11 ?h3_11; (case q3_11 => (intro w' hS; obtain ⟨⟨s1, s2⟩, ⟨t0, t1, t2, t3, t4, t5⟩, p0, p1, p2, p3, p4, p5⟩ := hS; first | (go_simp; done) | (go_simp; rfl))); (try simp only [PU])
                refine perm_nil ?_
                go_wp2
                go_ret
                refine ⟨?_, HK3.out.trans (HKm.out.trans ((Keeps.refl Nob wr).drew.trans HK4.out (fun _ _ h => h)) (fun _ _ h => h)) (fun _ _ h => h)⟩
                rcases hfl : sameL vs vs' with _ | _
                · rw [← HRv.out, hfl]; rfl
                · have := (sameL_get vs vs' (by rw [Hnv.out.1, Hnv.out.2])).1 hfl m (by rw [Hnv.out.1]; exact hlt2)
                  rw [Hfj.out] at this
                  cases this
              · skip
                go_wp2_with fail
                refine wp_region_perm [(0, true), (1, true), (2, true), (3, true), (4, true), (5, true), (6, true), (7, true), (8, true), (9, true), (10, false), (11, true)] (fun w' => (w'.cell? ⟨g1, 5, none⟩ = some (.slice (some ⟨q1, o1, none⟩) nv c) ∧ w'.cell? ⟨g2, 5, none⟩ = some (.slice (some ⟨q2, o2, none⟩) nv c')) ∧ (w'.cell? ⟨q1, o1 + m * 6, none⟩ = some x0 ∧ w'.cell? ⟨q1, o1 + m * 6 + 1, none⟩ = some x1 ∧ w'.cell? ⟨q1, o1 + m * 6 + 2, none⟩ = some x2 ∧ w'.cell? ⟨q1, o1 + m * 6 + 3, none⟩ = some x3 ∧ w'.cell? ⟨q1, o1 + m * 6 + 4, none⟩ = some x4 ∧ w'.cell? ⟨q1, o1 + m * 6 + 5, none⟩ = some x5) ∧ w'.cell? ⟨q2, o2 + m * 6, none⟩ = some x0' ∧ w'.cell? ⟨q2, o2 + m * 6 + 1, none⟩ = some x1' ∧ w'.cell? ⟨q2, o2 + m * 6 + 2, none⟩ = some x2' ∧ w'.cell? ⟨q2, o2 + m * 6 + 3, none⟩ = some x3' ∧ w'.cell? ⟨q2, o2 + m * 6 + 4, none⟩ = some x4' ∧ w'.cell? ⟨q2, o2 + m * 6 + 5, none⟩ = some x5') rfl (by kernel_rfl) (by kernel_rfl) (by decide) (fun c a d v w h => by cases d <;> exact h) ⟨⟨c1, c2⟩, ⟨e0, e1, e2, e3, e4, e5⟩, f0, f1, f2, f3, f4, f5⟩ ?_
                refine perm_q (v := ?v4_0) (some 75) rfl rfl rfl ?q4_0 ?h4_0; (case q4_0 => (intro w' hS; obtain ⟨⟨s1, s2⟩, ⟨t0, t1, t2, t3, t4, t5⟩, p0, p1, p2, p3, p4, p5⟩ := hS; first | (go_simp; done) | (go_simp; rfl))); (try simp only [PU])
                refine perm_q (v := ?v4_1) (some 76) rfl rfl rfl ?q4_1 ?h4_1; (case q4_1 => (intro w' hS; obtain ⟨⟨s1, s2⟩, ⟨t0, t1, t2, t3, t4, t5⟩, p0, p1, p2, p3, p4, p5⟩ := hS; first | (go_simp; done) | (go_simp; rfl))); (try simp only [PU])
                refine perm_q (v := ?v4_2) (some 77) rfl rfl rfl ?q4_2 ?h4_2; (case q4_2 => (intro w' hS; obtain ⟨⟨s1, s2⟩, ⟨t0, t1, t2, t3, t4, t5⟩, p0, p1, p2, p3, p4, p5⟩ := hS; first | (go_simp; done) | (go_simp; rfl))); (try simp only [PU])
                refine perm_q (v := ?v4_3) (some 78) rfl rfl rfl ?q4_3 ?h4_3; (case q4_3 => (intro w' hS; obtain ⟨⟨s1, s2⟩, ⟨t0, t1, t2, t3, t4, t5⟩, p0, p1, p2, p3, p4, p5⟩ := hS; first | (go_simp; done) | (go_simp; rfl))); (try simp only [PU])
                refine perm_q (v := ?v4_4) (some 79) rfl rfl rfl ?q4_4 ?h4_4; (case q4_4 => (intro w' hS; obtain ⟨⟨s1, s2⟩, ⟨t0, t1, t2, t3, t4, t5⟩, p0, p1, p2, p3, p4, p5⟩ := hS; first | (go_simp; done) | (go_simp; rfl))); (try simp only [PU])
                refine perm_q (v := ?v4_5) (some 80) rfl rfl rfl ?q4_5 ?h4_5; (case q4_5 => (intro w' hS; obtain ⟨⟨s1, s2⟩, ⟨t0, t1, t2, t3, t4, t5⟩, p0, p1, p2, p3, p4, p5⟩ := hS; first | (go_simp; done) | (go_simp; rfl))); (try simp only [PU])
                refine perm_q (v := ?v4_6) (some 81) rfl rfl rfl ?q4_6 ?h4_6; (case q4_6 => (intro w' hS; obtain ⟨⟨s1, s2⟩, ⟨t0, t1, t2, t3, t4, t5⟩, p0, p1, p2, p3, p4, p5⟩ := hS; first | (go_simp; done) | (go_simp; rfl))); (try simp only [PU])
                refine perm_q (v := ?v4_7) (some 82) rfl rfl rfl ?q4_7 ?h4_7; (case q4_7 => (intro w' hS; obtain ⟨⟨s1, s2⟩, ⟨t0, t1, t2, t3, t4, t5⟩, p0, p1, p2, p3, p4, p5⟩ := hS; first | (go_simp; done) | (go_simp; rfl))); (try simp only [PU])
                refine perm_q (v := ?v4_8) (some 83) rfl rfl rfl ?q4_8 ?h4_8; (case q4_8 => (intro w' hS; obtain ⟨⟨s1, s2⟩, ⟨t0, t1, t2, t3, t4, t5⟩, p0, p1, p2, p3, p4, p5⟩ := hS; first | (go_simp; done) | (go_simp; rfl))); (try simp only [PU])
                refine perm_q (v := ?v4_9) (some 84) rfl rfl rfl ?q4_9 ?h4_9; (case q4_9 => (intro w' hS; obtain ⟨⟨s1, s2⟩, ⟨t0, t1, t2, t3, t4, t5⟩, p0, p1, p2, p3, p4, p5⟩ := hS; first | (go_simp; done) | (go_simp; rfl))); (try simp only [PU])
                refine perm_e rfl ?_
                go_wp2_with (go_at_call 20; go_must (refine (Hrun.out _ (HKw.out.then (Keeps.refl Nob wr).drew)).mono ?_; rintro e w4 ⟨rfl, hk4⟩))
                have HK4 := Lib.hid hk4
                clear hk4
                (try simp only [PU])
                refine ⟨⟨⟨HK4.out.cell (w := wr.drew) c1 id, HK4.out.cell (w := wr.drew) c2 id⟩, ⟨HK4.out.cell (w := wr.drew) e0 id, HK4.out.cell (w := wr.drew) e1 id, HK4.out.cell (w := wr.drew) e2 id, HK4.out.cell (w := wr.drew) e3 id, HK4.out.cell (w := wr.drew) e4 id, HK4.out.cell (w := wr.drew) e5 id⟩, HK4.out.cell (w := wr.drew) f0 id, HK4.out.cell (w := wr.drew) f1 id, HK4.out.cell (w := wr.drew) f2 id, HK4.out.cell (w := wr.drew) f3 id, HK4.out.cell (w := wr.drew) f4 id, HK4.out.cell (w := wr.drew) f5 id⟩, ?_⟩
                refine perm_q (v := ?v4_11) (some 86) rfl rfl rfl ?q4_11 ?h4_11; (case q4_11 => (intro w' hS; obtain ⟨⟨s1, s2⟩, ⟨t0, t1, t2, t3, t4, t5⟩, p0, p1, p2, p3, p4, p5⟩ := hS; first | (go_simp; done) | (go_simp; rfl))); (try simp only [PU])
                refine perm_nil ?_
                go_wp2
                go_roundw
                case rel =>
                  refine ⟨m + 1, by go_num, by omega, Lib.hid (HKm.out.trans ((Keeps.refl Nob wr).drew.trans HK4.out (fun _ _ h => h)) (fun _ _ h => h)), Lib.hid (fun i hi => ?_)⟩
                  by_cases e : i = m
                  · rw [e]; exact Hfj.out
                  · exact HG.out i (by omega)
                case measure => simp [intOf]; omega
            · have hm' : m = nv := by omega
              subst hm'
              go_wp2
              go_ret
              refine ⟨?_, HK3.out.trans HKm.out (fun _ _ h => h)⟩
              have hfl := (sameL_get vs vs' (by rw [Hnv.out.1, Hnv.out.2])).2 (fun i hi => HG.out i (by rw [← Hnv.out.1]; exact hi))
              rw [HRv.out] at hfl
              rw [hfl]; rfl
end Go.Proofs.WV

/-
  The program's reader in memory: its place; fail, next, is, digit. Condition: the text is not longer than a million bytes.
-/
namespace Go.Proofs.WV
open Go.RowKit Go.Proofs.KL Go.Proofs.WM
set_option maxRecDepth 100000
set_option linter.unusedSimpArgs false
set_option linter.unusedVariables false

/-- The reader (block r) over T: s is left. -/
structure Rd (w : World) (r : Nat) (T : ByteArray) (s : Bs) : Prop where
  blk : w.heap[r]? = some (.cells #[.string T, .int .i64 (T.size - s.length : Nat)] 80 (0, 0))
  suf : ∃ p, bl T = p ++ s
  len : T.size ≤ 1000000
theorem Rd.lt {w : World} {r : Nat} {T : ByteArray} {s : Bs} (h : Rd w r T s) : r < w.heap.size := blk_lt h.blk
theorem Rd.keep {M : Nat → Prop} {w w' : World} {r : Nat} {T : ByteArray} {s : Bs} (h : Rd w r T s) (hk : Keeps M w w') (hn : ¬ M r) : Rd w' r T s := ⟨hk.blk h.blk hn, h.suf, h.len⟩
theorem Rd.le {w : World} {r : Nat} {T : ByteArray} {s : Bs} (h : Rd w r T s) : s.length ≤ T.size := by
  obtain ⟨p, hp⟩ := h.suf
  have := congrArg List.length hp
  rw [bl_len, List.length_append] at this
  omega
/-- One byte at least is left. -/
theorem Rd.cons {w : World} {r : Nat} {T : ByteArray} {c : UInt8} {q : Bs} (h : Rd w r T (c :: q)) :
    ∃ (a : Nat) (ha : a < T.size), (w.heap[r]? = some (.cells #[.string T, .int .i64 (a : Nat)] 80 (0, 0)) ∧ ((T[a].toNat : Nat) : Int) = (c.toNat : Int)) ∧ T.size ≤ 1000000 ∧ a + (q.length + 1) = T.size ∧
      ∀ w', w'.heap[r]? = some (.cells #[.string T, .int .i64 ((a : Int) + 1)] 80 (0, 0)) → Rd w' r T q := by
  have hl := h.le
  obtain ⟨p, hp⟩ := h.suf
  have hlen := congrArg List.length hp
  rw [bl_len, List.length_append, List.length_cons] at hlen
  simp only [List.length_cons] at hl
  have ha : T.size - (q.length + 1) < T.size := by omega
  have hpa : T.size - (q.length + 1) = p.length := by omega
  have hb := h.blk
  rw [List.length_cons] at hb
  refine ⟨T.size - (q.length + 1), ha, ⟨hb, ?_⟩, h.len, by omega, fun w' hw => ⟨?_, ⟨p ++ [c], by rw [hp]; simp⟩, h.len⟩⟩
  · have hg : T[T.size - (q.length + 1)] = c := by
      have h1 : (bl T)[p.length]? = some c := by rw [hp]; simp
      have h2 : (bl T)[T.size - (q.length + 1)]? = some c := by rw [hpa]; exact h1
      have h3 : (bl T)[T.size - (q.length + 1)]? = some T[T.size - (q.length + 1)] := by
        rw [List.getElem?_eq_getElem (by rw [bl_len]; exact ha)]
        rfl
      rw [h3] at h2
      exact Option.some.inj h2
    rw [hg]
  · rw [hw, show T.size - q.length = T.size - (q.length + 1) + 1 by omega]
    rfl
/-- Nothing is left. -/
theorem Rd.nil {w : World} {r : Nat} {T : ByteArray} (h : Rd w r T []) : w.heap[r]? = some (.cells #[.string T, .int .i64 (T.size : Nat)] 80 (0, 0)) := h.blk
/-- The first byte; 0 at the end. -/
def headN : Bs → Int
  | [] => 0
  | c :: _ => c.toNat
theorem headN_lt (s : Bs) : 0 ≤ headN s ∧ headN s ≤ 255 := by
  cases s with
  | nil => simp [headN]
  | cons c q => have := c.toNat_lt; simp only [headN]; omega
def stopAt (T : ByteArray) (n : Nat) : Ending := .panicked [{ v := .iface 76 (.int .i64 (T.size - n : Nat)), recovered := false }]
theorem infoS3 : ∃ i, Tryd.prog.info? 3 = some i ∧ i.size = 1 := by
  have h : (Tryd.prog.info? 3).map (·.size) = some 1 := by kernel_rfl
  obtain ⟨i, hi, hs⟩ := Option.map_eq_some_iff.1 h
  exact ⟨i, hi, hs⟩
set_option maxHeartbeats 1000000 in
/-- fail. -/
theorem fail47 {w : World} {r : Nat} {T : ByteArray} {s : Bs} (h : Rd w r T s) (n : Nat) (hn : n ≤ T.size) : Calls Tryd.prog 47 #[.pointer (some ⟨r, 0, none⟩), .int .i64 (T.size - n : Nat)] w fun e w' => e = stopAt T n ∧ w' = w := by
  obtain ⟨a, ha⟩ : ∃ a, T.size - n = a := ⟨_, rfl⟩
  unfold stopAt
  rw [ha]
  have hle : a ≤ T.size := by omega
  have hT := h.len
  have c0 := (blk_cell h.blk 0).trans rfl
  clear h ha hn
  have hmin : (if (T.size : Int) < (a : Int) then (T.size : Int) else (a : Int)) = (a : Int) := by rw [if_neg (by omega)]
  have hmin2 : min (a : Int) (T.size : Int) = (a : Int) := by omega
  go_enter Tryd.func47, Tryd.ntmps47
  go_wp2
  first
  | exact ⟨rfl, rfl⟩
  | exact ⟨rfl, rfl, rfl⟩
set_option maxHeartbeats 1000000 in
/-- next. -/
theorem next73 {w : World} {r : Nat} {T : ByteArray} {s : Bs} (h : Rd w r T s) : Calls Tryd.prog 73 #[.pointer (some ⟨r, 0, none⟩)] w fun e w' => e = .returned (.int .u8 (headN s)) ∧ Keeps Nob w w' := by
  cases s with
  | nil =>
    have hT := h.len
    have c0 := (blk_cell h.nil 0).trans rfl
    have c1 := (blk_cell h.nil 1).trans rfl
    clear h
    go_enter Tryd.func73, Tryd.ntmps73
    go_wp2_with fail
    refine wp_region_perm [(0, true), (1, true), (2, true), (3, true), (4, true), (5, true), (6, true), (7, true), (8, true), (9, true)] (fun w' => w'.cell? ⟨r, 0, none⟩ = some (.string T) ∧ w'.cell? ⟨r, 1, none⟩ = some (.int .i64 T.size)) rfl (by kernel_rfl) (by kernel_rfl) (by decide) (fun c a d v w h => by cases d <;> exact h) ⟨c0, c1⟩ ?_
    refine perm_q (v := ?v1_0) (some 3) rfl rfl rfl ?q1_0 ?h1_0; (case q1_0 => (intro w' hS; obtain ⟨s1, s2⟩ := hS; first | (go_simp; done) | (go_simp; rfl))); (try simp only [PU])
    refine perm_q (v := ?v1_1) (some 4) rfl rfl rfl ?q1_1 ?h1_1; (case q1_1 => (intro w' hS; obtain ⟨s1, s2⟩ := hS; first | (go_simp; done) | (go_simp; rfl))); (try simp only [PU])
    refine perm_q (v := ?v1_2) (some 5) rfl rfl rfl ?q1_2 ?h1_2; (case q1_2 => (intro w' hS; obtain ⟨s1, s2⟩ := hS; first | (go_simp; done) | (go_simp; rfl))); (try simp only [PU])
    refine perm_q (v := ?v1_3) (some 6) rfl rfl rfl ?q1_3 ?h1_3; (case q1_3 => (intro w' hS; obtain ⟨s1, s2⟩ := hS; first | (go_simp; done) | (go_simp; rfl))); (try simp only [PU])
    refine perm_q (v := ?v1_4) (some 7) rfl rfl rfl ?q1_4 ?h1_4; (case q1_4 => (intro w' hS; obtain ⟨s1, s2⟩ := hS; first | (go_simp; done) | (go_simp; rfl))); (try simp only [PU])
    refine perm_q (v := ?v1_5) (some 8) rfl rfl rfl ?q1_5 ?h1_5; (case q1_5 => (intro w' hS; obtain ⟨s1, s2⟩ := hS; first | (go_simp; done) | (go_simp; rfl))); (try simp only [PU])
    refine perm_q (v := ?v1_6) (some 9) rfl rfl rfl ?q1_6 ?h1_6; (case q1_6 => (intro w' hS; obtain ⟨s1, s2⟩ := hS; first | (go_simp; done) | (go_simp; rfl))); (try simp only [PU])
    refine perm_q (v := ?v1_7) (some 10) rfl rfl rfl ?q1_7 ?h1_7; (case q1_7 => (intro w' hS; obtain ⟨s1, s2⟩ := hS; first | (go_simp; done) | (go_simp; rfl))); (try simp only [PU])
    refine perm_q (v := ?v1_8) (some 11) rfl rfl rfl ?q1_8 ?h1_8; (case q1_8 => (intro w' hS; obtain ⟨s1, s2⟩ := hS; first | (go_simp; done) | (go_simp; rfl))); (try simp only [PU])
    refine perm_q (v := ?v1_9) (some 12) rfl rfl rfl ?q1_9 ?h1_9; (case q1_9 => (intro w' hS; obtain ⟨s1, s2⟩ := hS; first | (go_simp; done) | (go_simp; rfl))); (try simp only [PU])
    refine perm_nil ?_
    go_wp2
    go_ret
    exact ⟨rfl, (Keeps.refl Nob w).drew⟩
  | cons c q =>
    obtain ⟨a, ha, ⟨hb, hc⟩, hT, -, -⟩ := h.cons
    have c0 := (blk_cell hb 0).trans rfl
    have c1 := (blk_cell hb 1).trans rfl
    show Calls _ _ _ _ fun e w' => e = .returned (.int .u8 (c.toNat : Int)) ∧ _
    generalize (c.toNat : Int) = cv at *
    clear h hb
    go_enter Tryd.func73, Tryd.ntmps73
    go_wp2_with fail
    refine wp_region_perm [(0, true), (1, true), (2, true), (3, true), (4, true), (5, true), (6, true), (7, true), (8, true), (9, true)] (fun w' => w'.cell? ⟨r, 0, none⟩ = some (.string T) ∧ w'.cell? ⟨r, 1, none⟩ = some (.int .i64 a)) rfl (by kernel_rfl) (by kernel_rfl) (by decide) (fun c a d v w h => by cases d <;> exact h) ⟨c0, c1⟩ ?_
    refine perm_q (v := ?v2_0) (some 3) rfl rfl rfl ?q2_0 ?h2_0; (case q2_0 => (intro w' hS; obtain ⟨s1, s2⟩ := hS; first | (go_simp; done) | (go_simp; rfl))); (try simp only [PU])
    refine perm_q (v := ?v2_1) (some 4) rfl rfl rfl ?q2_1 ?h2_1; (case q2_1 => (intro w' hS; obtain ⟨s1, s2⟩ := hS; first | (go_simp; done) | (go_simp; rfl))); (try simp only [PU])
    refine perm_q (v := ?v2_2) (some 5) rfl rfl rfl ?q2_2 ?h2_2; (case q2_2 => (intro w' hS; obtain ⟨s1, s2⟩ := hS; first | (go_simp; done) | (go_simp; rfl))); (try simp only [PU])
    refine perm_q (v := ?v2_3) (some 6) rfl rfl rfl ?q2_3 ?h2_3; (case q2_3 => (intro w' hS; obtain ⟨s1, s2⟩ := hS; first | (go_simp; done) | (go_simp; rfl))); (try simp only [PU])
    refine perm_q (v := ?v2_4) (some 7) rfl rfl rfl ?q2_4 ?h2_4; (case q2_4 => (intro w' hS; obtain ⟨s1, s2⟩ := hS; first | (go_simp; done) | (go_simp; rfl))); (try simp only [PU])
    refine perm_q (v := ?v2_5) (some 8) rfl rfl rfl ?q2_5 ?h2_5; (case q2_5 => (intro w' hS; obtain ⟨s1, s2⟩ := hS; first | (go_simp; done) | (go_simp; rfl))); (try simp only [PU])
    refine perm_q (v := ?v2_6) (some 9) rfl rfl rfl ?q2_6 ?h2_6; (case q2_6 => (intro w' hS; obtain ⟨s1, s2⟩ := hS; first | (go_simp; done) | (go_simp; rfl))); (try simp only [PU])
    refine perm_q (v := ?v2_7) (some 10) rfl rfl rfl ?q2_7 ?h2_7; (case q2_7 => (intro w' hS; obtain ⟨s1, s2⟩ := hS; first | (go_simp; done) | (go_simp; rfl))); (try simp only [PU])
    refine perm_q (v := ?v2_8) (some 11) rfl rfl rfl ?q2_8 ?h2_8; (case q2_8 => (intro w' hS; obtain ⟨s1, s2⟩ := hS; first | (go_simp; done) | (go_simp; rfl))); (try simp only [PU])
    refine perm_q (v := ?v2_9) (some 12) rfl rfl rfl ?q2_9 ?h2_9; (case q2_9 => (intro w' hS; obtain ⟨s1, s2⟩ := hS; first | (go_simp; done) | (go_simp; rfl))); (try simp only [PU])
    refine perm_nil ?_
    go_wp2_with fail
    refine wp_region_perm [(0, true), (1, true), (2, true), (3, true), (4, true), (5, true), (6, true), (7, true), (8, true), (9, true)] (fun w' => w'.cell? ⟨r, 0, none⟩ = some (.string T) ∧ w'.cell? ⟨r, 1, none⟩ = some (.int .i64 a)) rfl (by kernel_rfl) (by kernel_rfl) (by decide) (fun c a d v w h => by cases d <;> exact h) ⟨c0, c1⟩ ?_
    refine perm_q (v := ?v3_0) (some 13) rfl rfl rfl ?q3_0 ?h3_0; (case q3_0 => (intro w' hS; obtain ⟨s1, s2⟩ := hS; first | (go_simp; done) | (go_simp; rfl))); (try simp only [PU])
    refine perm_q (v := ?v3_1) (some 14) rfl rfl rfl ?q3_1 ?h3_1; (case q3_1 => (intro w' hS; obtain ⟨s1, s2⟩ := hS; first | (go_simp; done) | (go_simp; rfl))); (try simp only [PU])
    refine perm_q (v := ?v3_2) (some 15) rfl rfl rfl ?q3_2 ?h3_2; (case q3_2 => (intro w' hS; obtain ⟨s1, s2⟩ := hS; first | (go_simp; done) | (go_simp; rfl))); (try simp only [PU])
    refine perm_q (v := ?v3_3) (some 16) rfl rfl rfl ?q3_3 ?h3_3; (case q3_3 => (intro w' hS; obtain ⟨s1, s2⟩ := hS; first | (go_simp; done) | (go_simp; rfl))); (try simp only [PU])
    refine perm_q (v := ?v3_4) (some 17) rfl rfl rfl ?q3_4 ?h3_4; (case q3_4 => (intro w' hS; obtain ⟨s1, s2⟩ := hS; first | (go_simp; done) | (go_simp; rfl))); (try simp only [PU])
    refine perm_q (v := ?v3_5) (some 18) rfl rfl rfl ?q3_5 ?h3_5; (case q3_5 => (intro w' hS; obtain ⟨s1, s2⟩ := hS; first | (go_simp; done) | (go_simp; rfl))); (try simp only [PU])
    refine perm_q (v := ?v3_6) (some 19) rfl rfl rfl ?q3_6 ?h3_6; (case q3_6 => (intro w' hS; obtain ⟨s1, s2⟩ := hS; first | (go_simp; done) | (go_simp; rfl))); (try simp only [PU])
    refine perm_q (v := ?v3_7) (some 20) rfl rfl rfl ?q3_7 ?h3_7; (case q3_7 => (intro w' hS; obtain ⟨s1, s2⟩ := hS; first | (go_simp; done) | (go_simp; rfl))); (try simp only [PU])
    refine perm_q (v := ?v3_8) (some 21) rfl rfl rfl ?q3_8 ?h3_8; (case q3_8 => (intro w' hS; obtain ⟨s1, s2⟩ := hS; first | (go_simp; done) | (go_simp; rfl))); (try simp only [PU])
    refine perm_q (v := ?v3_9) (some 2) rfl rfl rfl ?q3_9 ?h3_9; (case q3_9 => (intro w' hS; obtain ⟨s1, s2⟩ := hS; first | (go_simp; done) | (go_simp; rfl))); (try simp only [PU])
    refine perm_nil ?_
    go_wp2
    go_ret
    exact ⟨rfl, ((Keeps.refl Nob w).drew).then (Keeps.refl Nob w.drew).drew⟩
/-- Is it this byte? then go on behind it. -/
def isB (c0 : UInt8) : Bs → Bool × Bs
  | [] => (false, [])
  | c :: q => if c = c0 then (true, q) else (false, c :: q)
theorem isB_at (c0 : UInt8) (q : Bs) : isB c0 (c0 :: q) = (true, q) := by simp [isB]
theorem isB_ne {c c0 : UInt8} (h : ¬ c = c0) (q : Bs) : isB c0 (c :: q) = (false, c :: q) := by simp [isB, h]
def IsOut (w : World) (r : Nat) (T : ByteArray) (x : Bool × Bs) (e : Ending) (w' : World) : Prop := e = .returned (.bool x.1) ∧ Rd w' r T x.2 ∧ Keeps (· = r) w w'
set_option maxHeartbeats 2000000 in
/-- is. -/
theorem is101 {w : World} {r : Nat} {T : ByteArray} {s : Bs} (h : Rd w r T s) (c0 : UInt8) (v0 : Int) (hv0 : v0 = (c0.toNat : Int)) : Calls Tryd.prog 101 #[.pointer (some ⟨r, 0, none⟩), .int .u8 v0] w (IsOut w r T (isB c0 s)) := by
  obtain ⟨i3, hi3, hs3⟩ := infoS3
  have HI := Lib.hid (And.intro hi3 hs3)
  clear hi3 hs3
  cases s with
  | nil =>
    have hT := h.len
    have c0' := (blk_cell h.nil 0).trans rfl
    have c1' := (blk_cell h.nil 1).trans rfl
    have H := Lib.hid h
    clear h hv0
    go_enter Tryd.func101, Tryd.ntmps101
    go_wp2_with fail
    refine wp_region_perm [(0, true), (1, true), (2, true), (3, true), (4, true), (5, true), (6, true), (7, true), (8, true), (9, true), (10, true), (11, true), (12, true), (13, true), (14, true), (15, true), (16, true), (17, true), (18, true), (19, true), (20, true), (21, true), (22, true)] (fun w' => w'.cell? ⟨r, 0, none⟩ = some (.string T) ∧ w'.cell? ⟨r, 1, none⟩ = some (.int .i64 T.size)) rfl (by kernel_rfl) (by kernel_rfl) (by decide) (fun c a d v w h => by cases d <;> exact h) ⟨c0', c1'⟩ ?_
    refine perm_q (v := ?v4_0) (some 5) rfl rfl rfl ?q4_0 ?h4_0; (case q4_0 => (intro w' hS; obtain ⟨s1, s2⟩ := hS; first | (go_simp; done) | (go_simp; rfl))); (try simp only [PU])
    refine perm_q (v := ?v4_1) (some 6) rfl rfl rfl ?q4_1 ?h4_1; (case q4_1 => (intro w' hS; obtain ⟨s1, s2⟩ := hS; first | (go_simp; done) | (go_simp; rfl))); (try simp only [PU])
    refine perm_q (v := ?v4_2) (some 7) rfl rfl rfl ?q4_2 ?h4_2; (case q4_2 => (intro w' hS; obtain ⟨s1, s2⟩ := hS; first | (go_simp; done) | (go_simp; rfl))); (try simp only [PU])
    refine perm_q (v := ?v4_3) (some 8) rfl rfl rfl ?q4_3 ?h4_3; (case q4_3 => (intro w' hS; obtain ⟨s1, s2⟩ := hS; first | (go_simp; done) | (go_simp; rfl))); (try simp only [PU])
    refine perm_q (v := ?v4_4) (some 9) rfl rfl rfl ?q4_4 ?h4_4; (case q4_4 => (intro w' hS; obtain ⟨s1, s2⟩ := hS; first | (go_simp; done) | (go_simp; rfl))); (try simp only [PU])
    refine perm_q (v := ?v4_5) (some 10) rfl rfl rfl ?q4_5 ?h4_5; (case q4_5 => (intro w' hS; obtain ⟨s1, s2⟩ := hS; first | (go_simp; done) | (go_simp; rfl))); (try simp only [PU])
    refine perm_q (v := ?v4_6) (some 11) rfl rfl rfl ?q4_6 ?h4_6; (case q4_6 => (intro w' hS; obtain ⟨s1, s2⟩ := hS; first | (go_simp; done) | (go_simp; rfl))); (try simp only [PU])
    refine perm_q (v := ?v4_7) (some 12) rfl rfl rfl ?q4_7 ?h4_7; (case q4_7 => (intro w' hS; obtain ⟨s1, s2⟩ := hS; first | (go_simp; done) | (go_simp; rfl))); (try simp only [PU])
    refine perm_q (v := ?v4_8) (some 13) rfl rfl rfl ?q4_8 ?h4_8; (case q4_8 => (intro w' hS; obtain ⟨s1, s2⟩ := hS; first | (go_simp; done) | (go_simp; rfl))); (try simp only [PU])
    refine perm_q (v := ?v4_9) (some 14) rfl rfl rfl ?q4_9 ?h4_9; (case q4_9 => (intro w' hS; obtain ⟨s1, s2⟩ := hS; first | (go_simp; done) | (go_simp; rfl))); (try simp only [PU])
    refine perm_q (v := ?v4_10) (some 15) rfl rfl rfl ?q4_10 ?h4_10; (case q4_10 => (intro w' hS; obtain ⟨s1, s2⟩ := hS; first | (go_simp; done) | (go_simp; rfl))); (try simp only [PU])
    refine perm_skip (some 16) rfl rfl rfl ?_; (try simp only [PU])
    refine perm_skip (some 17) rfl rfl rfl ?_; (try simp only [PU])
    refine perm_skip (some 18) rfl rfl rfl ?_; (try simp only [PU])
    refine perm_skip (some 19) rfl rfl rfl ?_; (try simp only [PU])
    refine perm_skip (some 20) rfl rfl rfl ?_; (try simp only [PU])
    refine perm_skip (some 21) rfl rfl rfl ?_; (try simp only [PU])
    refine perm_skip (some 22) rfl rfl rfl ?_; (try simp only [PU])
    refine perm_skip (some 23) rfl rfl rfl ?_; (try simp only [PU])
    refine perm_skip (some 24) rfl rfl rfl ?_; (try simp only [PU])
    refine perm_skip (some 25) rfl rfl rfl ?_; (try simp only [PU])
    refine perm_skip (some 26) rfl rfl rfl ?_; (try simp only [PU])
    refine perm_q (v := ?v4_22) (some 27) rfl rfl rfl ?q4_22 ?h4_22; (case q4_22 => (intro w' hS; obtain ⟨s1, s2⟩ := hS; first | (go_simp; done) | (go_simp; rfl))); (try simp only [PU])
    refine perm_nil ?_
    go_wp2
    go_ret
    exact ⟨rfl, H.out.keep (Keeps.refl Nob w).drew id, (Keeps.refl _ w).drew⟩
  | cons c q =>
    obtain ⟨a, ha, ⟨hb, hc⟩, hT, -, hn⟩ := h.cons
    have c0' := (blk_cell hb 0).trans rfl
    have c1' := (blk_cell hb 1).trans rfl
    have H := Lib.hid h
    have Hn := Lib.hid hn
    have Hb := Lib.hid hb
    have hai : (a : Int) < (T.size : Int) := by omega
    clear h hb hn
    by_cases he : c = c0
    · subst he
      rw [isB_at]
      subst hv0
      generalize (c.toNat : Int) = cv at *
      go_enter Tryd.func101, Tryd.ntmps101
      go_wp2_with fail
      refine wp_region_perm [(0, true), (1, true), (2, true), (3, true), (4, true), (5, true), (6, true), (7, true), (8, true), (9, true), (10, true), (11, true), (12, true), (13, true), (14, true), (15, true), (16, true), (17, true), (18, true), (19, true), (20, true), (21, true), (22, true)] (fun w' => w'.cell? ⟨r, 0, none⟩ = some (.string T) ∧ w'.cell? ⟨r, 1, none⟩ = some (.int .i64 a)) rfl (by kernel_rfl) (by kernel_rfl) (by decide) (fun c a d v w h => by cases d <;> exact h) ⟨c0', c1'⟩ ?_
      refine perm_q (v := ?v5_0) (some 5) rfl rfl rfl ?q5_0 ?h5_0; (case q5_0 => (intro w' hS; obtain ⟨s1, s2⟩ := hS; first | (go_simp; done) | (go_simp; rfl))); (try simp only [PU])
      refine perm_q (v := ?v5_1) (some 6) rfl rfl rfl ?q5_1 ?h5_1; (case q5_1 => (intro w' hS; obtain ⟨s1, s2⟩ := hS; first | (go_simp; done) | (go_simp; rfl))); (try simp only [PU])
      refine perm_q (v := ?v5_2) (some 7) rfl rfl rfl ?q5_2 ?h5_2; (case q5_2 => (intro w' hS; obtain ⟨s1, s2⟩ := hS; first | (go_simp; done) | (go_simp; rfl))); (try simp only [PU])
      refine perm_q (v := ?v5_3) (some 8) rfl rfl rfl ?q5_3 ?h5_3; (case q5_3 => (intro w' hS; obtain ⟨s1, s2⟩ := hS; first | (go_simp; done) | (go_simp; rfl))); (try simp only [PU])
      refine perm_q (v := ?v5_4) (some 9) rfl rfl rfl ?q5_4 ?h5_4; (case q5_4 => (intro w' hS; obtain ⟨s1, s2⟩ := hS; first | (go_simp; done) | (go_simp; rfl))); (try simp only [PU])
      refine perm_q (v := ?v5_5) (some 10) rfl rfl rfl ?q5_5 ?h5_5; (case q5_5 => (intro w' hS; obtain ⟨s1, s2⟩ := hS; first | (go_simp; done) | (go_simp; rfl))); (try simp only [PU])
      refine perm_q (v := ?v5_6) (some 11) rfl rfl rfl ?q5_6 ?h5_6; (case q5_6 => (intro w' hS; obtain ⟨s1, s2⟩ := hS; first | (go_simp; done) | (go_simp; rfl))); (try simp only [PU])
      refine perm_q (v := ?v5_7) (some 12) rfl rfl rfl ?q5_7 ?h5_7; (case q5_7 => (intro w' hS; obtain ⟨s1, s2⟩ := hS; first | (go_simp; done) | (go_simp; rfl))); (try simp only [PU])
      refine perm_q (v := ?v5_8) (some 13) rfl rfl rfl ?q5_8 ?h5_8; (case q5_8 => (intro w' hS; obtain ⟨s1, s2⟩ := hS; first | (go_simp; done) | (go_simp; rfl))); (try simp only [PU])
      refine perm_q (v := ?v5_9) (some 14) rfl rfl rfl ?q5_9 ?h5_9; (case q5_9 => (intro w' hS; obtain ⟨s1, s2⟩ := hS; first | (go_simp; done) | (go_simp; rfl))); (try simp only [PU])
      refine perm_q (v := ?v5_10) (some 15) rfl rfl rfl ?q5_10 ?h5_10; (case q5_10 => (intro w' hS; obtain ⟨s1, s2⟩ := hS; first | (go_simp; done) | (go_simp; rfl))); (try simp only [PU])
      refine perm_q (v := ?v5_11) (some 16) rfl rfl rfl ?q5_11 ?h5_11; (case q5_11 => (intro w' hS; obtain ⟨s1, s2⟩ := hS; first | (go_simp; done) | (go_simp; rfl))); (try simp only [PU])
      refine perm_q (v := ?v5_12) (some 17) rfl rfl rfl ?q5_12 ?h5_12; (case q5_12 => (intro w' hS; obtain ⟨s1, s2⟩ := hS; first | (go_simp; done) | (go_simp; rfl))); (try simp only [PU])
      refine perm_q (v := ?v5_13) (some 18) rfl rfl rfl ?q5_13 ?h5_13; (case q5_13 => (intro w' hS; obtain ⟨s1, s2⟩ := hS; first | (go_simp; done) | (go_simp; rfl))); (try simp only [PU])
      refine perm_q (v := ?v5_14) (some 19) rfl rfl rfl ?q5_14 ?h5_14; (case q5_14 => (intro w' hS; obtain ⟨s1, s2⟩ := hS; first | (go_simp; done) | (go_simp; rfl))); (try simp only [PU])
      refine perm_q (v := ?v5_15) (some 20) rfl rfl rfl ?q5_15 ?h5_15; (case q5_15 => (intro w' hS; obtain ⟨s1, s2⟩ := hS; first | (go_simp; done) | (go_simp; rfl))); (try simp only [PU])
      refine perm_q (v := ?v5_16) (some 21) rfl rfl rfl ?q5_16 ?h5_16; (case q5_16 => (intro w' hS; obtain ⟨s1, s2⟩ := hS; first | (go_simp; done) | (go_simp; rfl))); (try simp only [PU])
      refine perm_q (v := ?v5_17) (some 22) rfl rfl rfl ?q5_17 ?h5_17; (case q5_17 => (intro w' hS; obtain ⟨s1, s2⟩ := hS; first | (go_simp; done) | (go_simp; rfl))); (try simp only [PU])
      refine perm_q (v := ?v5_18) (some 23) rfl rfl rfl ?q5_18 ?h5_18; (case q5_18 => (intro w' hS; obtain ⟨s1, s2⟩ := hS; first | (go_simp; done) | (go_simp; rfl))); (try simp only [PU])
      refine perm_q (v := ?v5_19) (some 24) rfl rfl rfl ?q5_19 ?h5_19; (case q5_19 => (intro w' hS; obtain ⟨s1, s2⟩ := hS; first | (go_simp; done) | (go_simp; rfl))); (try simp only [PU])
      refine perm_q (v := ?v5_20) (some 25) rfl rfl rfl ?q5_20 ?h5_20; (case q5_20 => (intro w' hS; obtain ⟨s1, s2⟩ := hS; first | (go_simp; done) | (go_simp; rfl))); (try simp only [PU])
      refine perm_q (v := ?v5_21) (some 26) rfl rfl rfl ?q5_21 ?h5_21; (case q5_21 => (intro w' hS; obtain ⟨s1, s2⟩ := hS; first | (go_simp; done) | (go_simp; rfl))); (try simp only [PU])
      refine perm_q (v := ?v5_22) (some 27) rfl rfl rfl ?q5_22 ?h5_22; (case q5_22 => (intro w' hS; obtain ⟨s1, s2⟩ := hS; first | (go_simp; done) | (go_simp; rfl))); (try simp only [PU])
      refine perm_nil ?_
      go_wp2_with ((with_reducible refine at_store (t := 3) rfl ?_); go_must (refine ev_store (W := w.drew) (cs' := #[.string T, .int .i64 ((a : Int) + 1)]) rfl rfl rfl rfl rfl rfl HI.out.1 HI.out.2 rfl Hb.out (Nat.le_of_ble_eq_true rfl) rfl ?_; intro w1 hb1 hk1); have Hb1 := Lib.hid hb1; have HK1 := Lib.hid hk1; clear hb1 hk1; (try simp only [PU]))
      go_ret
      exact ⟨rfl, Hn.out w1 Hb1.out, (Keeps.refl _ w).drew.trans HK1.out (fun _ _ h => h)⟩
    · rw [isB_ne he]
      have hne : ((c.toNat : Int) == v0) = false := by
        subst hv0
        exact beq_eq_false_iff_ne.2 (fun e => he (UInt8.toNat_inj.1 (by omega)))
      generalize (c.toNat : Int) = cv at *
      clear hv0
      go_enter Tryd.func101, Tryd.ntmps101
      go_wp2_with fail
      refine wp_region_perm [(0, true), (1, true), (2, true), (3, true), (4, true), (5, true), (6, true), (7, true), (8, true), (9, true), (10, true), (11, true), (12, true), (13, true), (14, true), (15, true), (16, true), (17, true), (18, true), (19, true), (20, true), (21, true), (22, true)] (fun w' => w'.cell? ⟨r, 0, none⟩ = some (.string T) ∧ w'.cell? ⟨r, 1, none⟩ = some (.int .i64 a)) rfl (by kernel_rfl) (by kernel_rfl) (by decide) (fun c a d v w h => by cases d <;> exact h) ⟨c0', c1'⟩ ?_
      refine perm_q (v := ?v6_0) (some 5) rfl rfl rfl ?q6_0 ?h6_0; (case q6_0 => (intro w' hS; obtain ⟨s1, s2⟩ := hS; first | (go_simp; done) | (go_simp; rfl))); (try simp only [PU])
      refine perm_q (v := ?v6_1) (some 6) rfl rfl rfl ?q6_1 ?h6_1; (case q6_1 => (intro w' hS; obtain ⟨s1, s2⟩ := hS; first | (go_simp; done) | (go_simp; rfl))); (try simp only [PU])
      refine perm_q (v := ?v6_2) (some 7) rfl rfl rfl ?q6_2 ?h6_2; (case q6_2 => (intro w' hS; obtain ⟨s1, s2⟩ := hS; first | (go_simp; done) | (go_simp; rfl))); (try simp only [PU])
      refine perm_q (v := ?v6_3) (some 8) rfl rfl rfl ?q6_3 ?h6_3; (case q6_3 => (intro w' hS; obtain ⟨s1, s2⟩ := hS; first | (go_simp; done) | (go_simp; rfl))); (try simp only [PU])
      refine perm_q (v := ?v6_4) (some 9) rfl rfl rfl ?q6_4 ?h6_4; (case q6_4 => (intro w' hS; obtain ⟨s1, s2⟩ := hS; first | (go_simp; done) | (go_simp; rfl))); (try simp only [PU])
      refine perm_q (v := ?v6_5) (some 10) rfl rfl rfl ?q6_5 ?h6_5; (case q6_5 => (intro w' hS; obtain ⟨s1, s2⟩ := hS; first | (go_simp; done) | (go_simp; rfl))); (try simp only [PU])
      refine perm_q (v := ?v6_6) (some 11) rfl rfl rfl ?q6_6 ?h6_6; (case q6_6 => (intro w' hS; obtain ⟨s1, s2⟩ := hS; first | (go_simp; done) | (go_simp; rfl))); (try simp only [PU])
      refine perm_q (v := ?v6_7) (some 12) rfl rfl rfl ?q6_7 ?h6_7; (case q6_7 => (intro w' hS; obtain ⟨s1, s2⟩ := hS; first | (go_simp; done) | (go_simp; rfl))); (try simp only [PU])
      refine perm_q (v := ?v6_8) (some 13) rfl rfl rfl ?q6_8 ?h6_8; (case q6_8 => (intro w' hS; obtain ⟨s1, s2⟩ := hS; first | (go_simp; done) | (go_simp; rfl))); (try simp only [PU])
      refine perm_q (v := ?v6_9) (some 14) rfl rfl rfl ?q6_9 ?h6_9; (case q6_9 => (intro w' hS; obtain ⟨s1, s2⟩ := hS; first | (go_simp; done) | (go_simp; rfl))); (try simp only [PU])
      refine perm_q (v := ?v6_10) (some 15) rfl rfl rfl ?q6_10 ?h6_10; (case q6_10 => (intro w' hS; obtain ⟨s1, s2⟩ := hS; first | (go_simp; done) | (go_simp; rfl))); (try simp only [PU])
      refine perm_q (v := ?v6_11) (some 16) rfl rfl rfl ?q6_11 ?h6_11; (case q6_11 => (intro w' hS; obtain ⟨s1, s2⟩ := hS; first | (go_simp; done) | (go_simp; rfl))); (try simp only [PU])
      refine perm_q (v := ?v6_12) (some 17) rfl rfl rfl ?q6_12 ?h6_12; (case q6_12 => (intro w' hS; obtain ⟨s1, s2⟩ := hS; first | (go_simp; done) | (go_simp; rfl))); (try simp only [PU])
      refine perm_q (v := ?v6_13) (some 18) rfl rfl rfl ?q6_13 ?h6_13; (case q6_13 => (intro w' hS; obtain ⟨s1, s2⟩ := hS; first | (go_simp; done) | (go_simp; rfl))); (try simp only [PU])
      refine perm_q (v := ?v6_14) (some 19) rfl rfl rfl ?q6_14 ?h6_14; (case q6_14 => (intro w' hS; obtain ⟨s1, s2⟩ := hS; first | (go_simp; done) | (go_simp; rfl))); (try simp only [PU])
      refine perm_q (v := ?v6_15) (some 20) rfl rfl rfl ?q6_15 ?h6_15; (case q6_15 => (intro w' hS; obtain ⟨s1, s2⟩ := hS; first | (go_simp; done) | (go_simp; rfl))); (try simp only [PU])
      refine perm_q (v := ?v6_16) (some 21) rfl rfl rfl ?q6_16 ?h6_16; (case q6_16 => (intro w' hS; obtain ⟨s1, s2⟩ := hS; first | (go_simp; done) | (go_simp; rfl))); (try simp only [PU])
      refine perm_q (v := ?v6_17) (some 22) rfl rfl rfl ?q6_17 ?h6_17; (case q6_17 => (intro w' hS; obtain ⟨s1, s2⟩ := hS; first | (go_simp; done) | (go_simp; rfl))); (try simp only [PU])
      refine perm_q (v := ?v6_18) (some 23) rfl rfl rfl ?q6_18 ?h6_18; (case q6_18 => (intro w' hS; obtain ⟨s1, s2⟩ := hS; first | (go_simp; done) | (go_simp; rfl))); (try simp only [PU])
      refine perm_q (v := ?v6_19) (some 24) rfl rfl rfl ?q6_19 ?h6_19; (case q6_19 => (intro w' hS; obtain ⟨s1, s2⟩ := hS; first | (go_simp; done) | (go_simp; rfl))); (try simp only [PU])
      refine perm_q (v := ?v6_20) (some 25) rfl rfl rfl ?q6_20 ?h6_20; (case q6_20 => (intro w' hS; obtain ⟨s1, s2⟩ := hS; first | (go_simp; done) | (go_simp; rfl))); (try simp only [PU])
      refine perm_q (v := ?v6_21) (some 26) rfl rfl rfl ?q6_21 ?h6_21; (case q6_21 => (intro w' hS; obtain ⟨s1, s2⟩ := hS; first | (go_simp; done) | (go_simp; rfl))); (try simp only [PU])
      refine perm_q (v := ?v6_22) (some 27) rfl rfl rfl ?q6_22 ?h6_22; (case q6_22 => (intro w' hS; obtain ⟨s1, s2⟩ := hS; first | (go_simp; done) | (go_simp; rfl))); (try simp only [PU])
      refine perm_nil ?_
      go_wp2
      go_ret
      exact ⟨rfl, H.out.keep (Keeps.refl Nob w).drew id, (Keeps.refl _ w).drew⟩
theorem digit_head (s : Bs) : startsDigit s = (decide (48 ≤ headN s) && decide (headN s ≤ 57)) := by
  cases s with
  | nil => rfl
  | cons c q =>
    show isDigit c = _
    unfold isDigit headN
    rw [Bool.eq_iff_iff]
    simp only [Bool.and_eq_true, decide_eq_true_eq, UInt8.le_iff_toNat_le]
    have h1 : (48 : UInt8).toNat = 48 := rfl
    have h2 : (57 : UInt8).toNat = 57 := rfl
    rw [h1, h2]
    omega
set_option maxHeartbeats 1000000 in
/-- digit. -/
theorem digit76 {w : World} {r : Nat} {T : ByteArray} {s : Bs} (h : Rd w r T s) : Calls Tryd.prog 76 #[.pointer (some ⟨r, 0, none⟩)] w fun e w' => e = .returned (.bool (startsDigit s)) ∧ Keeps Nob w w' := by
  have H73 := Lib.hid (fun W (hk : Keeps Nob w W) => next73 (h.keep hk id))
  have hb := headN_lt s
  rw [digit_head]
  obtain ⟨hv, hhv⟩ : ∃ x, headN s = x := ⟨_, rfl⟩
  rw [hhv] at H73 hb ⊢
  obtain ⟨hb0, hb1⟩ := hb
  clear h hhv
  by_cases h48 : 48 ≤ hv
  · by_cases h57 : hv ≤ 57
    · go_enter Tryd.func76, Tryd.ntmps76
      have HK := Lib.hid (Keeps.refl Nob w)
      go_wp2_with (go_at_call 73; go_must (refine (H73.out _ HK.out).mono ?_; rintro e w1 ⟨rfl, hk1⟩); have HK := Lib.hid (HK.out.trans hk1 (fun _ _ h => h)); clear hk1; (try simp only [PU]))
      go_ret
      exact ⟨by simp [h48, h57], HK.out⟩
    · go_enter Tryd.func76, Tryd.ntmps76
      have HK := Lib.hid (Keeps.refl Nob w)
      go_wp2_with (go_at_call 73; go_must (refine (H73.out _ HK.out).mono ?_; rintro e w1 ⟨rfl, hk1⟩); have HK := Lib.hid (HK.out.trans hk1 (fun _ _ h => h)); clear hk1; (try simp only [PU]))
      go_ret
      exact ⟨by simp [h48, h57], HK.out⟩
  · go_enter Tryd.func76, Tryd.ntmps76
    have HK := Lib.hid (Keeps.refl Nob w)
    go_wp2_with (go_at_call 73; go_must (refine (H73.out _ HK.out).mono ?_; rintro e w1 ⟨rfl, hk1⟩); have HK := Lib.hid (HK.out.trans hk1 (fun _ _ h => h)); clear hk1; (try simp only [PU]))
    go_ret
    exact ⟨by simp; omega, HK.out⟩
theorem idxBlank (c : UInt8) : 0 ≤ Lib.indexByte [32, 9, 10, 13] c ↔ isBlank c = true := by
  by_cases h1 : c = 32
  · subst h1; decide
  by_cases h2 : c = 9
  · subst h2; decide
  by_cases h3 : c = 10
  · subst h3; decide
  by_cases h4 : c = 13
  · subst h4; decide
  have e1 : ((32 : UInt8) == c) = false := beq_eq_false_iff_ne.2 (fun e => h1 e.symm)
  have e2 : ((9 : UInt8) == c) = false := beq_eq_false_iff_ne.2 (fun e => h2 e.symm)
  have e3 : ((10 : UInt8) == c) = false := beq_eq_false_iff_ne.2 (fun e => h3 e.symm)
  have e4 : ((13 : UInt8) == c) = false := beq_eq_false_iff_ne.2 (fun e => h4 e.symm)
  simp [Lib.indexByte, isBlank, e1, e2, e3, e4, h1, h2, h3, h4]
theorem u8_back (c : UInt8) : ((c.toNat : Int)).toNat.toUInt8 = c := by
  rw [Int.toNat_natCast]
  exact UInt8.ofNat_toNat
theorem blank72 (c : UInt8) (cv : Int) (hcv : cv = (c.toNat : Int)) (w : World) : Calls Tryd.prog 72 #[.string ⟨#[32, 9, 10, 13]⟩, .int .u8 cv] w fun e w' => (∃ iv : Int, e = .returned (.int .i64 iv) ∧ (0 ≤ iv ↔ isBlank c = true)) ∧ w' = w := by
  subst hcv
  refine (Tryd.strings_IndexByte ⟨#[32, 9, 10, 13]⟩ (c.toNat : Int) w).mono ?_
  rintro e w' ⟨rfl, rfl⟩
  rw [u8_back]
  exact ⟨⟨_, rfl, idxBlank c⟩, rfl⟩
def DoneOut (w : World) (r : Nat) (T : ByteArray) (s : Bs) (e : Ending) (w' : World) : Prop := (∃ x, e = .returned x) ∧ Rd w' r T s ∧ Keeps (· = r) w w'
set_option maxHeartbeats 2000000 in
/-- blanks. -/
theorem blanks45 {w : World} {r : Nat} {T : ByteArray} {s : Bs} (h : Rd w r T s) : Calls Tryd.prog 45 #[.pointer (some ⟨r, 0, none⟩)] w (DoneOut w r T (blanksB s)) := by
  obtain ⟨i3, hi3, hs3⟩ := infoS3
  have HI := Lib.hid (And.intro hi3 hs3)
  have H := Lib.hid h
  clear hi3 hs3 h
  go_enter Tryd.func45, Tryd.ntmps45
  go_wp2
  go_loopg [] s.length (fun k wr => ∃ s' : Bs, s'.length ≤ k ∧ Hid (Rd wr r T s') ∧ Hid (Keeps (· = r) w wr) ∧ Hid (blanksB s' = blanksB s))
  case atStart => exact ⟨s, Nat.le_refl _, H, Lib.hid (Keeps.refl _ _), Lib.hid rfl⟩
  case round =>
    obtain ⟨s', hl, Hr, HK, HE⟩ := hrel
    cases s' with
    | nil =>
      have hT := Hr.out.len
      have c0' := (blk_cell Hr.out.nil 0).trans rfl
      have c1' := (blk_cell Hr.out.nil 1).trans rfl
      go_wp2_with fail
      refine wp_region_perm [(0, true), (1, true), (2, true), (3, true), (4, true), (5, true), (6, true), (7, true), (8, true), (9, true), (10, true), (11, true), (12, true), (13, true), (14, true), (15, true), (16, true), (17, true), (18, true), (19, true), (20, false), (21, true), (22, true)] (fun w' => w'.cell? ⟨r, 0, none⟩ = some (.string T) ∧ w'.cell? ⟨r, 1, none⟩ = some (.int .i64 T.size)) rfl (by kernel_rfl) (by kernel_rfl) (by decide) (fun c a d v w h => by cases d <;> exact h) ⟨c0', c1'⟩ ?_
      refine perm_q (v := ?v7_0) (some 2) rfl rfl rfl ?q7_0 ?h7_0; (case q7_0 => (intro w' hS; obtain ⟨s1, s2⟩ := hS; first | (go_simp; done) | (go_simp; rfl))); (try simp only [PU])
      refine perm_q (v := ?v7_1) (some 3) rfl rfl rfl ?q7_1 ?h7_1; (case q7_1 => (intro w' hS; obtain ⟨s1, s2⟩ := hS; first | (go_simp; done) | (go_simp; rfl))); (try simp only [PU])
      refine perm_q (v := ?v7_2) (some 4) rfl rfl rfl ?q7_2 ?h7_2; (case q7_2 => (intro w' hS; obtain ⟨s1, s2⟩ := hS; first | (go_simp; done) | (go_simp; rfl))); (try simp only [PU])
      refine perm_q (v := ?v7_3) (some 5) rfl rfl rfl ?q7_3 ?h7_3; (case q7_3 => (intro w' hS; obtain ⟨s1, s2⟩ := hS; first | (go_simp; done) | (go_simp; rfl))); (try simp only [PU])
      refine perm_q (v := ?v7_4) (some 6) rfl rfl rfl ?q7_4 ?h7_4; (case q7_4 => (intro w' hS; obtain ⟨s1, s2⟩ := hS; first | (go_simp; done) | (go_simp; rfl))); (try simp only [PU])
      refine perm_q (v := ?v7_5) (some 7) rfl rfl rfl ?q7_5 ?h7_5; (case q7_5 => (intro w' hS; obtain ⟨s1, s2⟩ := hS; first | (go_simp; done) | (go_simp; rfl))); (try simp only [PU])
      refine perm_q (v := ?v7_6) (some 8) rfl rfl rfl ?q7_6 ?h7_6; (case q7_6 => (intro w' hS; obtain ⟨s1, s2⟩ := hS; first | (go_simp; done) | (go_simp; rfl))); (try simp only [PU])
      refine perm_q (v := ?v7_7) (some 9) rfl rfl rfl ?q7_7 ?h7_7; (case q7_7 => (intro w' hS; obtain ⟨s1, s2⟩ := hS; first | (go_simp; done) | (go_simp; rfl))); (try simp only [PU])
      refine perm_q (v := ?v7_8) (some 10) rfl rfl rfl ?q7_8 ?h7_8; (case q7_8 => (intro w' hS; obtain ⟨s1, s2⟩ := hS; first | (go_simp; done) | (go_simp; rfl))); (try simp only [PU])
      refine perm_q (v := ?v7_9) (some 11) rfl rfl rfl ?q7_9 ?h7_9; (case q7_9 => (intro w' hS; obtain ⟨s1, s2⟩ := hS; first | (go_simp; done) | (go_simp; rfl))); (try simp only [PU])
      refine perm_q (v := ?v7_10) (some 12) rfl rfl rfl ?q7_10 ?h7_10; (case q7_10 => (intro w' hS; obtain ⟨s1, s2⟩ := hS; first | (go_simp; done) | (go_simp; rfl))); (try simp only [PU])
      refine perm_skip (some 13) rfl rfl rfl ?_; (try simp only [PU])
      refine perm_skip (some 14) rfl rfl rfl ?_; (try simp only [PU])
      refine perm_skip (some 15) rfl rfl rfl ?_; (try simp only [PU])
      refine perm_skip (some 16) rfl rfl rfl ?_; (try simp only [PU])
      refine perm_skip (some 17) rfl rfl rfl ?_; (try simp only [PU])
      refine perm_skip (some 18) rfl rfl rfl ?_; (try simp only [PU])
      refine perm_skip (some 19) rfl rfl rfl ?_; (try simp only [PU])
      refine perm_skip (some 20) rfl rfl rfl ?_; (try simp only [PU])
      refine perm_skip (some 21) rfl rfl rfl ?_; (try simp only [PU])
      refine perm_e rfl ?_
      go_wp2_with fail
      (try simp only [PU])
      refine ⟨⟨c0', c1'⟩, ?_⟩
      refine perm_skip (some 23) rfl rfl rfl ?_; (try simp only [PU])
      refine perm_q (v := ?v7_22) (some 24) rfl rfl rfl ?q7_22 ?h7_22; (case q7_22 => (intro w' hS; obtain ⟨s1, s2⟩ := hS; first | (go_simp; done) | (go_simp; rfl))); (try simp only [PU])
      refine perm_nil ?_
      go_wp2
      go_end0
      refine ⟨⟨_, rfl⟩, ?_, HK.out.then (Keeps.refl Nob wr).drew⟩
      rw [← HE.out]
      exact Hr.out.keep (Keeps.refl Nob wr).drew id
    | cons c q =>
      obtain ⟨a, ha, ⟨hb, hc⟩, hT, -, hn⟩ := Hr.out.cons
      have c0' := (blk_cell hb 0).trans rfl
      have c1' := (blk_cell hb 1).trans rfl
      have Hn := Lib.hid hn
      have Hb := Lib.hid hb
      have hai : (a : Int) < (T.size : Int) := by omega
      have H72 := Lib.hid (fun cv (h : cv = (c.toNat : Int)) w => blank72 c cv h w)
      obtain ⟨cv, hcv⟩ : ∃ x : Int, (c.toNat : Int) = x := ⟨_, rfl⟩
      rw [hcv] at hc
      have Hcv := Lib.hid hcv.symm
      clear hb hn hcv
      simp only [List.length_cons] at hl
      rcases hbl : isBlank c with _ | _
      · rw [hbl] at H72
        have Hbl := Lib.hid hbl
        clear hbl
        go_wp2_with fail
        refine wp_region_perm [(0, true), (1, true), (2, true), (3, true), (4, true), (5, true), (6, true), (7, true), (8, true), (9, true), (10, true), (11, true), (12, true), (13, true), (14, true), (15, true), (16, true), (17, true), (18, true), (19, true), (20, false), (21, true), (22, true)] (fun w' => w'.cell? ⟨r, 0, none⟩ = some (.string T) ∧ w'.cell? ⟨r, 1, none⟩ = some (.int .i64 a)) rfl (by kernel_rfl) (by kernel_rfl) (by decide) (fun c a d v w h => by cases d <;> exact h) ⟨c0', c1'⟩ ?_
        refine perm_q (v := ?v8_0) (some 2) rfl rfl rfl ?q8_0 ?h8_0; (case q8_0 => (intro w' hS; obtain ⟨s1, s2⟩ := hS; first | (go_simp; done) | (go_simp; rfl))); (try simp only [PU])
        refine perm_q (v := ?v8_1) (some 3) rfl rfl rfl ?q8_1 ?h8_1; (case q8_1 => (intro w' hS; obtain ⟨s1, s2⟩ := hS; first | (go_simp; done) | (go_simp; rfl))); (try simp only [PU])
        refine perm_q (v := ?v8_2) (some 4) rfl rfl rfl ?q8_2 ?h8_2; (case q8_2 => (intro w' hS; obtain ⟨s1, s2⟩ := hS; first | (go_simp; done) | (go_simp; rfl))); (try simp only [PU])
        refine perm_q (v := ?v8_3) (some 5) rfl rfl rfl ?q8_3 ?h8_3; (case q8_3 => (intro w' hS; obtain ⟨s1, s2⟩ := hS; first | (go_simp; done) | (go_simp; rfl))); (try simp only [PU])
        refine perm_q (v := ?v8_4) (some 6) rfl rfl rfl ?q8_4 ?h8_4; (case q8_4 => (intro w' hS; obtain ⟨s1, s2⟩ := hS; first | (go_simp; done) | (go_simp; rfl))); (try simp only [PU])
        refine perm_q (v := ?v8_5) (some 7) rfl rfl rfl ?q8_5 ?h8_5; (case q8_5 => (intro w' hS; obtain ⟨s1, s2⟩ := hS; first | (go_simp; done) | (go_simp; rfl))); (try simp only [PU])
        refine perm_q (v := ?v8_6) (some 8) rfl rfl rfl ?q8_6 ?h8_6; (case q8_6 => (intro w' hS; obtain ⟨s1, s2⟩ := hS; first | (go_simp; done) | (go_simp; rfl))); (try simp only [PU])
        refine perm_q (v := ?v8_7) (some 9) rfl rfl rfl ?q8_7 ?h8_7; (case q8_7 => (intro w' hS; obtain ⟨s1, s2⟩ := hS; first | (go_simp; done) | (go_simp; rfl))); (try simp only [PU])
        refine perm_q (v := ?v8_8) (some 10) rfl rfl rfl ?q8_8 ?h8_8; (case q8_8 => (intro w' hS; obtain ⟨s1, s2⟩ := hS; first | (go_simp; done) | (go_simp; rfl))); (try simp only [PU])
        refine perm_q (v := ?v8_9) (some 11) rfl rfl rfl ?q8_9 ?h8_9; (case q8_9 => (intro w' hS; obtain ⟨s1, s2⟩ := hS; first | (go_simp; done) | (go_simp; rfl))); (try simp only [PU])
        refine perm_q (v := ?v8_10) (some 12) rfl rfl rfl ?q8_10 ?h8_10; (case q8_10 => (intro w' hS; obtain ⟨s1, s2⟩ := hS; first | (go_simp; done) | (go_simp; rfl))); (try simp only [PU])
        refine perm_q (v := ?v8_11) (some 13) rfl rfl rfl ?q8_11 ?h8_11; (case q8_11 => (intro w' hS; obtain ⟨s1, s2⟩ := hS; first | (go_simp; done) | (go_simp; rfl))); (try simp only [PU])
        refine perm_q (v := ?v8_12) (some 14) rfl rfl rfl ?q8_12 ?h8_12; (case q8_12 => (intro w' hS; obtain ⟨s1, s2⟩ := hS; first | (go_simp; done) | (go_simp; rfl))); (try simp only [PU])
        refine perm_q (v := ?v8_13) (some 15) rfl rfl rfl ?q8_13 ?h8_13; (case q8_13 => (intro w' hS; obtain ⟨s1, s2⟩ := hS; first | (go_simp; done) | (go_simp; rfl))); (try simp only [PU])
        refine perm_q (v := ?v8_14) (some 16) rfl rfl rfl ?q8_14 ?h8_14; (case q8_14 => (intro w' hS; obtain ⟨s1, s2⟩ := hS; first | (go_simp; done) | (go_simp; rfl))); (try simp only [PU])
        refine perm_q (v := ?v8_15) (some 17) rfl rfl rfl ?q8_15 ?h8_15; (case q8_15 => (intro w' hS; obtain ⟨s1, s2⟩ := hS; first | (go_simp; done) | (go_simp; rfl))); (try simp only [PU])
        refine perm_q (v := ?v8_16) (some 18) rfl rfl rfl ?q8_16 ?h8_16; (case q8_16 => (intro w' hS; obtain ⟨s1, s2⟩ := hS; first | (go_simp; done) | (go_simp; rfl))); (try simp only [PU])
        refine perm_q (v := ?v8_17) (some 19) rfl rfl rfl ?q8_17 ?h8_17; (case q8_17 => (intro w' hS; obtain ⟨s1, s2⟩ := hS; first | (go_simp; done) | (go_simp; rfl))); (try simp only [PU])
        refine perm_q (v := ?v8_18) (some 20) rfl rfl rfl ?q8_18 ?h8_18; (case q8_18 => (intro w' hS; obtain ⟨s1, s2⟩ := hS; first | (go_simp; done) | (go_simp; rfl))); (try simp only [PU])
        refine perm_q (v := ?v8_19) (some 21) rfl rfl rfl ?q8_19 ?h8_19; (case q8_19 => (intro w' hS; obtain ⟨s1, s2⟩ := hS; first | (go_simp; done) | (go_simp; rfl))); (try simp only [PU])
        refine perm_e rfl ?_
        go_wp2_with (go_at_call 72; go_must (refine (H72.out _ Hcv.out _).mono ?_; rintro e w1 ⟨⟨iv, rfl, hiv⟩, rfl⟩))
        have hneg : iv < 0 := by rcases Int.lt_or_le iv 0 with h | h; exact h; exact absurd (hiv.1 h) (by decide)
        clear hiv
        (try simp only [PU])
        refine ⟨⟨c0', c1'⟩, ?_⟩
        refine perm_q (v := ?v8_21) (some 23) rfl rfl rfl ?q8_21 ?h8_21; (case q8_21 => (intro w' hS; obtain ⟨s1, s2⟩ := hS; first | (go_simp; done) | (go_simp; rfl))); (try simp only [PU])
        refine perm_q (v := ?v8_22) (some 24) rfl rfl rfl ?q8_22 ?h8_22; (case q8_22 => (intro w' hS; obtain ⟨s1, s2⟩ := hS; first | (go_simp; done) | (go_simp; rfl))); (try simp only [PU])
        refine perm_nil ?_
        go_wp2
        go_end0
        refine ⟨⟨_, rfl⟩, ?_, HK.out.then (Keeps.refl Nob wr).drew⟩
        rw [← HE.out, show blanksB (c :: q) = c :: q by simp [blanksB, Hbl.out]]
        exact Hr.out.keep (Keeps.refl Nob wr).drew id
      · rw [hbl] at H72
        have Hbl := Lib.hid hbl
        clear hbl
        go_wp2_with fail
        refine wp_region_perm [(0, true), (1, true), (2, true), (3, true), (4, true), (5, true), (6, true), (7, true), (8, true), (9, true), (10, true), (11, true), (12, true), (13, true), (14, true), (15, true), (16, true), (17, true), (18, true), (19, true), (20, false), (21, true), (22, true)] (fun w' => w'.cell? ⟨r, 0, none⟩ = some (.string T) ∧ w'.cell? ⟨r, 1, none⟩ = some (.int .i64 a)) rfl (by kernel_rfl) (by kernel_rfl) (by decide) (fun c a d v w h => by cases d <;> exact h) ⟨c0', c1'⟩ ?_
        refine perm_q (v := ?v9_0) (some 2) rfl rfl rfl ?q9_0 ?h9_0; (case q9_0 => (intro w' hS; obtain ⟨s1, s2⟩ := hS; first | (go_simp; done) | (go_simp; rfl))); (try simp only [PU])
        refine perm_q (v := ?v9_1) (some 3) rfl rfl rfl ?q9_1 ?h9_1; (case q9_1 => (intro w' hS; obtain ⟨s1, s2⟩ := hS; first | (go_simp; done) | (go_simp; rfl))); (try simp only [PU])
        refine perm_q (v := ?v9_2) (some 4) rfl rfl rfl ?q9_2 ?h9_2; (case q9_2 => (intro w' hS; obtain ⟨s1, s2⟩ := hS; first | (go_simp; done) | (go_simp; rfl))); (try simp only [PU])
        refine perm_q (v := ?v9_3) (some 5) rfl rfl rfl ?q9_3 ?h9_3; (case q9_3 => (intro w' hS; obtain ⟨s1, s2⟩ := hS; first | (go_simp; done) | (go_simp; rfl))); (try simp only [PU])
        refine perm_q (v := ?v9_4) (some 6) rfl rfl rfl ?q9_4 ?h9_4; (case q9_4 => (intro w' hS; obtain ⟨s1, s2⟩ := hS; first | (go_simp; done) | (go_simp; rfl))); (try simp only [PU])
        refine perm_q (v := ?v9_5) (some 7) rfl rfl rfl ?q9_5 ?h9_5; (case q9_5 => (intro w' hS; obtain ⟨s1, s2⟩ := hS; first | (go_simp; done) | (go_simp; rfl))); (try simp only [PU])
        refine perm_q (v := ?v9_6) (some 8) rfl rfl rfl ?q9_6 ?h9_6; (case q9_6 => (intro w' hS; obtain ⟨s1, s2⟩ := hS; first | (go_simp; done) | (go_simp; rfl))); (try simp only [PU])
        refine perm_q (v := ?v9_7) (some 9) rfl rfl rfl ?q9_7 ?h9_7; (case q9_7 => (intro w' hS; obtain ⟨s1, s2⟩ := hS; first | (go_simp; done) | (go_simp; rfl))); (try simp only [PU])
        refine perm_q (v := ?v9_8) (some 10) rfl rfl rfl ?q9_8 ?h9_8; (case q9_8 => (intro w' hS; obtain ⟨s1, s2⟩ := hS; first | (go_simp; done) | (go_simp; rfl))); (try simp only [PU])
        refine perm_q (v := ?v9_9) (some 11) rfl rfl rfl ?q9_9 ?h9_9; (case q9_9 => (intro w' hS; obtain ⟨s1, s2⟩ := hS; first | (go_simp; done) | (go_simp; rfl))); (try simp only [PU])
        refine perm_q (v := ?v9_10) (some 12) rfl rfl rfl ?q9_10 ?h9_10; (case q9_10 => (intro w' hS; obtain ⟨s1, s2⟩ := hS; first | (go_simp; done) | (go_simp; rfl))); (try simp only [PU])
        refine perm_q (v := ?v9_11) (some 13) rfl rfl rfl ?q9_11 ?h9_11; (case q9_11 => (intro w' hS; obtain ⟨s1, s2⟩ := hS; first | (go_simp; done) | (go_simp; rfl))); (try simp only [PU])
        refine perm_q (v := ?v9_12) (some 14) rfl rfl rfl ?q9_12 ?h9_12; (case q9_12 => (intro w' hS; obtain ⟨s1, s2⟩ := hS; first | (go_simp; done) | (go_simp; rfl))); (try simp only [PU])
        refine perm_q (v := ?v9_13) (some 15) rfl rfl rfl ?q9_13 ?h9_13; (case q9_13 => (intro w' hS; obtain ⟨s1, s2⟩ := hS; first | (go_simp; done) | (go_simp; rfl))); (try simp only [PU])
        refine perm_q (v := ?v9_14) (some 16) rfl rfl rfl ?q9_14 ?h9_14; (case q9_14 => (intro w' hS; obtain ⟨s1, s2⟩ := hS; first | (go_simp; done) | (go_simp; rfl))); (try simp only [PU])
        refine perm_q (v := ?v9_15) (some 17) rfl rfl rfl ?q9_15 ?h9_15; (case q9_15 => (intro w' hS; obtain ⟨s1, s2⟩ := hS; first | (go_simp; done) | (go_simp; rfl))); (try simp only [PU])
        refine perm_q (v := ?v9_16) (some 18) rfl rfl rfl ?q9_16 ?h9_16; (case q9_16 => (intro w' hS; obtain ⟨s1, s2⟩ := hS; first | (go_simp; done) | (go_simp; rfl))); (try simp only [PU])
        refine perm_q (v := ?v9_17) (some 19) rfl rfl rfl ?q9_17 ?h9_17; (case q9_17 => (intro w' hS; obtain ⟨s1, s2⟩ := hS; first | (go_simp; done) | (go_simp; rfl))); (try simp only [PU])
        refine perm_q (v := ?v9_18) (some 20) rfl rfl rfl ?q9_18 ?h9_18; (case q9_18 => (intro w' hS; obtain ⟨s1, s2⟩ := hS; first | (go_simp; done) | (go_simp; rfl))); (try simp only [PU])
        refine perm_q (v := ?v9_19) (some 21) rfl rfl rfl ?q9_19 ?h9_19; (case q9_19 => (intro w' hS; obtain ⟨s1, s2⟩ := hS; first | (go_simp; done) | (go_simp; rfl))); (try simp only [PU])
        refine perm_e rfl ?_
        go_wp2_with (go_at_call 72; go_must (refine (H72.out _ Hcv.out _).mono ?_; rintro e w1 ⟨⟨iv, rfl, hiv⟩, rfl⟩))
        have hpos : 0 ≤ iv := hiv.2 (by first | trivial | rfl)
        clear hiv
        (try simp only [PU])
        refine ⟨⟨c0', c1'⟩, ?_⟩
        refine perm_q (v := ?v9_21) (some 23) rfl rfl rfl ?q9_21 ?h9_21; (case q9_21 => (intro w' hS; obtain ⟨s1, s2⟩ := hS; first | (go_simp; done) | (go_simp; rfl))); (try simp only [PU])
        refine perm_q (v := ?v9_22) (some 24) rfl rfl rfl ?q9_22 ?h9_22; (case q9_22 => (intro w' hS; obtain ⟨s1, s2⟩ := hS; first | (go_simp; done) | (go_simp; rfl))); (try simp only [PU])
        refine perm_nil ?_
        go_wp2_with ((with_reducible refine at_store (t := 3) rfl ?_); go_must (refine ev_store (W := wr.drew) (cs' := #[.string T, .int .i64 ((a : Int) + 1)]) rfl rfl rfl rfl rfl rfl HI.out.1 HI.out.2 rfl Hb.out (Nat.le_of_ble_eq_true rfl) rfl ?_; intro w1 hb1 hk1); have Hb1 := Lib.hid hb1; have HK1 := Lib.hid hk1; clear hb1 hk1; (try simp only [PU]))
        go_roundg q.length
        case measure => omega
        case rel => exact ⟨q, Nat.le_refl _, Lib.hid (Hn.out w1 Hb1.out), Lib.hid (HK.out.trans ((Keeps.refl _ wr).drew.trans HK1.out (fun _ _ h => h)) (fun _ _ h => h)), Lib.hid (by rw [← HE.out]; simp [blanksB, Hbl.out])⟩
end Go.Proofs.WV

/-
  The program's reader: a word. Condition: the text is not longer than a million bytes.
-/
namespace Go.Proofs.WV
open Go.RowKit Go.Proofs.KL Go.Proofs.WM
set_option maxRecDepth 100000
set_option linter.unusedSimpArgs false
set_option linter.unusedVariables false

/-- The ending of a step that leaves nothing but what is left. -/
def EndU (w : World) (r : Nat) (T : ByteArray) : Except Nat Bs → Ending → World → Prop
  | .ok s', e, w' => DoneOut w r T s' e w'
  | .error n, e, w' => e = stopAt T n ∧ Keeps (· = r) w w'
/-- The ending of a step that answers. -/
def EndR (w : World) (r : Nat) (T : ByteArray) {α : Type} (val : α → Value) : R α → Ending → World → Prop
  | .ok x, e, w' => e = .returned (val x.1) ∧ Rd w' r T x.2 ∧ Keeps (· = r) w w'
  | .error n, e, w' => e = stopAt T n ∧ Keeps (· = r) w w'
theorem wordB_nil (r : Bs) : wordB [] r = .ok r := by cases r <;> rfl
theorem drop_byte (W : ByteArray) (i : Nat) (h : i < W.size) : (bl W).drop i = W[i] :: (bl W).drop (i + 1) := by
  rw [List.drop_eq_getElem_cons (by rw [bl_len]; exact h)]
  rfl
set_option maxHeartbeats 2000000 in
/-- word. -/
theorem word74 {w : World} {r : Nat} {T : ByteArray} {s : Bs} (h : Rd w r T s) (V : ByteArray) (hV : V.size ≤ 10) (hz : ∀ i (hi : i < V.size), V[i] ≠ 0) : Calls Tryd.prog 74 #[.pointer (some ⟨r, 0, none⟩), .string V] w (EndU w r T (wordB (bl V) s)) := by
  obtain ⟨i3, hi3, hs3⟩ := infoS3
  have HI := Lib.hid (And.intro hi3 hs3)
  have H := Lib.hid h
  have Hz := Lib.hid hz
  obtain ⟨R, hR⟩ : ∃ x, wordB (bl V) s = x := ⟨_, rfl⟩
  rw [hR]
  have HR := Lib.hid hR
  clear hi3 hs3 h hz hR
  go_enter Tryd.func74, Tryd.ntmps74
  go_wp2
  go_loopw [4, 7] (fun n1 iv wr => ∃ (i : Nat) (s' : Bs), iv = .int .i64 i ∧ i ≤ V.size ∧ Hid (Rd wr r T s') ∧ Hid (Keeps (· = r) w wr) ∧ Hid (wordB ((bl V).drop i) s' = R)) (fun _ iv _ => V.size - (intOf iv).toNat)
  case atStart => exact ⟨0, s, rfl, Nat.zero_le _, H, Lib.hid (Keeps.refl _ _), HR⟩
  case round =>
    obtain ⟨i, s', rfl, hi, Hr, HK, HE⟩ := hrel
    by_cases hlt : i < V.size
    · have hdr := drop_byte V i hlt
      obtain ⟨c, hc⟩ : ∃ c, V[i] = c := ⟨_, rfl⟩
      have hvi : ((V[i].toNat : Nat) : Int) = (c.toNat : Int) := by rw [hc]
      have hc0 : c ≠ 0 := hc ▸ Hz.out i hlt
      rw [hc] at hdr
      obtain ⟨cv, hcv⟩ : ∃ x : Int, (c.toNat : Int) = x := ⟨_, rfl⟩
      rw [hcv] at hvi
      have HE2 := Lib.hid (show wordB (c :: (bl V).drop (i + 1)) s' = R by rw [← hdr]; exact HE.out)
      have Hcv := Lib.hid hcv
      have Hc0 := Lib.hid hc0
      have H73 := Lib.hid (fun W (hk : Keeps Nob wr W) => next73 (Hr.out.keep hk id))
      have hcases : (headN s' ≠ cv ∧ wordB (c :: (bl V).drop (i + 1)) s' = .error s'.length) ∨ (headN s' = cv ∧ ∃ q, s' = c :: q) := by
        cases s' with
        | nil => exact .inl ⟨fun e => hc0 (UInt8.toNat_inj.1 (by simp only [headN] at e; show c.toNat = 0; omega)), rfl⟩
        | cons d q =>
          by_cases hd : d = c
          · subst hd; exact .inr ⟨hcv, q, rfl⟩
          · exact .inl ⟨fun e => hd (UInt8.toNat_inj.1 (by simp only [headN] at e; omega)), by simp [wordB, hd]⟩
      obtain ⟨hv, hhv⟩ : ∃ x, headN s' = x := ⟨_, rfl⟩
      rw [hhv] at H73 hcases
      clear hdr hc hcv hc0 hhv
      rcases hcases with ⟨hne, herr⟩ | ⟨heq, q, hq⟩
      · have hne2 : (hv != cv) = true := by simpa using hne
        have HR2 := Lib.hid (show R = .error s'.length by rw [← HE2.out, herr])
        have Hle := Lib.hid Hr.out.le
        have Hfail := Lib.hid (fun W (hk : Keeps Nob wr W) => fail47 (Hr.out.keep hk id) s'.length Hr.out.le)
        obtain ⟨n, hn⟩ : ∃ x, s'.length = x := ⟨_, rfl⟩
        rw [hn] at HR2 Hfail
        have Hn := Lib.hid hn
        clear hne herr hn
        go_wp2_with fail
        refine wp_region_perm [(0, true), (2, true), (3, true), (4, true), (1, false), (5, true)] (fun w' => True) rfl (by kernel_rfl) (by kernel_rfl) (by decide) (fun c a d v w h => by cases d <;> exact h) trivial ?_
        refine perm_q (v := ?v1_0) (some 10) rfl rfl rfl ?q1_0 ?h1_0; (case q1_0 => (intro w' hS; skip; first | (go_simp; done) | (go_simp; rfl))); (try simp only [PU])
        refine perm_q (v := ?v1_2) (some 12) rfl rfl rfl ?q1_2 ?h1_2; (case q1_2 => (intro w' hS; skip; first | (go_simp; done) | (go_simp; rfl))); (try simp only [PU])
        refine perm_q (v := ?v1_3) (some 13) rfl rfl rfl ?q1_3 ?h1_3; (case q1_3 => (intro w' hS; skip; first | (go_simp; done) | (go_simp; rfl))); (try simp only [PU])
        refine perm_q (v := ?v1_4) (some 14) rfl rfl rfl ?q1_4 ?h1_4; (case q1_4 => (intro w' hS; skip; first | (go_simp; done) | (go_simp; rfl))); (try simp only [PU])
        refine perm_e rfl ?_
        go_wp2_with (go_at_call 73; go_must (refine (H73.out _ (Keeps.refl Nob wr).drew).mono ?_; rintro e w1 ⟨rfl, hk1⟩); have HK1 := Lib.hid (show Keeps Nob wr w1 from (Keeps.refl Nob wr).drew.trans hk1 (fun _ _ h => h)); clear hk1; (try simp only [PU]))
        refine ⟨trivial, ?_⟩
        refine perm_q (v := ?v1_5) (some 15) rfl rfl rfl ?q1_5 ?h1_5; (case q1_5 => (intro w' hS; skip; first | (go_simp; done) | (go_simp; rfl))); (try simp only [PU])
        refine perm_nil ?_
        have q1 := (blk_cell (HK1.out.blk Hr.out.blk id) 1).trans rfl
        rw [Hn.out] at q1
        go_wp2_with (go_at_call 47; go_must (refine (Hfail.out _ HK1.out).mono ?_; rintro e w2 ⟨rfl, rfl⟩); unfold stopAt; (try simp only [PU]))
        refine ⟨rfl, ?_⟩
        rw [HR2.out]
        exact ⟨rfl, HK.out.then HK1.out⟩
      · subst heq
        subst hq
        have HR2 := Lib.hid (show wordB ((bl V).drop (i + 1)) q = R by rw [← HE2.out]; simp [wordB])
        obtain ⟨a, ha, ⟨hb, -⟩, hT, -, hn⟩ := Hr.out.cons
        have Hn := Lib.hid hn
        have Hb := Lib.hid hb
        clear hn hb
        go_wp2_with fail
        refine wp_region_perm [(0, true), (2, true), (3, true), (4, true), (1, false), (5, true)] (fun w' => True) rfl (by kernel_rfl) (by kernel_rfl) (by decide) (fun c a d v w h => by cases d <;> exact h) trivial ?_
        refine perm_q (v := ?v2_0) (some 10) rfl rfl rfl ?q2_0 ?h2_0; (case q2_0 => (intro w' hS; skip; first | (go_simp; done) | (go_simp; rfl))); (try simp only [PU])
        refine perm_q (v := ?v2_2) (some 12) rfl rfl rfl ?q2_2 ?h2_2; (case q2_2 => (intro w' hS; skip; first | (go_simp; done) | (go_simp; rfl))); (try simp only [PU])
        refine perm_q (v := ?v2_3) (some 13) rfl rfl rfl ?q2_3 ?h2_3; (case q2_3 => (intro w' hS; skip; first | (go_simp; done) | (go_simp; rfl))); (try simp only [PU])
        refine perm_q (v := ?v2_4) (some 14) rfl rfl rfl ?q2_4 ?h2_4; (case q2_4 => (intro w' hS; skip; first | (go_simp; done) | (go_simp; rfl))); (try simp only [PU])
        refine perm_e rfl ?_
        go_wp2_with (go_at_call 73; go_must (refine (H73.out _ (Keeps.refl Nob wr).drew).mono ?_; rintro e w1 ⟨rfl, hk1⟩); have HK1 := Lib.hid (show Keeps Nob wr w1 from (Keeps.refl Nob wr).drew.trans hk1 (fun _ _ h => h)); clear hk1; (try simp only [PU]))
        refine ⟨trivial, ?_⟩
        refine perm_q (v := ?v2_5) (some 15) rfl rfl rfl ?q2_5 ?h2_5; (case q2_5 => (intro w' hS; skip; first | (go_simp; done) | (go_simp; rfl))); (try simp only [PU])
        refine perm_nil ?_
        have Hb1 := Lib.hid (HK1.out.blk Hb.out id)
        have q1 := (blk_cell Hb1.out 1).trans rfl
        go_wp2_with ((with_reducible refine at_store (t := 3) rfl ?_); go_must (refine ev_store (cs' := #[.string T, .int .i64 ((a : Int) + 1)]) rfl rfl rfl rfl rfl rfl HI.out.1 HI.out.2 rfl Hb1.out (Nat.le_of_ble_eq_true rfl) rfl ?_; intro w2 hb2 hk2); have Hb2 := Lib.hid hb2; have HK2 := Lib.hid hk2; clear hb2 hk2; (try simp only [PU]))
        go_roundw
        case rel => exact ⟨i + 1, q, by go_num, by omega, Lib.hid (Hn.out w2 Hb2.out), Lib.hid ((HK.out.then HK1.out).trans HK2.out (fun _ _ h => h)), HR2⟩
        case measure => simp [intOf]; omega
    · have hi' : i = V.size := by omega
      have hd : (bl V).drop i = [] := List.drop_eq_nil_iff.2 (by rw [bl_len]; omega)
      have HR2 := Lib.hid (show R = .ok s' by rw [← HE.out, hd, wordB_nil])
      subst hi'
      clear hd
      go_wp2
      go_end0
      rw [HR2.out]
      exact ⟨⟨_, rfl⟩, Hr.out, HK.out⟩
end Go.Proofs.WV
