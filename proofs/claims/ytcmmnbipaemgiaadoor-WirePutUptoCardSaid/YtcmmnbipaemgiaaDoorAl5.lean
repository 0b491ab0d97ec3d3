/-
  The program's reader: a part of a table (keys$1), in memory, whole. Condition: the text is not longer than a million bytes.
-/
import Derived.Test.YtcmmnbipaemgiaaDoorAl4
import Derived.Defers
import Derived.Recover
namespace Go.Proofs.WV
open Go.RowKit Go.Proofs.KL Go.Proofs.WM
set_option maxRecDepth 100000
set_option linter.unusedSimpArgs false
set_option linter.unusedVariables false

theorem OwnS.cells {W : World} {lo g n c : Nat} {ks : List ByteArray} (h : OwnS W lo (.slice (some ⟨g, 0, none⟩) n c) ks) : ∃ cur, W.heap[g]? = some (.cells cur 9 (0, 0)) := by
  rcases h.2 with ⟨e, _⟩ | ⟨g', cap, cur, e, hb, hg, _⟩
  · cases e
  · injection e with e1 e2 e3
    injection e1 with e1
    injection e1 with e1
    subst e1
    exact ⟨cur, hg⟩
theorem row_neMap {W : World} {lo g : Nat} {v : Value} {n : Nat} {xs : List Value} {es : Array MapEntry} {c : Nat} (h : W.ownsRow lo 25 6 v n xs) (hg : W.heap[g]? = some (.map es c)) : some g ≠ v.ownBlock := fun e => by
  rcases h.2 with ⟨rfl, _⟩ | ⟨g', cap, cur, rfl, hb, hg', _⟩
  · cases e
  · simp only [Value.ownBlock, Option.some.injEq] at e
    subst e
    rw [hg] at hg'
    injection hg' with hg'
    cases hg'
set_option maxHeartbeats 8000000 in
theorem key103o {W : World} {r g2 gS g5 g3 gm base : Nat} {deep : Int} {T : ByteArray} {s t r1 r2 : Bs} {j : J} {s' : Bs} {x : List ByteArray × List J} (hr : Rd W r T s) (hI : PairsInv r g2 gS g5 g3 gm base deep x W)
    (hd : r < base ∧ ¬ g2 = r ∧ ¬ gS = r ∧ ¬ g3 = r ∧ ¬ gm = r ∧ ¬ g5 = r ∧ base ≤ gm ∧ base ≤ g5 ∧ base ≤ W.heap.size) (hn : x.1.length ≤ 1000000 ∧ x.2.length ≤ 1000000) (hs : strB s = .ok (t, r1)) (hk : hasKey x.1 (mkB t) = false) (hw : wordB [58] (blanksB r1) = .ok r2)
    (hin : ∀ W', Rd W' r T (blanksB r2) → Calls Tryd.prog 80 #[.pointer (some ⟨r, 0, none⟩), .int .i64 deep] W' (ValOut W' r T (.ok (j, s')))) :
    Calls Tryd.prog 103 #[.pointer (some ⟨g2, 0, none⟩), .pointer (some ⟨gS, 0, none⟩), .pointer (some ⟨g5, 0, none⟩), .pointer (some ⟨g3, 0, none⟩)] W (PartOut W r T base (PairsInv r g2 gS g5 g3 gm base deep) (.ok ((x.1 ++ [mkB t], x.2 ++ [j]), s'))) := by
  have Hr := Lib.hid hr
  have Hs := Lib.hid hs
  have Hap := Lib.hid hI.apart
  obtain ⟨⟨h2, hS, h3⟩, ⟨es, ec, hmap, hset⟩, kv, vv, h5, hks, hvs⟩ := hI
  obtain ⟨kA, kc, rfl, hkc⟩ := hks.slice
  obtain ⟨vA, vc, rfl, hvc⟩ : ∃ A c, vv = .slice A x.2.length c ∧ x.2.length ≤ c := by obtain ⟨X, xs, hrow⟩ := id hvs; exact row_slice hrow.row
  have H2 := Lib.hid h2
  have HS := Lib.hid hS
  have H3 := Lib.hid h3
  have H5 := Lib.hid h5
  have HKS := Lib.hid hks
  have HVS := Lib.hid hvs
  have Hm := Lib.hid (And.intro hmap hset)
  have Hd := Lib.hid hd
  have c2 := (blk_cell h2 0).trans rfl
  obtain ⟨key, hkey⟩ : ∃ y, mkB t = y := ⟨_, rfl⟩
  have Hkey := Lib.hid hkey
  rw [hkey] at hk
  have Hk := Lib.hid hk
  have Hw := Lib.hid hw
  clear hr hs h2 hS h3 h5 hks hvs hmap hset hd hkey hk hw
  have Hin := Lib.hid hin
  clear hin
  obtain ⟨hn1, hn2⟩ := hn
  rw [Hkey.out]
  go_enter Tryd.func103, Tryd.ntmps103
  go_upto_region 7 with (first
    | (go_at_call 75; go_must (have hc := str75 Hr.out; rw [Hs.out] at hc; refine hc.mono ?_; rintro e w6 ⟨rfl, hr6, hk6⟩)
       simp only [Hkey.out]
       have HK := Lib.hid (show Keeps (fun k => k = r ∨ k = gm) W w6 from hk6.mono (fun _ _ e => .inl e))
       have HR := Lib.hid hr6
       have Hm6 := Lib.hid (hk6.blk Hm.out.1 Hd.out.2.2.2.2.1)
       clear c2 hr6 hk6
       have c2 := (blk_cell (HK.out.blk H2.out (fun e => e.elim Hd.out.2.1 Hap.out.1.1)) 0).trans rfl
       have cS := (blk_cell (HK.out.blk HS.out (fun e => e.elim Hd.out.2.2.1 Hap.out.1.2.1)) 0).trans rfl
       (try simp only [PU]))
    | ((with_reducible refine at_dst (N := 9) rfl ?_); go_must (refine ev_lookup_set (q := key) rfl rfl Tryd.underlying98 Tryd.underlying9 zero98 rfl rfl Hm6.out Hm.out.2 ?_; rw [Hk.out]); (try simp only [PU]))
    | (refine at_update rfl ?_; go_must (refine ev_mapUpdate_set (q := key) rfl rfl rfl Tryd.underlying98 Tryd.underlying9 rfl rfl rfl Hm6.out Hm.out.2 Hk.out ?_; intro es7 c7 w7 hb7 hs7 hk7)
       have HM7 := Lib.hid (And.intro hb7 hs7)
       have HR := Lib.hid (HR.out.keep hk7 (fun e : r = gm => Hd.out.2.2.2.2.1 e.symm))
       have HK := Lib.hid (HK.out.trans hk7 (fun _ _ e => .inr e))
       clear c2 cS hb7 hs7 hk7
       have c2 := (blk_cell (HK.out.blk H2.out (fun e => e.elim Hd.out.2.1 Hap.out.1.1)) 0).trans rfl
       (try simp only [PU]))
    | (go_at_call 45; go_must (refine (blanks45 HR.out).mono ?_; rintro e w8 ⟨⟨y8, rfl⟩, hr8, hk8⟩)
       have HR := Lib.hid hr8
       have HM7 := Lib.hid (And.intro (hk8.blk HM7.out.1 Hd.out.2.2.2.2.1) HM7.out.2)
       have HK := Lib.hid (HK.out.trans hk8 (fun _ _ e => .inl e))
       clear c2 hr8 hk8
       have c2 := (blk_cell (HK.out.blk H2.out (fun e => e.elim Hd.out.2.1 Hap.out.1.1)) 0).trans rfl
       have c5 := (blk_cell (HK.out.blk H5.out (fun e => e.elim Hd.out.2.2.2.2.2.1 Hap.out.1.2.2.2)) 4).trans rfl
       (try simp only [PU]))
    | (go_at_call 74; go_must (have h74 := word74 HR.out ⟨#[58]⟩ (by decide) (nz1 58 (by decide)); rw [show bl ⟨#[58]⟩ = [58] from rfl, Hw.out] at h74; refine h74.mono ?_; rintro e w9 ⟨⟨y9, rfl⟩, hr9, hk9⟩)
       have HR := Lib.hid hr9
       have HM7 := Lib.hid (And.intro (hk9.blk HM7.out.1 Hd.out.2.2.2.2.1) HM7.out.2)
       have HK := Lib.hid (HK.out.trans hk9 (fun _ _ e => .inl e))
       clear c2 hr9 hk9
       have c2 := (blk_cell (HK.out.blk H2.out (fun e => e.elim Hd.out.2.1 Hap.out.1.1)) 0).trans rfl
       (try simp only [PU]))
  )
  obtain ⟨i22, hi22, hs22⟩ := info22
  have HI22 := Lib.hid (And.intro hi22 hs22)
  clear hi22 hs22
  go_upto_region 8 with (first
    | ((with_reducible refine at_dst (N := 28) rfl ?_); go_must (refine ev_slice (cs := #[.string key]) (t := 9) (n := 1) (c := 1) rfl (by first | (go_simp; done) | (go_simp; rfl)) ?_; intro gk w10 hgk hlk hbk hkk)
       have Hbk := Lib.hid hbk
       have HKS1 := Lib.hid ((HKS.out.keep HK.out (fun k hk' e => e.elim (fun e => by have h1 := (HKS.out.lt k hk').1; have := Hd.out.1; omega) (fun e => by rw [e] at hk'; exact HKS.out.neMap Hm.out.1 hk'.symm))).keep hkk (fun _ _ => id))
       have HR1 := Lib.hid (HR.out.keep hkk id)
       have HM7 := Lib.hid (And.intro (hkk.blk HM7.out.1 id) HM7.out.2)
       have HK1 := Lib.hid (HK.out.then hkk)
       clear hbk hkk
       (try simp only [PU]))
    | ((with_reducible refine at_dst (N := 29) rfl ?_); go_must (refine ev_append rfl rfl Tryd.underlying22 info9b rfl (by decide) (base := base) rfl HKS1.out rfl (news := [Value.string key]) rfl (fun _ => ⟨_, rfl, World.news_of_block Hbk.out⟩) (by simp [Value.oneCell']) (by omega) (by decide) (by have := HK1.out.size; have := Hd.out.2.2.2.2.2.2.2.2; omega) ?_; intro v9 w11 hown9 hk11 hr11 hf11; obtain ⟨gq, cq, rfl⟩ := hf11 (by decide))
       have Hown := Lib.hid hown9
       have Hk11 := Lib.hid hk11
       have Hr11 := Lib.hid hr11
       have H5a := Lib.hid (hk11.blk (HK1.out.blk H5.out (fun e => e.elim Hd.out.2.2.2.2.2.1 Hap.out.1.2.2.2)) (HKS1.out.ne (HK1.out.blk H5.out (fun e => e.elim Hd.out.2.2.2.2.2.1 Hap.out.1.2.2.2)) (by decide)))
       clear hown9 hk11 hr11 hf11 c5
       (try simp only [PU]))
    | ((with_reducible refine at_store (t := 22) rfl ?_); go_must (refine ev_store (cs' := #[.int .i64 6, .bool false, .int .i64 0, .string ByteArray.empty, .slice (some ⟨gq, 0, none⟩) (x.1.length + 1) cq, .slice vA x.2.length vc]) rfl rfl rfl rfl rfl rfl HI22.out.1 HI22.out.2 rfl H5a.out (Nat.le_of_ble_eq_true rfl) rfl ?_; intro w12 hb12 hk12)
       have H5b := Lib.hid hb12
       have Hk12 := Lib.hid hk12
       clear hb12 hk12
       (try simp only [PU]))
  )
  have hbg : base ≤ W.heap.size := Hd.out.2.2.2.2.2.2.2.2
  have H2c := Lib.hid (Hk12.out.blk (Hk11.out.blk (HK1.out.blk H2.out (fun e => e.elim Hd.out.2.1 Hap.out.1.1)) (HKS1.out.ne (HK1.out.blk H2.out (fun e => e.elim Hd.out.2.1 Hap.out.1.1)) (by decide))) Hap.out.2.1)
  have H3c := Lib.hid (Hk12.out.blk (Hk11.out.blk (HK1.out.blk H3.out (fun e => e.elim Hd.out.2.2.2.1 Hap.out.1.2.2.1)) (HKS1.out.ne (HK1.out.blk H3.out (fun e => e.elim Hd.out.2.2.2.1 Hap.out.1.2.2.1)) (by decide))) Hap.out.2.2.2)
  have HSc := Lib.hid (Hk12.out.blk (Hk11.out.blk (HK1.out.blk HS.out (fun e => e.elim Hd.out.2.2.1 Hap.out.1.2.1)) (HKS1.out.ne (HK1.out.blk HS.out (fun e => e.elim Hd.out.2.2.1 Hap.out.1.2.1)) (by decide))) Hap.out.2.2.1)
  have HRc := Lib.hid ((HR1.out.keep Hk11.out (HKS1.out.ne HR1.out.blk (by decide))).keep Hk12.out (fun e => Hd.out.2.2.2.2.2.1 e.symm))
  have HMc := Lib.hid (And.intro (Hk12.out.blk (Hk11.out.blk HM7.out.1 (HKS1.out.neMap HM7.out.1)) (fun e => Hap.out.1.2.2.2 e.symm)) HM7.out.2)
  have hos : OwnS w11 base (.slice (some ⟨gq, 0, none⟩) (x.1.length + 1) cq) (x.1 ++ [key]) := by
    have h := Hown.out
    unfold OwnS
    rw [List.length_append, List.map_append]
    exact h
  have HOS := Lib.hid (hos.keep Hk12.out (fun k hk e => by rw [e] at hk; exact hos.ne H5a.out (by decide) hk.symm))
  have hkt : Keeps (fun k => k = r ∨ k = gm ∨ some k = (Value.slice kA x.1.length kc).ownBlock ∨ k = g5) W w12 := ((HK1.out.mono (M' := fun k => k = r ∨ k = gm ∨ some k = (Value.slice kA x.1.length kc).ownBlock ∨ k = g5) (fun _ _ e => e.elim .inl (fun e => .inr (.inl e)))).trans Hk11.out (fun _ _ e => .inr (.inr (.inl e)))).trans Hk12.out (fun _ _ e => .inr (.inr (.inr e)))
  have HOJ := Lib.hid (HVS.out.swap (E' := fun b => b = g5 ∨ b = gm ∨ some b = (Value.slice (some ⟨gq, 0, none⟩) (x.1.length + 1) cq).ownBlock) hkt (fun b _ e => by
      rcases e with e | e | e | e
      · exact .inl (by rw [e]; exact Hd.out.1)
      · exact .inr (.inr (.inl e))
      · exact .inr (.inr (.inr e))
      · exact .inr (.inl e)) (fun b e => by
      rcases e with e | e | e
      · exact .inl (.inl e)
      · exact .inl (.inr (.inl e))
      · rcases Hr11.out with h | ⟨k, h, hk⟩
        · exact .inl (.inr (.inr (e.trans h)))
        · rw [h] at e; injection e with e; exact .inr (by have := HK1.out.size; omega)))
  have HKT := Lib.hid hkt
  clear hkt hos
  obtain ⟨X, xs, HJ⟩ : ∃ X xs, Hid (RowJ w12 base (fun b => b = g5 ∨ b = gm ∨ some b = (Value.slice (some ⟨gq, 0, none⟩) (x.1.length + 1) cq).ownBlock) (.slice vA x.2.length vc) x.2 X xs) := by
    obtain ⟨X, xs, h⟩ := HOJ.out
    exact ⟨X, xs, Lib.hid h⟩
  have HE := Lib.hid (show ∀ b, (b = g5 ∨ b = gm ∨ some b = (Value.slice (some ⟨gq, 0, none⟩) (x.1.length + 1) cq).ownBlock) → b < w12.heap.size from fun b e => by
    rcases e with e | e | e
    · rw [e]; exact blk_lt H5b.out
    · rw [e]; exact blk_lt HMc.out.1
    · exact (HOS.out.lt b e.symm).2)
  clear HVS HOJ HKS1 HK1 HR1
  obtain ⟨n, hnn⟩ : ∃ y, x.2.length = y := ⟨_, rfl⟩
  have Hnn := Lib.hid hnn
  rw [hnn] at hn2 H5b HJ
  have HDD := Lib.hid (show r < base ∧ base ≤ w12.heap.size ∧ base ≤ g5 from ⟨Hd.out.1, Nat.le_trans hbg HKT.out.size, Hd.out.2.2.2.2.2.2.2.1⟩)
  have HKM := Lib.hid (HKT.out.mono (M' := MR r base) (fun i _ e => by
      rcases e with e | e | e | e
      · exact .inl e
      · exact .inr (by rw [e]; exact Hd.out.2.2.2.2.2.2.1)
      · exact .inr (HKS.out.lt i e.symm).1
      · exact .inr (by rw [e]; exact Hd.out.2.2.2.2.2.2.2.1)))
  clear HKT HKS hnn hbg
  have c2 := (blk_cell H2c.out 0).trans rfl
  have c3 := (blk_cell H3c.out 0).trans rfl
  have c5' : w12.cell? ⟨g5, 5, none⟩ = some (.slice vA n vc) := (blk_cell H5b.out 5).trans rfl
  have N := Lib.hid (show ¬ g2 = r ∧ ¬ g3 = r ∧ ¬ g5 = r from ⟨Hd.out.2.1, Hd.out.2.2.2.1, Hd.out.2.2.2.2.2.1⟩)
  have NS := Lib.hid (show ¬ gS = r ∧ ¬ gm = r from ⟨Hd.out.2.2.1, Hd.out.2.2.2.2.1⟩)
  have HKr := Lib.hid ((Keeps.refl (· = r) w12).drew)
  have Hr0 := Lib.hid (HRc.out.keep (Keeps.refl Nob w12).drew id)
  obtain ⟨i25, hi25, hs25⟩ := info25
  obtain ⟨i23, hi23, hs23⟩ := info23
  have HI := Lib.hid (And.intro (And.intro hi25 hs25) (And.intro hi23 hs23))
  clear hi25 hs25 hi23 hs23
  refine wp_region_tree (.q 0 (.q 2 (.q 3 (.br [1, 4, 6] (fun k => bif Nat.beq k 1 then .q 5 (.br [4, 6] (fun k => bif Nat.beq k 4 then .br [6] (fun k => .br [7] (fun k => .q 8 (.q 10 (.br [9, 11] (fun k => bif Nat.beq k 9 then .br [11] (fun k => .done) else .br [9] (fun k => .done)))))) else .br [4] (fun k => .br [7] (fun k => .q 8 (.q 10 (.br [9, 11] (fun k => bif Nat.beq k 9 then .br [11] (fun k => .done) else .br [9] (fun k => .done)))))))) else bif Nat.beq k 4 then .br [1, 6] (fun k => bif Nat.beq k 1 then .q 5 (.br [6] (fun k => .br [7] (fun k => .q 8 (.q 10 (.br [9, 11] (fun k => bif Nat.beq k 9 then .br [11] (fun k => .done) else .br [9] (fun k => .done))))))) else .br [1] (fun k => .q 5 (.br [7] (fun k => .q 8 (.q 10 (.br [9, 11] (fun k => bif Nat.beq k 9 then .br [11] (fun k => .done) else .br [9] (fun k => .done)))))))) else .br [1, 4] (fun k => bif Nat.beq k 1 then .q 5 (.br [4] (fun k => .br [7] (fun k => .q 8 (.q 10 (.br [9, 11] (fun k => bif Nat.beq k 9 then .br [11] (fun k => .done) else .br [9] (fun k => .done))))))) else .br [1] (fun k => .q 5 (.br [7] (fun k => .q 8 (.q 10 (.br [9, 11] (fun k => bif Nat.beq k 9 then .br [11] (fun k => .done) else .br [9] (fun k => .done))))))))))))) (fun w' => w'.cell? ⟨g2, 0, none⟩ = some (.pointer (some ⟨r, 0, none⟩)) ∧ w'.cell? ⟨g3, 0, none⟩ = some (.int .i64 deep)) rfl (by kernel_rfl) (by kernel_rfl) (fun c a d v w h => by cases d <;> exact h) ⟨c2, c3⟩ ?_
  refine tree_q (v := ?v1_41) (some 31) rfl rfl rfl ?q1_41 ?h1_41; (case q1_41 => (intro w' hS; obtain ⟨s1, s2⟩ := hS; first | (go_simp; done) | (go_simp; rfl))); (try simp only [PU])
  refine tree_q (v := ?v1_40) (some 33) rfl rfl rfl ?q1_40 ?h1_40; (case q1_40 => (intro w' hS; obtain ⟨s1, s2⟩ := hS; first | (go_simp; done) | (go_simp; rfl))); (try simp only [PU])
  refine tree_q (v := ?v1_39) (some 34) rfl rfl rfl ?q1_39 ?h1_39; (case q1_39 => (intro w' hS; obtain ⟨s1, s2⟩ := hS; first | (go_simp; done) | (go_simp; rfl))); (try simp only [PU])
  refine tree_b rfl rfl ?b1_12 ?nb1_12
  case' b1_12 =>
    have c6 := HKr.out.cell c5' N.out.2.2
    go_wp2_with fail
    clear c6
    (try refine ⟨⟨HKr.out.cell c2 N.out.1, HKr.out.cell c3 N.out.2.1⟩, ?_⟩)
    refine tree_q (v := ?v1_11) (some 36) rfl rfl rfl ?q1_11 ?h1_11; (case q1_11 => (intro w' hS; obtain ⟨s1, s2⟩ := hS; first | (go_simp; done) | (go_simp; rfl))); (try simp only [PU])
    refine tree_b rfl rfl ?b1_5 ?nb1_5
    case' b1_5 =>
      go_wp2_with (go_at_call 80; go_must (refine (Hin.out _ Hr0.out).mono ?_; rintro e w1 ⟨⟨v1, rfl, hv1⟩, hr1, hk1⟩; obtain ⟨jk, jb, jn, jt, jks, jvs, jkv, jvv, hjj, rfl, hjk, hjv⟩ := hv1.open; obtain ⟨kA', kc', rfl, -, -⟩ := hjk; obtain ⟨jA, jc, ju, rfl, -, -, -⟩ := hjv); have hw0 := HKr.out.size; have HV := Lib.hid (hv1.keep (X' := fun b => w12.heap.size ≤ b ∧ b < w1.heap.size) (Keeps.refl Nob w1) (fun _ _ _ => id) (fun b hb hx => ⟨Nat.le_trans hw0 hx, hb⟩)); have Hr1 := Lib.hid hr1; have Hk1 := Lib.hid hk1; have HKr := Lib.hid (HKr.out.trans hk1 (fun _ _ h => h)); clear hv1 hr1 hjj hw0 hk1; generalize jks.length = kl at *; generalize jvs.length = vl at *; (try simp only [PU]))
      (try have Hbz := Lib.hid (Hk1.out.blk Hbz.out (fun e : gz = r => by have h1 : w12.heap.size ≤ gz := Hgz.out; have h2 := HDD.out; omega)))
      refine ⟨⟨HKr.out.cell c2 N.out.1, HKr.out.cell c3 N.out.2.1⟩, ?_⟩
      refine tree_e rfl rfl ?_
      go_must (refine ev_slice (cs := #[.int .i64 0, .bool false, .int .i64 0, .string ByteArray.empty, .slice none 0 0, .slice none 0 0]) (t := 25) (n := 1) (c := 1) rfl (by first | (go_simp; done) | (go_simp; rfl)) ?_; intro gz wz hgz hlz hbz hkz)
      (try simp only [PU])
      have Hgz := Lib.hid (Nat.le_trans HKr.out.size hgz)
      have Hbz := Lib.hid hbz
      (try have Hr1 := Lib.hid (Hr1.out.keep hkz id))
      (try have HV := Lib.hid (HV.out.keep (X' := fun b => w12.heap.size ≤ b ∧ b < wz.heap.size) hkz (fun _ _ _ => id) (fun b hb h => ⟨h.1, Nat.lt_of_lt_of_le h.2 hkz.size⟩)))
      (try have Hr0 := Lib.hid (Rd.keep (M := Nob) Hr0.out hkz id))
      have HKr := Lib.hid (HKr.out.then hkz)
      clear hbz hkz hgz
      refine wpList_nil ⟨⟨HKr.out.cell c2 N.out.1, HKr.out.cell c3 N.out.2.1⟩, ?_⟩
      refine tree_e rfl rfl ?_
      have HJc := Lib.hid (HJ.out.keep HKr.out (fun b _ e => .inl (by have := HDD.out; omega)))
      have hrow7 := HJc.out.row
      rw [Hnn.out] at hrow7
      have Hrow7 := Lib.hid hrow7
      clear hrow7
      go_must (refine ev_append rfl rfl Tryd.underlying23 info25b rfl (by decide) (base := base) rfl Hrow7.out rfl (news := [.int .i64 0, .bool false, .int .i64 0, .string ByteArray.empty, .slice none 0 0, .slice none 0 0]) rfl (fun _ => ⟨_, rfl, World.news_of_block Hbz.out⟩) (by simp [Value.oneCell']) (by omega) (by decide) (by have := HKr.out.size; have := HDD.out; omega) ?_; intro v6 w6 hown6 hk6 hr6 hf6; obtain ⟨gr, cap, rfl⟩ := hf6 (by decide))
      have Hr6 := Lib.hid hr6
      (try simp only [PU])
      have b2 := HKr.out.blk H2c.out N.out.1
      have b3 := HKr.out.blk H3c.out N.out.2.1
      have b6 := HKr.out.blk H5b.out N.out.2.2
      have bS := HKr.out.blk HSc.out NS.out.1
      have bm := HKr.out.blk HMc.out.1 NS.out.2
      have bk := HOS.out.keep HKr.out (fun k hk' e => by have h1 := (HOS.out.lt k hk').1; have := HDD.out; omega)
      have H2k := Lib.hid (hk6.blk b2 (row_ne Hrow7.out b2 (by decide)))
      have H3k := Lib.hid (hk6.blk b3 (row_ne Hrow7.out b3 (by decide)))
      have HSk := Lib.hid (hk6.blk bS (row_ne Hrow7.out bS (by decide)))
      have HMk := Lib.hid (hk6.blk bm (row_neMap Hrow7.out bm))
      have HOk := Lib.hid (bk.keep hk6 (fun k hk' e => HJc.out.ne k e.symm (.inr (.inr hk'.symm))))
      have H6k := Lib.hid (hk6.blk b6 (fun e => HJc.out.ne g5 e.symm (.inl rfl)))
      have Hrk := Lib.hid (Hr1.out.keep hk6 (row_ne Hrow7.out Hr1.out.blk (by decide)))
      obtain ⟨cur, hcur⟩ : ∃ cur, w6.heap[gr]? = some (.cells cur 25 (0, 0)) ∧ n + 1 ≤ cap ∧ cur.size = cap * 6 ∧ base ≤ gr := by
        rcases hown6.2 with ⟨e, _⟩ | ⟨g', cap', cur, e, hb, hg', hc, hm, hs, ht⟩
        · cases e
        · injection e with e1 e2 e3
          injection e1 with e1
          injection e1 with e1
          subst e1; subst e3
          exact ⟨cur, hg', hc, hs, hb⟩
      have Hcf := Lib.hid hcur.2
      have Hcur := Lib.hid hcur.1
      have Hg6r := Lib.hid (row_notin (fun e => HJc.out.ne g5 e (.inl rfl)) (blk_lt H5b.out) HKr.out.size hr6)
      have Hrowk := Lib.hid hown6
      have HKo := Lib.hid (hk6.mono (M' := fun k => some k = (Value.slice vA n vc).ownBlock ∨ (k = g5 ∨ k = gm ∨ some k = (Value.slice (some ⟨gq, 0, none⟩) (x.1.length + 1) cq).ownBlock)) (fun _ _ e => .inl e))
      have HKall := Lib.hid ((HKM.out.trans (keepsMR HKr.out) (fun _ _ h => h)).trans hk6 (fun i hi e => .inr (row_lt HJ.out.row i e.symm).1))
      have HWc := Lib.hid HKr.out.size
      have hlt1 : (n : Int) < (n : Int) + 1 := by omega
      clear hown6 hk6 hr6 hf6 b2 b3 b6 bS bm bk hcur
      refine wpList_nil ⟨⟨(blk_cell H2k.out 0).trans rfl, (blk_cell H3k.out 0).trans rfl⟩, ?_⟩
      refine tree_q (v := ?v1_4) (some 39) rfl rfl rfl ?q1_4 ?h1_4; (case q1_4 => (intro w' hS; obtain ⟨s1, s2⟩ := hS; first | (go_simp; done) | (go_simp; rfl))); (try simp only [PU])
      refine tree_q (v := ?v1_3) (some 40) rfl rfl rfl ?q1_3 ?h1_3; (case q1_3 => (intro w' hS; obtain ⟨s1, s2⟩ := hS; first | (go_simp; done) | (go_simp; rfl))); (try simp only [PU])
      refine tree_b rfl rfl ?b1_1 ?nb1_1
      case' b1_1 =>
        have hfit : n * 6 + 6 ≤ cur.size := by have h1 := Hcf.out.1; have h2 := Hcf.out.2.1; omega
        go_must (refine ev_store (x := .agg #[.int .i64 jk, .bool jb, .int .i64 jn, .string jt, .slice kA' kl kc', .slice jA vl jc]) (vs := [.int .i64 jk, .bool jb, .int .i64 jn, .string jt, .slice kA' kl kc', .slice jA vl jc]) (off := n * 6) (cs' := List.toArray (cur.toList.take (n * 6) ++ ([Value.int .i64 jk, Value.bool jb, Value.int .i64 jn, Value.string jt, Value.slice kA' kl kc', Value.slice jA vl jc] : List Value) ++ cur.toList.drop (n * 6 + 6))) rfl rfl rfl rfl rfl rfl HI.out.1.1 HI.out.1.2 rfl Hcur.out hfit rfl ?_; intro w7 hb7 hk7)
        (try simp only [PU])
        have Hown9 := Lib.hid (RowJ.push HJc.out HV.out (fun b hb => ⟨by have := HDD.out; have := hb.1; omega, fun e => by have := HE.out b e; have := hb.1; omega, fun e => by have := (row_lt HJ.out.row b e.symm).2; have := hb.1; omega, hb.2⟩) (fun b e => Nat.lt_of_lt_of_le (HE.out b e) HWc.out) rfl (by rw [Hnn.out]; exact Hrowk.out) HKo.out Hr6.out (by rw [Hnn.out]) Hcur.out (by rw [Hnn.out]; exact hb7) hk7)
        have H2k := Lib.hid (hk7.blk H2k.out (blk_type H2k.out Hcur.out (by decide)))
        have H3k := Lib.hid (hk7.blk H3k.out (blk_type H3k.out Hcur.out (by decide)))
        have HSk := Lib.hid (hk7.blk HSk.out (blk_type HSk.out Hcur.out (by decide)))
        have HMk := Lib.hid (hk7.blk HMk.out (fun e => map_ne Hcur.out HMk.out e.symm))
        have HOk := Lib.hid (HOk.out.keep hk7 (fun k hk' e => HOk.out.ne Hcur.out (by decide) (by rw [hk', e])))
        have H6k := Lib.hid (hk7.blk H6k.out Hg6r.out)
        have Hrk := Lib.hid (Hrk.out.keep hk7 (blk_type Hrk.out.blk Hcur.out (by decide)))
        have HKall := Lib.hid (HKall.out.trans hk7 (fun i _ e => .inr (by rw [e]; exact Hcf.out.2.2)))
        clear hb7 hk7 hfit
        refine wpList_nil ⟨⟨(blk_cell H2k.out 0).trans rfl, (blk_cell H3k.out 0).trans rfl⟩, ?_⟩
        refine tree_e rfl rfl ?_
        go_must (refine ev_store (cs' := #[.int .i64 6, .bool false, .int .i64 0, .string ByteArray.empty, .slice (some ⟨gq, 0, none⟩) (x.1.length + 1) cq, .slice (some ⟨gr, 0, none⟩) (n + 1) cap]) rfl rfl rfl rfl rfl rfl HI.out.2.1 HI.out.2.2 rfl H6k.out (Nat.le_of_ble_eq_true rfl) rfl ?_; intro w8 hb8 hk8)
        (try simp only [PU])
        have Hb8 := Lib.hid hb8
        (try have Hown9 := Lib.hid (Hown9.out.keep hk8 (fun b _ e => .inr (.inl e))))
        (try have HKo := Lib.hid (HKo.out.trans hk8 (fun _ _ e => .inr (.inl e))))
        (try have Hrowk := Lib.hid (row_keep Hrowk.out hk8 (fun k hk e => Hg6r.out (by rw [← e]; exact (Option.some.inj hk).symm))))
        (try have Hcur := Lib.hid (hk8.blk Hcur.out (fun e => Hg6r.out e.symm)))
        have H2k := Lib.hid (hk8.blk H2k.out (blk_type H2k.out H6k.out (by decide)))
        have H3k := Lib.hid (hk8.blk H3k.out (blk_type H3k.out H6k.out (by decide)))
        have HSk := Lib.hid (hk8.blk HSk.out (blk_type HSk.out H6k.out (by decide)))
        have HMk := Lib.hid (hk8.blk HMk.out (fun e => map_ne H6k.out HMk.out e.symm))
        have HOk := Lib.hid (HOk.out.keep hk8 (fun k hk' e => HOk.out.ne H6k.out (by decide) (by rw [hk', e])))
        have Hrk := Lib.hid (Hrk.out.keep hk8 (fun e => N.out.2.2 e.symm))
        have HKall := Lib.hid (HKall.out.trans hk8 (fun i _ e => .inr (by rw [e]; exact HDD.out.2.2)))
        have H6k := Hb8
        clear hb8 hk8
        refine wpList_nil ⟨⟨(blk_cell H2k.out 0).trans rfl, (blk_cell H3k.out 0).trans rfl⟩, ?_⟩
        refine tree_nil ?_
      case' nb1_1 =>
        refine tree_e rfl rfl ?b1_2
        case' b1_2 =>
          go_must (refine ev_store (cs' := #[.int .i64 6, .bool false, .int .i64 0, .string ByteArray.empty, .slice (some ⟨gq, 0, none⟩) (x.1.length + 1) cq, .slice (some ⟨gr, 0, none⟩) (n + 1) cap]) rfl rfl rfl rfl rfl rfl HI.out.2.1 HI.out.2.2 rfl H6k.out (Nat.le_of_ble_eq_true rfl) rfl ?_; intro w8 hb8 hk8)
          (try simp only [PU])
          have Hb8 := Lib.hid hb8
          (try have Hown9 := Lib.hid (Hown9.out.keep hk8 (fun b _ e => .inr (.inl e))))
          (try have HKo := Lib.hid (HKo.out.trans hk8 (fun _ _ e => .inr (.inl e))))
          (try have Hrowk := Lib.hid (row_keep Hrowk.out hk8 (fun k hk e => Hg6r.out (by rw [← e]; exact (Option.some.inj hk).symm))))
          (try have Hcur := Lib.hid (hk8.blk Hcur.out (fun e => Hg6r.out e.symm)))
          have H2k := Lib.hid (hk8.blk H2k.out (blk_type H2k.out H6k.out (by decide)))
          have H3k := Lib.hid (hk8.blk H3k.out (blk_type H3k.out H6k.out (by decide)))
          have HSk := Lib.hid (hk8.blk HSk.out (blk_type HSk.out H6k.out (by decide)))
          have HMk := Lib.hid (hk8.blk HMk.out (fun e => map_ne H6k.out HMk.out e.symm))
          have HOk := Lib.hid (HOk.out.keep hk8 (fun k hk' e => HOk.out.ne H6k.out (by decide) (by rw [hk', e])))
          have Hrk := Lib.hid (Hrk.out.keep hk8 (fun e => N.out.2.2 e.symm))
          have HKall := Lib.hid (HKall.out.trans hk8 (fun i _ e => .inr (by rw [e]; exact HDD.out.2.2)))
          have H6k := Hb8
          clear hb8 hk8
          refine wpList_nil ⟨⟨(blk_cell H2k.out 0).trans rfl, (blk_cell H3k.out 0).trans rfl⟩, ?_⟩
          refine tree_e rfl rfl ?_
          have hfit : n * 6 + 6 ≤ cur.size := by have h1 := Hcf.out.1; have h2 := Hcf.out.2.1; omega
          go_must (refine ev_store (x := .agg #[.int .i64 jk, .bool jb, .int .i64 jn, .string jt, .slice kA' kl kc', .slice jA vl jc]) (vs := [.int .i64 jk, .bool jb, .int .i64 jn, .string jt, .slice kA' kl kc', .slice jA vl jc]) (off := n * 6) (cs' := List.toArray (cur.toList.take (n * 6) ++ ([Value.int .i64 jk, Value.bool jb, Value.int .i64 jn, Value.string jt, Value.slice kA' kl kc', Value.slice jA vl jc] : List Value) ++ cur.toList.drop (n * 6 + 6))) rfl rfl rfl rfl rfl rfl HI.out.1.1 HI.out.1.2 rfl Hcur.out hfit rfl ?_; intro w7 hb7 hk7)
          (try simp only [PU])
          have Hown9 := Lib.hid (RowJ.push HJc.out HV.out (fun b hb => ⟨by have := HDD.out; have := hb.1; omega, fun e => by have := HE.out b e; have := hb.1; omega, fun e => by have := (row_lt HJ.out.row b e.symm).2; have := hb.1; omega, hb.2⟩) (fun b e => Nat.lt_of_lt_of_le (HE.out b e) HWc.out) rfl (by rw [Hnn.out]; exact Hrowk.out) HKo.out Hr6.out (by rw [Hnn.out]) Hcur.out (by rw [Hnn.out]; exact hb7) hk7)
          have H2k := Lib.hid (hk7.blk H2k.out (blk_type H2k.out Hcur.out (by decide)))
          have H3k := Lib.hid (hk7.blk H3k.out (blk_type H3k.out Hcur.out (by decide)))
          have HSk := Lib.hid (hk7.blk HSk.out (blk_type HSk.out Hcur.out (by decide)))
          have HMk := Lib.hid (hk7.blk HMk.out (fun e => map_ne Hcur.out HMk.out e.symm))
          have HOk := Lib.hid (HOk.out.keep hk7 (fun k hk' e => HOk.out.ne Hcur.out (by decide) (by rw [hk', e])))
          have H6k := Lib.hid (hk7.blk H6k.out Hg6r.out)
          have Hrk := Lib.hid (Hrk.out.keep hk7 (blk_type Hrk.out.blk Hcur.out (by decide)))
          have HKall := Lib.hid (HKall.out.trans hk7 (fun i _ e => .inr (by rw [e]; exact Hcf.out.2.2)))
          clear hb7 hk7 hfit
          refine wpList_nil ⟨⟨(blk_cell H2k.out 0).trans rfl, (blk_cell H3k.out 0).trans rfl⟩, ?_⟩
          refine tree_nil ?_
    case' nb1_5 =>
      refine tree_e rfl rfl ?b1_10
      case' b1_10 =>
        go_must (refine ev_slice (cs := #[.int .i64 0, .bool false, .int .i64 0, .string ByteArray.empty, .slice none 0 0, .slice none 0 0]) (t := 25) (n := 1) (c := 1) rfl (by first | (go_simp; done) | (go_simp; rfl)) ?_; intro gz wz hgz hlz hbz hkz)
        (try simp only [PU])
        have Hgz := Lib.hid (Nat.le_trans HKr.out.size hgz)
        have Hbz := Lib.hid hbz
        (try have Hr1 := Lib.hid (Hr1.out.keep hkz id))
        (try have HV := Lib.hid (HV.out.keep (X' := fun b => w12.heap.size ≤ b ∧ b < wz.heap.size) hkz (fun _ _ _ => id) (fun b hb h => ⟨h.1, Nat.lt_of_lt_of_le h.2 hkz.size⟩)))
        (try have Hr0 := Lib.hid (Rd.keep (M := Nob) Hr0.out hkz id))
        have HKr := Lib.hid (HKr.out.then hkz)
        clear hbz hkz hgz
        refine wpList_nil ⟨⟨HKr.out.cell c2 N.out.1, HKr.out.cell c3 N.out.2.1⟩, ?_⟩
        refine tree_e rfl rfl ?_
        go_wp2_with (go_at_call 80; go_must (refine (Hin.out _ Hr0.out).mono ?_; rintro e w1 ⟨⟨v1, rfl, hv1⟩, hr1, hk1⟩; obtain ⟨jk, jb, jn, jt, jks, jvs, jkv, jvv, hjj, rfl, hjk, hjv⟩ := hv1.open; obtain ⟨kA', kc', rfl, -, -⟩ := hjk; obtain ⟨jA, jc, ju, rfl, -, -, -⟩ := hjv); have hw0 := HKr.out.size; have HV := Lib.hid (hv1.keep (X' := fun b => w12.heap.size ≤ b ∧ b < w1.heap.size) (Keeps.refl Nob w1) (fun _ _ _ => id) (fun b hb hx => ⟨Nat.le_trans hw0 hx, hb⟩)); have Hr1 := Lib.hid hr1; have Hk1 := Lib.hid hk1; have HKr := Lib.hid (HKr.out.trans hk1 (fun _ _ h => h)); clear hv1 hr1 hjj hw0 hk1; generalize jks.length = kl at *; generalize jvs.length = vl at *; (try simp only [PU]))
        (try have Hbz := Lib.hid (Hk1.out.blk Hbz.out (fun e : gz = r => by have h1 : w12.heap.size ≤ gz := Hgz.out; have h2 := HDD.out; omega)))
        refine ⟨⟨HKr.out.cell c2 N.out.1, HKr.out.cell c3 N.out.2.1⟩, ?_⟩
        refine tree_e rfl rfl ?_
        have HJc := Lib.hid (HJ.out.keep HKr.out (fun b _ e => .inl (by have := HDD.out; omega)))
        have hrow7 := HJc.out.row
        rw [Hnn.out] at hrow7
        have Hrow7 := Lib.hid hrow7
        clear hrow7
        go_must (refine ev_append rfl rfl Tryd.underlying23 info25b rfl (by decide) (base := base) rfl Hrow7.out rfl (news := [.int .i64 0, .bool false, .int .i64 0, .string ByteArray.empty, .slice none 0 0, .slice none 0 0]) rfl (fun _ => ⟨_, rfl, World.news_of_block Hbz.out⟩) (by simp [Value.oneCell']) (by omega) (by decide) (by have := HKr.out.size; have := HDD.out; omega) ?_; intro v6 w6 hown6 hk6 hr6 hf6; obtain ⟨gr, cap, rfl⟩ := hf6 (by decide))
        have Hr6 := Lib.hid hr6
        (try simp only [PU])
        have b2 := HKr.out.blk H2c.out N.out.1
        have b3 := HKr.out.blk H3c.out N.out.2.1
        have b6 := HKr.out.blk H5b.out N.out.2.2
        have bS := HKr.out.blk HSc.out NS.out.1
        have bm := HKr.out.blk HMc.out.1 NS.out.2
        have bk := HOS.out.keep HKr.out (fun k hk' e => by have h1 := (HOS.out.lt k hk').1; have := HDD.out; omega)
        have H2k := Lib.hid (hk6.blk b2 (row_ne Hrow7.out b2 (by decide)))
        have H3k := Lib.hid (hk6.blk b3 (row_ne Hrow7.out b3 (by decide)))
        have HSk := Lib.hid (hk6.blk bS (row_ne Hrow7.out bS (by decide)))
        have HMk := Lib.hid (hk6.blk bm (row_neMap Hrow7.out bm))
        have HOk := Lib.hid (bk.keep hk6 (fun k hk' e => HJc.out.ne k e.symm (.inr (.inr hk'.symm))))
        have H6k := Lib.hid (hk6.blk b6 (fun e => HJc.out.ne g5 e.symm (.inl rfl)))
        have Hrk := Lib.hid (Hr1.out.keep hk6 (row_ne Hrow7.out Hr1.out.blk (by decide)))
        obtain ⟨cur, hcur⟩ : ∃ cur, w6.heap[gr]? = some (.cells cur 25 (0, 0)) ∧ n + 1 ≤ cap ∧ cur.size = cap * 6 ∧ base ≤ gr := by
          rcases hown6.2 with ⟨e, _⟩ | ⟨g', cap', cur, e, hb, hg', hc, hm, hs, ht⟩
          · cases e
          · injection e with e1 e2 e3
            injection e1 with e1
            injection e1 with e1
            subst e1; subst e3
            exact ⟨cur, hg', hc, hs, hb⟩
        have Hcf := Lib.hid hcur.2
        have Hcur := Lib.hid hcur.1
        have Hg6r := Lib.hid (row_notin (fun e => HJc.out.ne g5 e (.inl rfl)) (blk_lt H5b.out) HKr.out.size hr6)
        have Hrowk := Lib.hid hown6
        have HKo := Lib.hid (hk6.mono (M' := fun k => some k = (Value.slice vA n vc).ownBlock ∨ (k = g5 ∨ k = gm ∨ some k = (Value.slice (some ⟨gq, 0, none⟩) (x.1.length + 1) cq).ownBlock)) (fun _ _ e => .inl e))
        have HKall := Lib.hid ((HKM.out.trans (keepsMR HKr.out) (fun _ _ h => h)).trans hk6 (fun i hi e => .inr (row_lt HJ.out.row i e.symm).1))
        have HWc := Lib.hid HKr.out.size
        have hlt1 : (n : Int) < (n : Int) + 1 := by omega
        clear hown6 hk6 hr6 hf6 b2 b3 b6 bS bm bk hcur
        refine wpList_nil ⟨⟨(blk_cell H2k.out 0).trans rfl, (blk_cell H3k.out 0).trans rfl⟩, ?_⟩
        refine tree_q (v := ?v1_9) (some 39) rfl rfl rfl ?q1_9 ?h1_9; (case q1_9 => (intro w' hS; obtain ⟨s1, s2⟩ := hS; first | (go_simp; done) | (go_simp; rfl))); (try simp only [PU])
        refine tree_q (v := ?v1_8) (some 40) rfl rfl rfl ?q1_8 ?h1_8; (case q1_8 => (intro w' hS; obtain ⟨s1, s2⟩ := hS; first | (go_simp; done) | (go_simp; rfl))); (try simp only [PU])
        refine tree_b rfl rfl ?b1_6 ?nb1_6
        case' b1_6 =>
          have hfit : n * 6 + 6 ≤ cur.size := by have h1 := Hcf.out.1; have h2 := Hcf.out.2.1; omega
          go_must (refine ev_store (x := .agg #[.int .i64 jk, .bool jb, .int .i64 jn, .string jt, .slice kA' kl kc', .slice jA vl jc]) (vs := [.int .i64 jk, .bool jb, .int .i64 jn, .string jt, .slice kA' kl kc', .slice jA vl jc]) (off := n * 6) (cs' := List.toArray (cur.toList.take (n * 6) ++ ([Value.int .i64 jk, Value.bool jb, Value.int .i64 jn, Value.string jt, Value.slice kA' kl kc', Value.slice jA vl jc] : List Value) ++ cur.toList.drop (n * 6 + 6))) rfl rfl rfl rfl rfl rfl HI.out.1.1 HI.out.1.2 rfl Hcur.out hfit rfl ?_; intro w7 hb7 hk7)
          (try simp only [PU])
          have Hown9 := Lib.hid (RowJ.push HJc.out HV.out (fun b hb => ⟨by have := HDD.out; have := hb.1; omega, fun e => by have := HE.out b e; have := hb.1; omega, fun e => by have := (row_lt HJ.out.row b e.symm).2; have := hb.1; omega, hb.2⟩) (fun b e => Nat.lt_of_lt_of_le (HE.out b e) HWc.out) rfl (by rw [Hnn.out]; exact Hrowk.out) HKo.out Hr6.out (by rw [Hnn.out]) Hcur.out (by rw [Hnn.out]; exact hb7) hk7)
          have H2k := Lib.hid (hk7.blk H2k.out (blk_type H2k.out Hcur.out (by decide)))
          have H3k := Lib.hid (hk7.blk H3k.out (blk_type H3k.out Hcur.out (by decide)))
          have HSk := Lib.hid (hk7.blk HSk.out (blk_type HSk.out Hcur.out (by decide)))
          have HMk := Lib.hid (hk7.blk HMk.out (fun e => map_ne Hcur.out HMk.out e.symm))
          have HOk := Lib.hid (HOk.out.keep hk7 (fun k hk' e => HOk.out.ne Hcur.out (by decide) (by rw [hk', e])))
          have H6k := Lib.hid (hk7.blk H6k.out Hg6r.out)
          have Hrk := Lib.hid (Hrk.out.keep hk7 (blk_type Hrk.out.blk Hcur.out (by decide)))
          have HKall := Lib.hid (HKall.out.trans hk7 (fun i _ e => .inr (by rw [e]; exact Hcf.out.2.2)))
          clear hb7 hk7 hfit
          refine wpList_nil ⟨⟨(blk_cell H2k.out 0).trans rfl, (blk_cell H3k.out 0).trans rfl⟩, ?_⟩
          refine tree_e rfl rfl ?_
          go_must (refine ev_store (cs' := #[.int .i64 6, .bool false, .int .i64 0, .string ByteArray.empty, .slice (some ⟨gq, 0, none⟩) (x.1.length + 1) cq, .slice (some ⟨gr, 0, none⟩) (n + 1) cap]) rfl rfl rfl rfl rfl rfl HI.out.2.1 HI.out.2.2 rfl H6k.out (Nat.le_of_ble_eq_true rfl) rfl ?_; intro w8 hb8 hk8)
          (try simp only [PU])
          have Hb8 := Lib.hid hb8
          (try have Hown9 := Lib.hid (Hown9.out.keep hk8 (fun b _ e => .inr (.inl e))))
          (try have HKo := Lib.hid (HKo.out.trans hk8 (fun _ _ e => .inr (.inl e))))
          (try have Hrowk := Lib.hid (row_keep Hrowk.out hk8 (fun k hk e => Hg6r.out (by rw [← e]; exact (Option.some.inj hk).symm))))
          (try have Hcur := Lib.hid (hk8.blk Hcur.out (fun e => Hg6r.out e.symm)))
          have H2k := Lib.hid (hk8.blk H2k.out (blk_type H2k.out H6k.out (by decide)))
          have H3k := Lib.hid (hk8.blk H3k.out (blk_type H3k.out H6k.out (by decide)))
          have HSk := Lib.hid (hk8.blk HSk.out (blk_type HSk.out H6k.out (by decide)))
          have HMk := Lib.hid (hk8.blk HMk.out (fun e => map_ne H6k.out HMk.out e.symm))
          have HOk := Lib.hid (HOk.out.keep hk8 (fun k hk' e => HOk.out.ne H6k.out (by decide) (by rw [hk', e])))
          have Hrk := Lib.hid (Hrk.out.keep hk8 (fun e => N.out.2.2 e.symm))
          have HKall := Lib.hid (HKall.out.trans hk8 (fun i _ e => .inr (by rw [e]; exact HDD.out.2.2)))
          have H6k := Hb8
          clear hb8 hk8
          refine wpList_nil ⟨⟨(blk_cell H2k.out 0).trans rfl, (blk_cell H3k.out 0).trans rfl⟩, ?_⟩
          refine tree_nil ?_
        case' nb1_6 =>
          refine tree_e rfl rfl ?b1_7
          case' b1_7 =>
            go_must (refine ev_store (cs' := #[.int .i64 6, .bool false, .int .i64 0, .string ByteArray.empty, .slice (some ⟨gq, 0, none⟩) (x.1.length + 1) cq, .slice (some ⟨gr, 0, none⟩) (n + 1) cap]) rfl rfl rfl rfl rfl rfl HI.out.2.1 HI.out.2.2 rfl H6k.out (Nat.le_of_ble_eq_true rfl) rfl ?_; intro w8 hb8 hk8)
            (try simp only [PU])
            have Hb8 := Lib.hid hb8
            (try have Hown9 := Lib.hid (Hown9.out.keep hk8 (fun b _ e => .inr (.inl e))))
            (try have HKo := Lib.hid (HKo.out.trans hk8 (fun _ _ e => .inr (.inl e))))
            (try have Hrowk := Lib.hid (row_keep Hrowk.out hk8 (fun k hk e => Hg6r.out (by rw [← e]; exact (Option.some.inj hk).symm))))
            (try have Hcur := Lib.hid (hk8.blk Hcur.out (fun e => Hg6r.out e.symm)))
            have H2k := Lib.hid (hk8.blk H2k.out (blk_type H2k.out H6k.out (by decide)))
            have H3k := Lib.hid (hk8.blk H3k.out (blk_type H3k.out H6k.out (by decide)))
            have HSk := Lib.hid (hk8.blk HSk.out (blk_type HSk.out H6k.out (by decide)))
            have HMk := Lib.hid (hk8.blk HMk.out (fun e => map_ne H6k.out HMk.out e.symm))
            have HOk := Lib.hid (HOk.out.keep hk8 (fun k hk' e => HOk.out.ne H6k.out (by decide) (by rw [hk', e])))
            have Hrk := Lib.hid (Hrk.out.keep hk8 (fun e => N.out.2.2 e.symm))
            have HKall := Lib.hid (HKall.out.trans hk8 (fun i _ e => .inr (by rw [e]; exact HDD.out.2.2)))
            have H6k := Hb8
            clear hb8 hk8
            refine wpList_nil ⟨⟨(blk_cell H2k.out 0).trans rfl, (blk_cell H3k.out 0).trans rfl⟩, ?_⟩
            refine tree_e rfl rfl ?_
            have hfit : n * 6 + 6 ≤ cur.size := by have h1 := Hcf.out.1; have h2 := Hcf.out.2.1; omega
            go_must (refine ev_store (x := .agg #[.int .i64 jk, .bool jb, .int .i64 jn, .string jt, .slice kA' kl kc', .slice jA vl jc]) (vs := [.int .i64 jk, .bool jb, .int .i64 jn, .string jt, .slice kA' kl kc', .slice jA vl jc]) (off := n * 6) (cs' := List.toArray (cur.toList.take (n * 6) ++ ([Value.int .i64 jk, Value.bool jb, Value.int .i64 jn, Value.string jt, Value.slice kA' kl kc', Value.slice jA vl jc] : List Value) ++ cur.toList.drop (n * 6 + 6))) rfl rfl rfl rfl rfl rfl HI.out.1.1 HI.out.1.2 rfl Hcur.out hfit rfl ?_; intro w7 hb7 hk7)
            (try simp only [PU])
            have Hown9 := Lib.hid (RowJ.push HJc.out HV.out (fun b hb => ⟨by have := HDD.out; have := hb.1; omega, fun e => by have := HE.out b e; have := hb.1; omega, fun e => by have := (row_lt HJ.out.row b e.symm).2; have := hb.1; omega, hb.2⟩) (fun b e => Nat.lt_of_lt_of_le (HE.out b e) HWc.out) rfl (by rw [Hnn.out]; exact Hrowk.out) HKo.out Hr6.out (by rw [Hnn.out]) Hcur.out (by rw [Hnn.out]; exact hb7) hk7)
            have H2k := Lib.hid (hk7.blk H2k.out (blk_type H2k.out Hcur.out (by decide)))
            have H3k := Lib.hid (hk7.blk H3k.out (blk_type H3k.out Hcur.out (by decide)))
            have HSk := Lib.hid (hk7.blk HSk.out (blk_type HSk.out Hcur.out (by decide)))
            have HMk := Lib.hid (hk7.blk HMk.out (fun e => map_ne Hcur.out HMk.out e.symm))
            have HOk := Lib.hid (HOk.out.keep hk7 (fun k hk' e => HOk.out.ne Hcur.out (by decide) (by rw [hk', e])))
            have H6k := Lib.hid (hk7.blk H6k.out Hg6r.out)
            have Hrk := Lib.hid (Hrk.out.keep hk7 (blk_type Hrk.out.blk Hcur.out (by decide)))
            have HKall := Lib.hid (HKall.out.trans hk7 (fun i _ e => .inr (by rw [e]; exact Hcf.out.2.2)))
            clear hb7 hk7 hfit
            refine wpList_nil ⟨⟨(blk_cell H2k.out 0).trans rfl, (blk_cell H3k.out 0).trans rfl⟩, ?_⟩
            refine tree_nil ?_
  case' nb1_12 =>
    refine tree_b rfl rfl ?b1_25 ?nb1_25
    case' b1_25 =>
      go_wp2_with (go_at_call 80; go_must (refine (Hin.out _ Hr0.out).mono ?_; rintro e w1 ⟨⟨v1, rfl, hv1⟩, hr1, hk1⟩; obtain ⟨jk, jb, jn, jt, jks, jvs, jkv, jvv, hjj, rfl, hjk, hjv⟩ := hv1.open; obtain ⟨kA', kc', rfl, -, -⟩ := hjk; obtain ⟨jA, jc, ju, rfl, -, -, -⟩ := hjv); have hw0 := HKr.out.size; have HV := Lib.hid (hv1.keep (X' := fun b => w12.heap.size ≤ b ∧ b < w1.heap.size) (Keeps.refl Nob w1) (fun _ _ _ => id) (fun b hb hx => ⟨Nat.le_trans hw0 hx, hb⟩)); have Hr1 := Lib.hid hr1; have Hk1 := Lib.hid hk1; have HKr := Lib.hid (HKr.out.trans hk1 (fun _ _ h => h)); clear hv1 hr1 hjj hw0 hk1; generalize jks.length = kl at *; generalize jvs.length = vl at *; (try simp only [PU]))
      (try have Hbz := Lib.hid (Hk1.out.blk Hbz.out (fun e : gz = r => by have h1 : w12.heap.size ≤ gz := Hgz.out; have h2 := HDD.out; omega)))
      refine ⟨⟨HKr.out.cell c2 N.out.1, HKr.out.cell c3 N.out.2.1⟩, ?_⟩
      refine tree_b rfl rfl ?b1_18 ?nb1_18
      case' b1_18 =>
        have c6 := HKr.out.cell c5' N.out.2.2
        go_wp2_with fail
        clear c6
        (try refine ⟨⟨HKr.out.cell c2 N.out.1, HKr.out.cell c3 N.out.2.1⟩, ?_⟩)
        refine tree_q (v := ?v1_17) (some 36) rfl rfl rfl ?q1_17 ?h1_17; (case q1_17 => (intro w' hS; obtain ⟨s1, s2⟩ := hS; first | (go_simp; done) | (go_simp; rfl))); (try simp only [PU])
        refine tree_e rfl rfl ?_
        go_must (refine ev_slice (cs := #[.int .i64 0, .bool false, .int .i64 0, .string ByteArray.empty, .slice none 0 0, .slice none 0 0]) (t := 25) (n := 1) (c := 1) rfl (by first | (go_simp; done) | (go_simp; rfl)) ?_; intro gz wz hgz hlz hbz hkz)
        (try simp only [PU])
        have Hgz := Lib.hid (Nat.le_trans HKr.out.size hgz)
        have Hbz := Lib.hid hbz
        (try have Hr1 := Lib.hid (Hr1.out.keep hkz id))
        (try have HV := Lib.hid (HV.out.keep (X' := fun b => w12.heap.size ≤ b ∧ b < wz.heap.size) hkz (fun _ _ _ => id) (fun b hb h => ⟨h.1, Nat.lt_of_lt_of_le h.2 hkz.size⟩)))
        (try have Hr0 := Lib.hid (Rd.keep (M := Nob) Hr0.out hkz id))
        have HKr := Lib.hid (HKr.out.then hkz)
        clear hbz hkz hgz
        refine wpList_nil ⟨⟨HKr.out.cell c2 N.out.1, HKr.out.cell c3 N.out.2.1⟩, ?_⟩
        refine tree_e rfl rfl ?_
        have HJc := Lib.hid (HJ.out.keep HKr.out (fun b _ e => .inl (by have := HDD.out; omega)))
        have hrow7 := HJc.out.row
        rw [Hnn.out] at hrow7
        have Hrow7 := Lib.hid hrow7
        clear hrow7
        go_must (refine ev_append rfl rfl Tryd.underlying23 info25b rfl (by decide) (base := base) rfl Hrow7.out rfl (news := [.int .i64 0, .bool false, .int .i64 0, .string ByteArray.empty, .slice none 0 0, .slice none 0 0]) rfl (fun _ => ⟨_, rfl, World.news_of_block Hbz.out⟩) (by simp [Value.oneCell']) (by omega) (by decide) (by have := HKr.out.size; have := HDD.out; omega) ?_; intro v6 w6 hown6 hk6 hr6 hf6; obtain ⟨gr, cap, rfl⟩ := hf6 (by decide))
        have Hr6 := Lib.hid hr6
        (try simp only [PU])
        have b2 := HKr.out.blk H2c.out N.out.1
        have b3 := HKr.out.blk H3c.out N.out.2.1
        have b6 := HKr.out.blk H5b.out N.out.2.2
        have bS := HKr.out.blk HSc.out NS.out.1
        have bm := HKr.out.blk HMc.out.1 NS.out.2
        have bk := HOS.out.keep HKr.out (fun k hk' e => by have h1 := (HOS.out.lt k hk').1; have := HDD.out; omega)
        have H2k := Lib.hid (hk6.blk b2 (row_ne Hrow7.out b2 (by decide)))
        have H3k := Lib.hid (hk6.blk b3 (row_ne Hrow7.out b3 (by decide)))
        have HSk := Lib.hid (hk6.blk bS (row_ne Hrow7.out bS (by decide)))
        have HMk := Lib.hid (hk6.blk bm (row_neMap Hrow7.out bm))
        have HOk := Lib.hid (bk.keep hk6 (fun k hk' e => HJc.out.ne k e.symm (.inr (.inr hk'.symm))))
        have H6k := Lib.hid (hk6.blk b6 (fun e => HJc.out.ne g5 e.symm (.inl rfl)))
        have Hrk := Lib.hid (Hr1.out.keep hk6 (row_ne Hrow7.out Hr1.out.blk (by decide)))
        obtain ⟨cur, hcur⟩ : ∃ cur, w6.heap[gr]? = some (.cells cur 25 (0, 0)) ∧ n + 1 ≤ cap ∧ cur.size = cap * 6 ∧ base ≤ gr := by
          rcases hown6.2 with ⟨e, _⟩ | ⟨g', cap', cur, e, hb, hg', hc, hm, hs, ht⟩
          · cases e
          · injection e with e1 e2 e3
            injection e1 with e1
            injection e1 with e1
            subst e1; subst e3
            exact ⟨cur, hg', hc, hs, hb⟩
        have Hcf := Lib.hid hcur.2
        have Hcur := Lib.hid hcur.1
        have Hg6r := Lib.hid (row_notin (fun e => HJc.out.ne g5 e (.inl rfl)) (blk_lt H5b.out) HKr.out.size hr6)
        have Hrowk := Lib.hid hown6
        have HKo := Lib.hid (hk6.mono (M' := fun k => some k = (Value.slice vA n vc).ownBlock ∨ (k = g5 ∨ k = gm ∨ some k = (Value.slice (some ⟨gq, 0, none⟩) (x.1.length + 1) cq).ownBlock)) (fun _ _ e => .inl e))
        have HKall := Lib.hid ((HKM.out.trans (keepsMR HKr.out) (fun _ _ h => h)).trans hk6 (fun i hi e => .inr (row_lt HJ.out.row i e.symm).1))
        have HWc := Lib.hid HKr.out.size
        have hlt1 : (n : Int) < (n : Int) + 1 := by omega
        clear hown6 hk6 hr6 hf6 b2 b3 b6 bS bm bk hcur
        refine wpList_nil ⟨⟨(blk_cell H2k.out 0).trans rfl, (blk_cell H3k.out 0).trans rfl⟩, ?_⟩
        refine tree_q (v := ?v1_16) (some 39) rfl rfl rfl ?q1_16 ?h1_16; (case q1_16 => (intro w' hS; obtain ⟨s1, s2⟩ := hS; first | (go_simp; done) | (go_simp; rfl))); (try simp only [PU])
        refine tree_q (v := ?v1_15) (some 40) rfl rfl rfl ?q1_15 ?h1_15; (case q1_15 => (intro w' hS; obtain ⟨s1, s2⟩ := hS; first | (go_simp; done) | (go_simp; rfl))); (try simp only [PU])
        refine tree_b rfl rfl ?b1_13 ?nb1_13
        case' b1_13 =>
          have hfit : n * 6 + 6 ≤ cur.size := by have h1 := Hcf.out.1; have h2 := Hcf.out.2.1; omega
          go_must (refine ev_store (x := .agg #[.int .i64 jk, .bool jb, .int .i64 jn, .string jt, .slice kA' kl kc', .slice jA vl jc]) (vs := [.int .i64 jk, .bool jb, .int .i64 jn, .string jt, .slice kA' kl kc', .slice jA vl jc]) (off := n * 6) (cs' := List.toArray (cur.toList.take (n * 6) ++ ([Value.int .i64 jk, Value.bool jb, Value.int .i64 jn, Value.string jt, Value.slice kA' kl kc', Value.slice jA vl jc] : List Value) ++ cur.toList.drop (n * 6 + 6))) rfl rfl rfl rfl rfl rfl HI.out.1.1 HI.out.1.2 rfl Hcur.out hfit rfl ?_; intro w7 hb7 hk7)
          (try simp only [PU])
          have Hown9 := Lib.hid (RowJ.push HJc.out HV.out (fun b hb => ⟨by have := HDD.out; have := hb.1; omega, fun e => by have := HE.out b e; have := hb.1; omega, fun e => by have := (row_lt HJ.out.row b e.symm).2; have := hb.1; omega, hb.2⟩) (fun b e => Nat.lt_of_lt_of_le (HE.out b e) HWc.out) rfl (by rw [Hnn.out]; exact Hrowk.out) HKo.out Hr6.out (by rw [Hnn.out]) Hcur.out (by rw [Hnn.out]; exact hb7) hk7)
          have H2k := Lib.hid (hk7.blk H2k.out (blk_type H2k.out Hcur.out (by decide)))
          have H3k := Lib.hid (hk7.blk H3k.out (blk_type H3k.out Hcur.out (by decide)))
          have HSk := Lib.hid (hk7.blk HSk.out (blk_type HSk.out Hcur.out (by decide)))
          have HMk := Lib.hid (hk7.blk HMk.out (fun e => map_ne Hcur.out HMk.out e.symm))
          have HOk := Lib.hid (HOk.out.keep hk7 (fun k hk' e => HOk.out.ne Hcur.out (by decide) (by rw [hk', e])))
          have H6k := Lib.hid (hk7.blk H6k.out Hg6r.out)
          have Hrk := Lib.hid (Hrk.out.keep hk7 (blk_type Hrk.out.blk Hcur.out (by decide)))
          have HKall := Lib.hid (HKall.out.trans hk7 (fun i _ e => .inr (by rw [e]; exact Hcf.out.2.2)))
          clear hb7 hk7 hfit
          refine wpList_nil ⟨⟨(blk_cell H2k.out 0).trans rfl, (blk_cell H3k.out 0).trans rfl⟩, ?_⟩
          refine tree_e rfl rfl ?_
          go_must (refine ev_store (cs' := #[.int .i64 6, .bool false, .int .i64 0, .string ByteArray.empty, .slice (some ⟨gq, 0, none⟩) (x.1.length + 1) cq, .slice (some ⟨gr, 0, none⟩) (n + 1) cap]) rfl rfl rfl rfl rfl rfl HI.out.2.1 HI.out.2.2 rfl H6k.out (Nat.le_of_ble_eq_true rfl) rfl ?_; intro w8 hb8 hk8)
          (try simp only [PU])
          have Hb8 := Lib.hid hb8
          (try have Hown9 := Lib.hid (Hown9.out.keep hk8 (fun b _ e => .inr (.inl e))))
          (try have HKo := Lib.hid (HKo.out.trans hk8 (fun _ _ e => .inr (.inl e))))
          (try have Hrowk := Lib.hid (row_keep Hrowk.out hk8 (fun k hk e => Hg6r.out (by rw [← e]; exact (Option.some.inj hk).symm))))
          (try have Hcur := Lib.hid (hk8.blk Hcur.out (fun e => Hg6r.out e.symm)))
          have H2k := Lib.hid (hk8.blk H2k.out (blk_type H2k.out H6k.out (by decide)))
          have H3k := Lib.hid (hk8.blk H3k.out (blk_type H3k.out H6k.out (by decide)))
          have HSk := Lib.hid (hk8.blk HSk.out (blk_type HSk.out H6k.out (by decide)))
          have HMk := Lib.hid (hk8.blk HMk.out (fun e => map_ne H6k.out HMk.out e.symm))
          have HOk := Lib.hid (HOk.out.keep hk8 (fun k hk' e => HOk.out.ne H6k.out (by decide) (by rw [hk', e])))
          have Hrk := Lib.hid (Hrk.out.keep hk8 (fun e => N.out.2.2 e.symm))
          have HKall := Lib.hid (HKall.out.trans hk8 (fun i _ e => .inr (by rw [e]; exact HDD.out.2.2)))
          have H6k := Hb8
          clear hb8 hk8
          refine wpList_nil ⟨⟨(blk_cell H2k.out 0).trans rfl, (blk_cell H3k.out 0).trans rfl⟩, ?_⟩
          refine tree_nil ?_
        case' nb1_13 =>
          refine tree_e rfl rfl ?b1_14
          case' b1_14 =>
            go_must (refine ev_store (cs' := #[.int .i64 6, .bool false, .int .i64 0, .string ByteArray.empty, .slice (some ⟨gq, 0, none⟩) (x.1.length + 1) cq, .slice (some ⟨gr, 0, none⟩) (n + 1) cap]) rfl rfl rfl rfl rfl rfl HI.out.2.1 HI.out.2.2 rfl H6k.out (Nat.le_of_ble_eq_true rfl) rfl ?_; intro w8 hb8 hk8)
            (try simp only [PU])
            have Hb8 := Lib.hid hb8
            (try have Hown9 := Lib.hid (Hown9.out.keep hk8 (fun b _ e => .inr (.inl e))))
            (try have HKo := Lib.hid (HKo.out.trans hk8 (fun _ _ e => .inr (.inl e))))
            (try have Hrowk := Lib.hid (row_keep Hrowk.out hk8 (fun k hk e => Hg6r.out (by rw [← e]; exact (Option.some.inj hk).symm))))
            (try have Hcur := Lib.hid (hk8.blk Hcur.out (fun e => Hg6r.out e.symm)))
            have H2k := Lib.hid (hk8.blk H2k.out (blk_type H2k.out H6k.out (by decide)))
            have H3k := Lib.hid (hk8.blk H3k.out (blk_type H3k.out H6k.out (by decide)))
            have HSk := Lib.hid (hk8.blk HSk.out (blk_type HSk.out H6k.out (by decide)))
            have HMk := Lib.hid (hk8.blk HMk.out (fun e => map_ne H6k.out HMk.out e.symm))
            have HOk := Lib.hid (HOk.out.keep hk8 (fun k hk' e => HOk.out.ne H6k.out (by decide) (by rw [hk', e])))
            have Hrk := Lib.hid (Hrk.out.keep hk8 (fun e => N.out.2.2 e.symm))
            have HKall := Lib.hid (HKall.out.trans hk8 (fun i _ e => .inr (by rw [e]; exact HDD.out.2.2)))
            have H6k := Hb8
            clear hb8 hk8
            refine wpList_nil ⟨⟨(blk_cell H2k.out 0).trans rfl, (blk_cell H3k.out 0).trans rfl⟩, ?_⟩
            refine tree_e rfl rfl ?_
            have hfit : n * 6 + 6 ≤ cur.size := by have h1 := Hcf.out.1; have h2 := Hcf.out.2.1; omega
            go_must (refine ev_store (x := .agg #[.int .i64 jk, .bool jb, .int .i64 jn, .string jt, .slice kA' kl kc', .slice jA vl jc]) (vs := [.int .i64 jk, .bool jb, .int .i64 jn, .string jt, .slice kA' kl kc', .slice jA vl jc]) (off := n * 6) (cs' := List.toArray (cur.toList.take (n * 6) ++ ([Value.int .i64 jk, Value.bool jb, Value.int .i64 jn, Value.string jt, Value.slice kA' kl kc', Value.slice jA vl jc] : List Value) ++ cur.toList.drop (n * 6 + 6))) rfl rfl rfl rfl rfl rfl HI.out.1.1 HI.out.1.2 rfl Hcur.out hfit rfl ?_; intro w7 hb7 hk7)
            (try simp only [PU])
            have Hown9 := Lib.hid (RowJ.push HJc.out HV.out (fun b hb => ⟨by have := HDD.out; have := hb.1; omega, fun e => by have := HE.out b e; have := hb.1; omega, fun e => by have := (row_lt HJ.out.row b e.symm).2; have := hb.1; omega, hb.2⟩) (fun b e => Nat.lt_of_lt_of_le (HE.out b e) HWc.out) rfl (by rw [Hnn.out]; exact Hrowk.out) HKo.out Hr6.out (by rw [Hnn.out]) Hcur.out (by rw [Hnn.out]; exact hb7) hk7)
            have H2k := Lib.hid (hk7.blk H2k.out (blk_type H2k.out Hcur.out (by decide)))
            have H3k := Lib.hid (hk7.blk H3k.out (blk_type H3k.out Hcur.out (by decide)))
            have HSk := Lib.hid (hk7.blk HSk.out (blk_type HSk.out Hcur.out (by decide)))
            have HMk := Lib.hid (hk7.blk HMk.out (fun e => map_ne Hcur.out HMk.out e.symm))
            have HOk := Lib.hid (HOk.out.keep hk7 (fun k hk' e => HOk.out.ne Hcur.out (by decide) (by rw [hk', e])))
            have H6k := Lib.hid (hk7.blk H6k.out Hg6r.out)
            have Hrk := Lib.hid (Hrk.out.keep hk7 (blk_type Hrk.out.blk Hcur.out (by decide)))
            have HKall := Lib.hid (HKall.out.trans hk7 (fun i _ e => .inr (by rw [e]; exact Hcf.out.2.2)))
            clear hb7 hk7 hfit
            refine wpList_nil ⟨⟨(blk_cell H2k.out 0).trans rfl, (blk_cell H3k.out 0).trans rfl⟩, ?_⟩
            refine tree_nil ?_
      case' nb1_18 =>
        refine tree_e rfl rfl ?b1_24
        case' b1_24 =>
          go_must (refine ev_slice (cs := #[.int .i64 0, .bool false, .int .i64 0, .string ByteArray.empty, .slice none 0 0, .slice none 0 0]) (t := 25) (n := 1) (c := 1) rfl (by first | (go_simp; done) | (go_simp; rfl)) ?_; intro gz wz hgz hlz hbz hkz)
          (try simp only [PU])
          have Hgz := Lib.hid (Nat.le_trans HKr.out.size hgz)
          have Hbz := Lib.hid hbz
          (try have Hr1 := Lib.hid (Hr1.out.keep hkz id))
          (try have HV := Lib.hid (HV.out.keep (X' := fun b => w12.heap.size ≤ b ∧ b < wz.heap.size) hkz (fun _ _ _ => id) (fun b hb h => ⟨h.1, Nat.lt_of_lt_of_le h.2 hkz.size⟩)))
          (try have Hr0 := Lib.hid (Rd.keep (M := Nob) Hr0.out hkz id))
          have HKr := Lib.hid (HKr.out.then hkz)
          clear hbz hkz hgz
          refine wpList_nil ⟨⟨HKr.out.cell c2 N.out.1, HKr.out.cell c3 N.out.2.1⟩, ?_⟩
          refine tree_e rfl rfl ?_
          have c6 := HKr.out.cell c5' N.out.2.2
          go_wp2_with fail
          clear c6
          (try refine ⟨⟨HKr.out.cell c2 N.out.1, HKr.out.cell c3 N.out.2.1⟩, ?_⟩)
          refine tree_q (v := ?v1_23) (some 36) rfl rfl rfl ?q1_23 ?h1_23; (case q1_23 => (intro w' hS; obtain ⟨s1, s2⟩ := hS; first | (go_simp; done) | (go_simp; rfl))); (try simp only [PU])
          refine tree_e rfl rfl ?_
          have HJc := Lib.hid (HJ.out.keep HKr.out (fun b _ e => .inl (by have := HDD.out; omega)))
          have hrow7 := HJc.out.row
          rw [Hnn.out] at hrow7
          have Hrow7 := Lib.hid hrow7
          clear hrow7
          go_must (refine ev_append rfl rfl Tryd.underlying23 info25b rfl (by decide) (base := base) rfl Hrow7.out rfl (news := [.int .i64 0, .bool false, .int .i64 0, .string ByteArray.empty, .slice none 0 0, .slice none 0 0]) rfl (fun _ => ⟨_, rfl, World.news_of_block Hbz.out⟩) (by simp [Value.oneCell']) (by omega) (by decide) (by have := HKr.out.size; have := HDD.out; omega) ?_; intro v6 w6 hown6 hk6 hr6 hf6; obtain ⟨gr, cap, rfl⟩ := hf6 (by decide))
          have Hr6 := Lib.hid hr6
          (try simp only [PU])
          have b2 := HKr.out.blk H2c.out N.out.1
          have b3 := HKr.out.blk H3c.out N.out.2.1
          have b6 := HKr.out.blk H5b.out N.out.2.2
          have bS := HKr.out.blk HSc.out NS.out.1
          have bm := HKr.out.blk HMc.out.1 NS.out.2
          have bk := HOS.out.keep HKr.out (fun k hk' e => by have h1 := (HOS.out.lt k hk').1; have := HDD.out; omega)
          have H2k := Lib.hid (hk6.blk b2 (row_ne Hrow7.out b2 (by decide)))
          have H3k := Lib.hid (hk6.blk b3 (row_ne Hrow7.out b3 (by decide)))
          have HSk := Lib.hid (hk6.blk bS (row_ne Hrow7.out bS (by decide)))
          have HMk := Lib.hid (hk6.blk bm (row_neMap Hrow7.out bm))
          have HOk := Lib.hid (bk.keep hk6 (fun k hk' e => HJc.out.ne k e.symm (.inr (.inr hk'.symm))))
          have H6k := Lib.hid (hk6.blk b6 (fun e => HJc.out.ne g5 e.symm (.inl rfl)))
          have Hrk := Lib.hid (Hr1.out.keep hk6 (row_ne Hrow7.out Hr1.out.blk (by decide)))
          obtain ⟨cur, hcur⟩ : ∃ cur, w6.heap[gr]? = some (.cells cur 25 (0, 0)) ∧ n + 1 ≤ cap ∧ cur.size = cap * 6 ∧ base ≤ gr := by
            rcases hown6.2 with ⟨e, _⟩ | ⟨g', cap', cur, e, hb, hg', hc, hm, hs, ht⟩
            · cases e
            · injection e with e1 e2 e3
              injection e1 with e1
              injection e1 with e1
              subst e1; subst e3
              exact ⟨cur, hg', hc, hs, hb⟩
          have Hcf := Lib.hid hcur.2
          have Hcur := Lib.hid hcur.1
          have Hg6r := Lib.hid (row_notin (fun e => HJc.out.ne g5 e (.inl rfl)) (blk_lt H5b.out) HKr.out.size hr6)
          have Hrowk := Lib.hid hown6
          have HKo := Lib.hid (hk6.mono (M' := fun k => some k = (Value.slice vA n vc).ownBlock ∨ (k = g5 ∨ k = gm ∨ some k = (Value.slice (some ⟨gq, 0, none⟩) (x.1.length + 1) cq).ownBlock)) (fun _ _ e => .inl e))
          have HKall := Lib.hid ((HKM.out.trans (keepsMR HKr.out) (fun _ _ h => h)).trans hk6 (fun i hi e => .inr (row_lt HJ.out.row i e.symm).1))
          have HWc := Lib.hid HKr.out.size
          have hlt1 : (n : Int) < (n : Int) + 1 := by omega
          clear hown6 hk6 hr6 hf6 b2 b3 b6 bS bm bk hcur
          refine wpList_nil ⟨⟨(blk_cell H2k.out 0).trans rfl, (blk_cell H3k.out 0).trans rfl⟩, ?_⟩
          refine tree_q (v := ?v1_22) (some 39) rfl rfl rfl ?q1_22 ?h1_22; (case q1_22 => (intro w' hS; obtain ⟨s1, s2⟩ := hS; first | (go_simp; done) | (go_simp; rfl))); (try simp only [PU])
          refine tree_q (v := ?v1_21) (some 40) rfl rfl rfl ?q1_21 ?h1_21; (case q1_21 => (intro w' hS; obtain ⟨s1, s2⟩ := hS; first | (go_simp; done) | (go_simp; rfl))); (try simp only [PU])
          refine tree_b rfl rfl ?b1_19 ?nb1_19
          case' b1_19 =>
            have hfit : n * 6 + 6 ≤ cur.size := by have h1 := Hcf.out.1; have h2 := Hcf.out.2.1; omega
            go_must (refine ev_store (x := .agg #[.int .i64 jk, .bool jb, .int .i64 jn, .string jt, .slice kA' kl kc', .slice jA vl jc]) (vs := [.int .i64 jk, .bool jb, .int .i64 jn, .string jt, .slice kA' kl kc', .slice jA vl jc]) (off := n * 6) (cs' := List.toArray (cur.toList.take (n * 6) ++ ([Value.int .i64 jk, Value.bool jb, Value.int .i64 jn, Value.string jt, Value.slice kA' kl kc', Value.slice jA vl jc] : List Value) ++ cur.toList.drop (n * 6 + 6))) rfl rfl rfl rfl rfl rfl HI.out.1.1 HI.out.1.2 rfl Hcur.out hfit rfl ?_; intro w7 hb7 hk7)
            (try simp only [PU])
            have Hown9 := Lib.hid (RowJ.push HJc.out HV.out (fun b hb => ⟨by have := HDD.out; have := hb.1; omega, fun e => by have := HE.out b e; have := hb.1; omega, fun e => by have := (row_lt HJ.out.row b e.symm).2; have := hb.1; omega, hb.2⟩) (fun b e => Nat.lt_of_lt_of_le (HE.out b e) HWc.out) rfl (by rw [Hnn.out]; exact Hrowk.out) HKo.out Hr6.out (by rw [Hnn.out]) Hcur.out (by rw [Hnn.out]; exact hb7) hk7)
            have H2k := Lib.hid (hk7.blk H2k.out (blk_type H2k.out Hcur.out (by decide)))
            have H3k := Lib.hid (hk7.blk H3k.out (blk_type H3k.out Hcur.out (by decide)))
            have HSk := Lib.hid (hk7.blk HSk.out (blk_type HSk.out Hcur.out (by decide)))
            have HMk := Lib.hid (hk7.blk HMk.out (fun e => map_ne Hcur.out HMk.out e.symm))
            have HOk := Lib.hid (HOk.out.keep hk7 (fun k hk' e => HOk.out.ne Hcur.out (by decide) (by rw [hk', e])))
            have H6k := Lib.hid (hk7.blk H6k.out Hg6r.out)
            have Hrk := Lib.hid (Hrk.out.keep hk7 (blk_type Hrk.out.blk Hcur.out (by decide)))
            have HKall := Lib.hid (HKall.out.trans hk7 (fun i _ e => .inr (by rw [e]; exact Hcf.out.2.2)))
            clear hb7 hk7 hfit
            refine wpList_nil ⟨⟨(blk_cell H2k.out 0).trans rfl, (blk_cell H3k.out 0).trans rfl⟩, ?_⟩
            refine tree_e rfl rfl ?_
            go_must (refine ev_store (cs' := #[.int .i64 6, .bool false, .int .i64 0, .string ByteArray.empty, .slice (some ⟨gq, 0, none⟩) (x.1.length + 1) cq, .slice (some ⟨gr, 0, none⟩) (n + 1) cap]) rfl rfl rfl rfl rfl rfl HI.out.2.1 HI.out.2.2 rfl H6k.out (Nat.le_of_ble_eq_true rfl) rfl ?_; intro w8 hb8 hk8)
            (try simp only [PU])
            have Hb8 := Lib.hid hb8
            (try have Hown9 := Lib.hid (Hown9.out.keep hk8 (fun b _ e => .inr (.inl e))))
            (try have HKo := Lib.hid (HKo.out.trans hk8 (fun _ _ e => .inr (.inl e))))
            (try have Hrowk := Lib.hid (row_keep Hrowk.out hk8 (fun k hk e => Hg6r.out (by rw [← e]; exact (Option.some.inj hk).symm))))
            (try have Hcur := Lib.hid (hk8.blk Hcur.out (fun e => Hg6r.out e.symm)))
            have H2k := Lib.hid (hk8.blk H2k.out (blk_type H2k.out H6k.out (by decide)))
            have H3k := Lib.hid (hk8.blk H3k.out (blk_type H3k.out H6k.out (by decide)))
            have HSk := Lib.hid (hk8.blk HSk.out (blk_type HSk.out H6k.out (by decide)))
            have HMk := Lib.hid (hk8.blk HMk.out (fun e => map_ne H6k.out HMk.out e.symm))
            have HOk := Lib.hid (HOk.out.keep hk8 (fun k hk' e => HOk.out.ne H6k.out (by decide) (by rw [hk', e])))
            have Hrk := Lib.hid (Hrk.out.keep hk8 (fun e => N.out.2.2 e.symm))
            have HKall := Lib.hid (HKall.out.trans hk8 (fun i _ e => .inr (by rw [e]; exact HDD.out.2.2)))
            have H6k := Hb8
            clear hb8 hk8
            refine wpList_nil ⟨⟨(blk_cell H2k.out 0).trans rfl, (blk_cell H3k.out 0).trans rfl⟩, ?_⟩
            refine tree_nil ?_
          case' nb1_19 =>
            refine tree_e rfl rfl ?b1_20
            case' b1_20 =>
              go_must (refine ev_store (cs' := #[.int .i64 6, .bool false, .int .i64 0, .string ByteArray.empty, .slice (some ⟨gq, 0, none⟩) (x.1.length + 1) cq, .slice (some ⟨gr, 0, none⟩) (n + 1) cap]) rfl rfl rfl rfl rfl rfl HI.out.2.1 HI.out.2.2 rfl H6k.out (Nat.le_of_ble_eq_true rfl) rfl ?_; intro w8 hb8 hk8)
              (try simp only [PU])
              have Hb8 := Lib.hid hb8
              (try have Hown9 := Lib.hid (Hown9.out.keep hk8 (fun b _ e => .inr (.inl e))))
              (try have HKo := Lib.hid (HKo.out.trans hk8 (fun _ _ e => .inr (.inl e))))
              (try have Hrowk := Lib.hid (row_keep Hrowk.out hk8 (fun k hk e => Hg6r.out (by rw [← e]; exact (Option.some.inj hk).symm))))
              (try have Hcur := Lib.hid (hk8.blk Hcur.out (fun e => Hg6r.out e.symm)))
              have H2k := Lib.hid (hk8.blk H2k.out (blk_type H2k.out H6k.out (by decide)))
              have H3k := Lib.hid (hk8.blk H3k.out (blk_type H3k.out H6k.out (by decide)))
              have HSk := Lib.hid (hk8.blk HSk.out (blk_type HSk.out H6k.out (by decide)))
              have HMk := Lib.hid (hk8.blk HMk.out (fun e => map_ne H6k.out HMk.out e.symm))
              have HOk := Lib.hid (HOk.out.keep hk8 (fun k hk' e => HOk.out.ne H6k.out (by decide) (by rw [hk', e])))
              have Hrk := Lib.hid (Hrk.out.keep hk8 (fun e => N.out.2.2 e.symm))
              have HKall := Lib.hid (HKall.out.trans hk8 (fun i _ e => .inr (by rw [e]; exact HDD.out.2.2)))
              have H6k := Hb8
              clear hb8 hk8
              refine wpList_nil ⟨⟨(blk_cell H2k.out 0).trans rfl, (blk_cell H3k.out 0).trans rfl⟩, ?_⟩
              refine tree_e rfl rfl ?_
              have hfit : n * 6 + 6 ≤ cur.size := by have h1 := Hcf.out.1; have h2 := Hcf.out.2.1; omega
              go_must (refine ev_store (x := .agg #[.int .i64 jk, .bool jb, .int .i64 jn, .string jt, .slice kA' kl kc', .slice jA vl jc]) (vs := [.int .i64 jk, .bool jb, .int .i64 jn, .string jt, .slice kA' kl kc', .slice jA vl jc]) (off := n * 6) (cs' := List.toArray (cur.toList.take (n * 6) ++ ([Value.int .i64 jk, Value.bool jb, Value.int .i64 jn, Value.string jt, Value.slice kA' kl kc', Value.slice jA vl jc] : List Value) ++ cur.toList.drop (n * 6 + 6))) rfl rfl rfl rfl rfl rfl HI.out.1.1 HI.out.1.2 rfl Hcur.out hfit rfl ?_; intro w7 hb7 hk7)
              (try simp only [PU])
              have Hown9 := Lib.hid (RowJ.push HJc.out HV.out (fun b hb => ⟨by have := HDD.out; have := hb.1; omega, fun e => by have := HE.out b e; have := hb.1; omega, fun e => by have := (row_lt HJ.out.row b e.symm).2; have := hb.1; omega, hb.2⟩) (fun b e => Nat.lt_of_lt_of_le (HE.out b e) HWc.out) rfl (by rw [Hnn.out]; exact Hrowk.out) HKo.out Hr6.out (by rw [Hnn.out]) Hcur.out (by rw [Hnn.out]; exact hb7) hk7)
              have H2k := Lib.hid (hk7.blk H2k.out (blk_type H2k.out Hcur.out (by decide)))
              have H3k := Lib.hid (hk7.blk H3k.out (blk_type H3k.out Hcur.out (by decide)))
              have HSk := Lib.hid (hk7.blk HSk.out (blk_type HSk.out Hcur.out (by decide)))
              have HMk := Lib.hid (hk7.blk HMk.out (fun e => map_ne Hcur.out HMk.out e.symm))
              have HOk := Lib.hid (HOk.out.keep hk7 (fun k hk' e => HOk.out.ne Hcur.out (by decide) (by rw [hk', e])))
              have H6k := Lib.hid (hk7.blk H6k.out Hg6r.out)
              have Hrk := Lib.hid (Hrk.out.keep hk7 (blk_type Hrk.out.blk Hcur.out (by decide)))
              have HKall := Lib.hid (HKall.out.trans hk7 (fun i _ e => .inr (by rw [e]; exact Hcf.out.2.2)))
              clear hb7 hk7 hfit
              refine wpList_nil ⟨⟨(blk_cell H2k.out 0).trans rfl, (blk_cell H3k.out 0).trans rfl⟩, ?_⟩
              refine tree_nil ?_
    case' nb1_25 =>
      refine tree_e rfl rfl ?b1_38
      case' b1_38 =>
        go_must (refine ev_slice (cs := #[.int .i64 0, .bool false, .int .i64 0, .string ByteArray.empty, .slice none 0 0, .slice none 0 0]) (t := 25) (n := 1) (c := 1) rfl (by first | (go_simp; done) | (go_simp; rfl)) ?_; intro gz wz hgz hlz hbz hkz)
        (try simp only [PU])
        have Hgz := Lib.hid (Nat.le_trans HKr.out.size hgz)
        have Hbz := Lib.hid hbz
        (try have Hr1 := Lib.hid (Hr1.out.keep hkz id))
        (try have HV := Lib.hid (HV.out.keep (X' := fun b => w12.heap.size ≤ b ∧ b < wz.heap.size) hkz (fun _ _ _ => id) (fun b hb h => ⟨h.1, Nat.lt_of_lt_of_le h.2 hkz.size⟩)))
        (try have Hr0 := Lib.hid (Rd.keep (M := Nob) Hr0.out hkz id))
        have HKr := Lib.hid (HKr.out.then hkz)
        clear hbz hkz hgz
        refine wpList_nil ⟨⟨HKr.out.cell c2 N.out.1, HKr.out.cell c3 N.out.2.1⟩, ?_⟩
        refine tree_b rfl rfl ?b1_31 ?nb1_31
        case' b1_31 =>
          have c6 := HKr.out.cell c5' N.out.2.2
          go_wp2_with fail
          clear c6
          (try refine ⟨⟨HKr.out.cell c2 N.out.1, HKr.out.cell c3 N.out.2.1⟩, ?_⟩)
          refine tree_q (v := ?v1_30) (some 36) rfl rfl rfl ?q1_30 ?h1_30; (case q1_30 => (intro w' hS; obtain ⟨s1, s2⟩ := hS; first | (go_simp; done) | (go_simp; rfl))); (try simp only [PU])
          refine tree_e rfl rfl ?_
          go_wp2_with (go_at_call 80; go_must (refine (Hin.out _ Hr0.out).mono ?_; rintro e w1 ⟨⟨v1, rfl, hv1⟩, hr1, hk1⟩; obtain ⟨jk, jb, jn, jt, jks, jvs, jkv, jvv, hjj, rfl, hjk, hjv⟩ := hv1.open; obtain ⟨kA', kc', rfl, -, -⟩ := hjk; obtain ⟨jA, jc, ju, rfl, -, -, -⟩ := hjv); have hw0 := HKr.out.size; have HV := Lib.hid (hv1.keep (X' := fun b => w12.heap.size ≤ b ∧ b < w1.heap.size) (Keeps.refl Nob w1) (fun _ _ _ => id) (fun b hb hx => ⟨Nat.le_trans hw0 hx, hb⟩)); have Hr1 := Lib.hid hr1; have Hk1 := Lib.hid hk1; have HKr := Lib.hid (HKr.out.trans hk1 (fun _ _ h => h)); clear hv1 hr1 hjj hw0 hk1; generalize jks.length = kl at *; generalize jvs.length = vl at *; (try simp only [PU]))
          (try have Hbz := Lib.hid (Hk1.out.blk Hbz.out (fun e : gz = r => by have h1 : w12.heap.size ≤ gz := Hgz.out; have h2 := HDD.out; omega)))
          refine ⟨⟨HKr.out.cell c2 N.out.1, HKr.out.cell c3 N.out.2.1⟩, ?_⟩
          refine tree_e rfl rfl ?_
          have HJc := Lib.hid (HJ.out.keep HKr.out (fun b _ e => .inl (by have := HDD.out; omega)))
          have hrow7 := HJc.out.row
          rw [Hnn.out] at hrow7
          have Hrow7 := Lib.hid hrow7
          clear hrow7
          go_must (refine ev_append rfl rfl Tryd.underlying23 info25b rfl (by decide) (base := base) rfl Hrow7.out rfl (news := [.int .i64 0, .bool false, .int .i64 0, .string ByteArray.empty, .slice none 0 0, .slice none 0 0]) rfl (fun _ => ⟨_, rfl, World.news_of_block Hbz.out⟩) (by simp [Value.oneCell']) (by omega) (by decide) (by have := HKr.out.size; have := HDD.out; omega) ?_; intro v6 w6 hown6 hk6 hr6 hf6; obtain ⟨gr, cap, rfl⟩ := hf6 (by decide))
          have Hr6 := Lib.hid hr6
          (try simp only [PU])
          have b2 := HKr.out.blk H2c.out N.out.1
          have b3 := HKr.out.blk H3c.out N.out.2.1
          have b6 := HKr.out.blk H5b.out N.out.2.2
          have bS := HKr.out.blk HSc.out NS.out.1
          have bm := HKr.out.blk HMc.out.1 NS.out.2
          have bk := HOS.out.keep HKr.out (fun k hk' e => by have h1 := (HOS.out.lt k hk').1; have := HDD.out; omega)
          have H2k := Lib.hid (hk6.blk b2 (row_ne Hrow7.out b2 (by decide)))
          have H3k := Lib.hid (hk6.blk b3 (row_ne Hrow7.out b3 (by decide)))
          have HSk := Lib.hid (hk6.blk bS (row_ne Hrow7.out bS (by decide)))
          have HMk := Lib.hid (hk6.blk bm (row_neMap Hrow7.out bm))
          have HOk := Lib.hid (bk.keep hk6 (fun k hk' e => HJc.out.ne k e.symm (.inr (.inr hk'.symm))))
          have H6k := Lib.hid (hk6.blk b6 (fun e => HJc.out.ne g5 e.symm (.inl rfl)))
          have Hrk := Lib.hid (Hr1.out.keep hk6 (row_ne Hrow7.out Hr1.out.blk (by decide)))
          obtain ⟨cur, hcur⟩ : ∃ cur, w6.heap[gr]? = some (.cells cur 25 (0, 0)) ∧ n + 1 ≤ cap ∧ cur.size = cap * 6 ∧ base ≤ gr := by
            rcases hown6.2 with ⟨e, _⟩ | ⟨g', cap', cur, e, hb, hg', hc, hm, hs, ht⟩
            · cases e
            · injection e with e1 e2 e3
              injection e1 with e1
              injection e1 with e1
              subst e1; subst e3
              exact ⟨cur, hg', hc, hs, hb⟩
          have Hcf := Lib.hid hcur.2
          have Hcur := Lib.hid hcur.1
          have Hg6r := Lib.hid (row_notin (fun e => HJc.out.ne g5 e (.inl rfl)) (blk_lt H5b.out) HKr.out.size hr6)
          have Hrowk := Lib.hid hown6
          have HKo := Lib.hid (hk6.mono (M' := fun k => some k = (Value.slice vA n vc).ownBlock ∨ (k = g5 ∨ k = gm ∨ some k = (Value.slice (some ⟨gq, 0, none⟩) (x.1.length + 1) cq).ownBlock)) (fun _ _ e => .inl e))
          have HKall := Lib.hid ((HKM.out.trans (keepsMR HKr.out) (fun _ _ h => h)).trans hk6 (fun i hi e => .inr (row_lt HJ.out.row i e.symm).1))
          have HWc := Lib.hid HKr.out.size
          have hlt1 : (n : Int) < (n : Int) + 1 := by omega
          clear hown6 hk6 hr6 hf6 b2 b3 b6 bS bm bk hcur
          refine wpList_nil ⟨⟨(blk_cell H2k.out 0).trans rfl, (blk_cell H3k.out 0).trans rfl⟩, ?_⟩
          refine tree_q (v := ?v1_29) (some 39) rfl rfl rfl ?q1_29 ?h1_29; (case q1_29 => (intro w' hS; obtain ⟨s1, s2⟩ := hS; first | (go_simp; done) | (go_simp; rfl))); (try simp only [PU])
          refine tree_q (v := ?v1_28) (some 40) rfl rfl rfl ?q1_28 ?h1_28; (case q1_28 => (intro w' hS; obtain ⟨s1, s2⟩ := hS; first | (go_simp; done) | (go_simp; rfl))); (try simp only [PU])
          refine tree_b rfl rfl ?b1_26 ?nb1_26
          case' b1_26 =>
            have hfit : n * 6 + 6 ≤ cur.size := by have h1 := Hcf.out.1; have h2 := Hcf.out.2.1; omega
            go_must (refine ev_store (x := .agg #[.int .i64 jk, .bool jb, .int .i64 jn, .string jt, .slice kA' kl kc', .slice jA vl jc]) (vs := [.int .i64 jk, .bool jb, .int .i64 jn, .string jt, .slice kA' kl kc', .slice jA vl jc]) (off := n * 6) (cs' := List.toArray (cur.toList.take (n * 6) ++ ([Value.int .i64 jk, Value.bool jb, Value.int .i64 jn, Value.string jt, Value.slice kA' kl kc', Value.slice jA vl jc] : List Value) ++ cur.toList.drop (n * 6 + 6))) rfl rfl rfl rfl rfl rfl HI.out.1.1 HI.out.1.2 rfl Hcur.out hfit rfl ?_; intro w7 hb7 hk7)
            (try simp only [PU])
            have Hown9 := Lib.hid (RowJ.push HJc.out HV.out (fun b hb => ⟨by have := HDD.out; have := hb.1; omega, fun e => by have := HE.out b e; have := hb.1; omega, fun e => by have := (row_lt HJ.out.row b e.symm).2; have := hb.1; omega, hb.2⟩) (fun b e => Nat.lt_of_lt_of_le (HE.out b e) HWc.out) rfl (by rw [Hnn.out]; exact Hrowk.out) HKo.out Hr6.out (by rw [Hnn.out]) Hcur.out (by rw [Hnn.out]; exact hb7) hk7)
            have H2k := Lib.hid (hk7.blk H2k.out (blk_type H2k.out Hcur.out (by decide)))
            have H3k := Lib.hid (hk7.blk H3k.out (blk_type H3k.out Hcur.out (by decide)))
            have HSk := Lib.hid (hk7.blk HSk.out (blk_type HSk.out Hcur.out (by decide)))
            have HMk := Lib.hid (hk7.blk HMk.out (fun e => map_ne Hcur.out HMk.out e.symm))
            have HOk := Lib.hid (HOk.out.keep hk7 (fun k hk' e => HOk.out.ne Hcur.out (by decide) (by rw [hk', e])))
            have H6k := Lib.hid (hk7.blk H6k.out Hg6r.out)
            have Hrk := Lib.hid (Hrk.out.keep hk7 (blk_type Hrk.out.blk Hcur.out (by decide)))
            have HKall := Lib.hid (HKall.out.trans hk7 (fun i _ e => .inr (by rw [e]; exact Hcf.out.2.2)))
            clear hb7 hk7 hfit
            refine wpList_nil ⟨⟨(blk_cell H2k.out 0).trans rfl, (blk_cell H3k.out 0).trans rfl⟩, ?_⟩
            refine tree_e rfl rfl ?_
            go_must (refine ev_store (cs' := #[.int .i64 6, .bool false, .int .i64 0, .string ByteArray.empty, .slice (some ⟨gq, 0, none⟩) (x.1.length + 1) cq, .slice (some ⟨gr, 0, none⟩) (n + 1) cap]) rfl rfl rfl rfl rfl rfl HI.out.2.1 HI.out.2.2 rfl H6k.out (Nat.le_of_ble_eq_true rfl) rfl ?_; intro w8 hb8 hk8)
            (try simp only [PU])
            have Hb8 := Lib.hid hb8
            (try have Hown9 := Lib.hid (Hown9.out.keep hk8 (fun b _ e => .inr (.inl e))))
            (try have HKo := Lib.hid (HKo.out.trans hk8 (fun _ _ e => .inr (.inl e))))
            (try have Hrowk := Lib.hid (row_keep Hrowk.out hk8 (fun k hk e => Hg6r.out (by rw [← e]; exact (Option.some.inj hk).symm))))
            (try have Hcur := Lib.hid (hk8.blk Hcur.out (fun e => Hg6r.out e.symm)))
            have H2k := Lib.hid (hk8.blk H2k.out (blk_type H2k.out H6k.out (by decide)))
            have H3k := Lib.hid (hk8.blk H3k.out (blk_type H3k.out H6k.out (by decide)))
            have HSk := Lib.hid (hk8.blk HSk.out (blk_type HSk.out H6k.out (by decide)))
            have HMk := Lib.hid (hk8.blk HMk.out (fun e => map_ne H6k.out HMk.out e.symm))
            have HOk := Lib.hid (HOk.out.keep hk8 (fun k hk' e => HOk.out.ne H6k.out (by decide) (by rw [hk', e])))
            have Hrk := Lib.hid (Hrk.out.keep hk8 (fun e => N.out.2.2 e.symm))
            have HKall := Lib.hid (HKall.out.trans hk8 (fun i _ e => .inr (by rw [e]; exact HDD.out.2.2)))
            have H6k := Hb8
            clear hb8 hk8
            refine wpList_nil ⟨⟨(blk_cell H2k.out 0).trans rfl, (blk_cell H3k.out 0).trans rfl⟩, ?_⟩
            refine tree_nil ?_
          case' nb1_26 =>
            refine tree_e rfl rfl ?b1_27
            case' b1_27 =>
              go_must (refine ev_store (cs' := #[.int .i64 6, .bool false, .int .i64 0, .string ByteArray.empty, .slice (some ⟨gq, 0, none⟩) (x.1.length + 1) cq, .slice (some ⟨gr, 0, none⟩) (n + 1) cap]) rfl rfl rfl rfl rfl rfl HI.out.2.1 HI.out.2.2 rfl H6k.out (Nat.le_of_ble_eq_true rfl) rfl ?_; intro w8 hb8 hk8)
              (try simp only [PU])
              have Hb8 := Lib.hid hb8
              (try have Hown9 := Lib.hid (Hown9.out.keep hk8 (fun b _ e => .inr (.inl e))))
              (try have HKo := Lib.hid (HKo.out.trans hk8 (fun _ _ e => .inr (.inl e))))
              (try have Hrowk := Lib.hid (row_keep Hrowk.out hk8 (fun k hk e => Hg6r.out (by rw [← e]; exact (Option.some.inj hk).symm))))
              (try have Hcur := Lib.hid (hk8.blk Hcur.out (fun e => Hg6r.out e.symm)))
              have H2k := Lib.hid (hk8.blk H2k.out (blk_type H2k.out H6k.out (by decide)))
              have H3k := Lib.hid (hk8.blk H3k.out (blk_type H3k.out H6k.out (by decide)))
              have HSk := Lib.hid (hk8.blk HSk.out (blk_type HSk.out H6k.out (by decide)))
              have HMk := Lib.hid (hk8.blk HMk.out (fun e => map_ne H6k.out HMk.out e.symm))
              have HOk := Lib.hid (HOk.out.keep hk8 (fun k hk' e => HOk.out.ne H6k.out (by decide) (by rw [hk', e])))
              have Hrk := Lib.hid (Hrk.out.keep hk8 (fun e => N.out.2.2 e.symm))
              have HKall := Lib.hid (HKall.out.trans hk8 (fun i _ e => .inr (by rw [e]; exact HDD.out.2.2)))
              have H6k := Hb8
              clear hb8 hk8
              refine wpList_nil ⟨⟨(blk_cell H2k.out 0).trans rfl, (blk_cell H3k.out 0).trans rfl⟩, ?_⟩
              refine tree_e rfl rfl ?_
              have hfit : n * 6 + 6 ≤ cur.size := by have h1 := Hcf.out.1; have h2 := Hcf.out.2.1; omega
              go_must (refine ev_store (x := .agg #[.int .i64 jk, .bool jb, .int .i64 jn, .string jt, .slice kA' kl kc', .slice jA vl jc]) (vs := [.int .i64 jk, .bool jb, .int .i64 jn, .string jt, .slice kA' kl kc', .slice jA vl jc]) (off := n * 6) (cs' := List.toArray (cur.toList.take (n * 6) ++ ([Value.int .i64 jk, Value.bool jb, Value.int .i64 jn, Value.string jt, Value.slice kA' kl kc', Value.slice jA vl jc] : List Value) ++ cur.toList.drop (n * 6 + 6))) rfl rfl rfl rfl rfl rfl HI.out.1.1 HI.out.1.2 rfl Hcur.out hfit rfl ?_; intro w7 hb7 hk7)
              (try simp only [PU])
              have Hown9 := Lib.hid (RowJ.push HJc.out HV.out (fun b hb => ⟨by have := HDD.out; have := hb.1; omega, fun e => by have := HE.out b e; have := hb.1; omega, fun e => by have := (row_lt HJ.out.row b e.symm).2; have := hb.1; omega, hb.2⟩) (fun b e => Nat.lt_of_lt_of_le (HE.out b e) HWc.out) rfl (by rw [Hnn.out]; exact Hrowk.out) HKo.out Hr6.out (by rw [Hnn.out]) Hcur.out (by rw [Hnn.out]; exact hb7) hk7)
              have H2k := Lib.hid (hk7.blk H2k.out (blk_type H2k.out Hcur.out (by decide)))
              have H3k := Lib.hid (hk7.blk H3k.out (blk_type H3k.out Hcur.out (by decide)))
              have HSk := Lib.hid (hk7.blk HSk.out (blk_type HSk.out Hcur.out (by decide)))
              have HMk := Lib.hid (hk7.blk HMk.out (fun e => map_ne Hcur.out HMk.out e.symm))
              have HOk := Lib.hid (HOk.out.keep hk7 (fun k hk' e => HOk.out.ne Hcur.out (by decide) (by rw [hk', e])))
              have H6k := Lib.hid (hk7.blk H6k.out Hg6r.out)
              have Hrk := Lib.hid (Hrk.out.keep hk7 (blk_type Hrk.out.blk Hcur.out (by decide)))
              have HKall := Lib.hid (HKall.out.trans hk7 (fun i _ e => .inr (by rw [e]; exact Hcf.out.2.2)))
              clear hb7 hk7 hfit
              refine wpList_nil ⟨⟨(blk_cell H2k.out 0).trans rfl, (blk_cell H3k.out 0).trans rfl⟩, ?_⟩
              refine tree_nil ?_
        case' nb1_31 =>
          refine tree_e rfl rfl ?b1_37
          case' b1_37 =>
            go_wp2_with (go_at_call 80; go_must (refine (Hin.out _ Hr0.out).mono ?_; rintro e w1 ⟨⟨v1, rfl, hv1⟩, hr1, hk1⟩; obtain ⟨jk, jb, jn, jt, jks, jvs, jkv, jvv, hjj, rfl, hjk, hjv⟩ := hv1.open; obtain ⟨kA', kc', rfl, -, -⟩ := hjk; obtain ⟨jA, jc, ju, rfl, -, -, -⟩ := hjv); have hw0 := HKr.out.size; have HV := Lib.hid (hv1.keep (X' := fun b => w12.heap.size ≤ b ∧ b < w1.heap.size) (Keeps.refl Nob w1) (fun _ _ _ => id) (fun b hb hx => ⟨Nat.le_trans hw0 hx, hb⟩)); have Hr1 := Lib.hid hr1; have Hk1 := Lib.hid hk1; have HKr := Lib.hid (HKr.out.trans hk1 (fun _ _ h => h)); clear hv1 hr1 hjj hw0 hk1; generalize jks.length = kl at *; generalize jvs.length = vl at *; (try simp only [PU]))
            (try have Hbz := Lib.hid (Hk1.out.blk Hbz.out (fun e : gz = r => by have h1 : w12.heap.size ≤ gz := Hgz.out; have h2 := HDD.out; omega)))
            refine ⟨⟨HKr.out.cell c2 N.out.1, HKr.out.cell c3 N.out.2.1⟩, ?_⟩
            refine tree_e rfl rfl ?_
            have c6 := HKr.out.cell c5' N.out.2.2
            go_wp2_with fail
            clear c6
            (try refine ⟨⟨HKr.out.cell c2 N.out.1, HKr.out.cell c3 N.out.2.1⟩, ?_⟩)
            refine tree_q (v := ?v1_36) (some 36) rfl rfl rfl ?q1_36 ?h1_36; (case q1_36 => (intro w' hS; obtain ⟨s1, s2⟩ := hS; first | (go_simp; done) | (go_simp; rfl))); (try simp only [PU])
            refine tree_e rfl rfl ?_
            have HJc := Lib.hid (HJ.out.keep HKr.out (fun b _ e => .inl (by have := HDD.out; omega)))
            have hrow7 := HJc.out.row
            rw [Hnn.out] at hrow7
            have Hrow7 := Lib.hid hrow7
            clear hrow7
            go_must (refine ev_append rfl rfl Tryd.underlying23 info25b rfl (by decide) (base := base) rfl Hrow7.out rfl (news := [.int .i64 0, .bool false, .int .i64 0, .string ByteArray.empty, .slice none 0 0, .slice none 0 0]) rfl (fun _ => ⟨_, rfl, World.news_of_block Hbz.out⟩) (by simp [Value.oneCell']) (by omega) (by decide) (by have := HKr.out.size; have := HDD.out; omega) ?_; intro v6 w6 hown6 hk6 hr6 hf6; obtain ⟨gr, cap, rfl⟩ := hf6 (by decide))
            have Hr6 := Lib.hid hr6
            (try simp only [PU])
            have b2 := HKr.out.blk H2c.out N.out.1
            have b3 := HKr.out.blk H3c.out N.out.2.1
            have b6 := HKr.out.blk H5b.out N.out.2.2
            have bS := HKr.out.blk HSc.out NS.out.1
            have bm := HKr.out.blk HMc.out.1 NS.out.2
            have bk := HOS.out.keep HKr.out (fun k hk' e => by have h1 := (HOS.out.lt k hk').1; have := HDD.out; omega)
            have H2k := Lib.hid (hk6.blk b2 (row_ne Hrow7.out b2 (by decide)))
            have H3k := Lib.hid (hk6.blk b3 (row_ne Hrow7.out b3 (by decide)))
            have HSk := Lib.hid (hk6.blk bS (row_ne Hrow7.out bS (by decide)))
            have HMk := Lib.hid (hk6.blk bm (row_neMap Hrow7.out bm))
            have HOk := Lib.hid (bk.keep hk6 (fun k hk' e => HJc.out.ne k e.symm (.inr (.inr hk'.symm))))
            have H6k := Lib.hid (hk6.blk b6 (fun e => HJc.out.ne g5 e.symm (.inl rfl)))
            have Hrk := Lib.hid (Hr1.out.keep hk6 (row_ne Hrow7.out Hr1.out.blk (by decide)))
            obtain ⟨cur, hcur⟩ : ∃ cur, w6.heap[gr]? = some (.cells cur 25 (0, 0)) ∧ n + 1 ≤ cap ∧ cur.size = cap * 6 ∧ base ≤ gr := by
              rcases hown6.2 with ⟨e, _⟩ | ⟨g', cap', cur, e, hb, hg', hc, hm, hs, ht⟩
              · cases e
              · injection e with e1 e2 e3
                injection e1 with e1
                injection e1 with e1
                subst e1; subst e3
                exact ⟨cur, hg', hc, hs, hb⟩
            have Hcf := Lib.hid hcur.2
            have Hcur := Lib.hid hcur.1
            have Hg6r := Lib.hid (row_notin (fun e => HJc.out.ne g5 e (.inl rfl)) (blk_lt H5b.out) HKr.out.size hr6)
            have Hrowk := Lib.hid hown6
            have HKo := Lib.hid (hk6.mono (M' := fun k => some k = (Value.slice vA n vc).ownBlock ∨ (k = g5 ∨ k = gm ∨ some k = (Value.slice (some ⟨gq, 0, none⟩) (x.1.length + 1) cq).ownBlock)) (fun _ _ e => .inl e))
            have HKall := Lib.hid ((HKM.out.trans (keepsMR HKr.out) (fun _ _ h => h)).trans hk6 (fun i hi e => .inr (row_lt HJ.out.row i e.symm).1))
            have HWc := Lib.hid HKr.out.size
            have hlt1 : (n : Int) < (n : Int) + 1 := by omega
            clear hown6 hk6 hr6 hf6 b2 b3 b6 bS bm bk hcur
            refine wpList_nil ⟨⟨(blk_cell H2k.out 0).trans rfl, (blk_cell H3k.out 0).trans rfl⟩, ?_⟩
            refine tree_q (v := ?v1_35) (some 39) rfl rfl rfl ?q1_35 ?h1_35; (case q1_35 => (intro w' hS; obtain ⟨s1, s2⟩ := hS; first | (go_simp; done) | (go_simp; rfl))); (try simp only [PU])
            refine tree_q (v := ?v1_34) (some 40) rfl rfl rfl ?q1_34 ?h1_34; (case q1_34 => (intro w' hS; obtain ⟨s1, s2⟩ := hS; first | (go_simp; done) | (go_simp; rfl))); (try simp only [PU])
            refine tree_b rfl rfl ?b1_32 ?nb1_32
            case' b1_32 =>
              have hfit : n * 6 + 6 ≤ cur.size := by have h1 := Hcf.out.1; have h2 := Hcf.out.2.1; omega
              go_must (refine ev_store (x := .agg #[.int .i64 jk, .bool jb, .int .i64 jn, .string jt, .slice kA' kl kc', .slice jA vl jc]) (vs := [.int .i64 jk, .bool jb, .int .i64 jn, .string jt, .slice kA' kl kc', .slice jA vl jc]) (off := n * 6) (cs' := List.toArray (cur.toList.take (n * 6) ++ ([Value.int .i64 jk, Value.bool jb, Value.int .i64 jn, Value.string jt, Value.slice kA' kl kc', Value.slice jA vl jc] : List Value) ++ cur.toList.drop (n * 6 + 6))) rfl rfl rfl rfl rfl rfl HI.out.1.1 HI.out.1.2 rfl Hcur.out hfit rfl ?_; intro w7 hb7 hk7)
              (try simp only [PU])
              have Hown9 := Lib.hid (RowJ.push HJc.out HV.out (fun b hb => ⟨by have := HDD.out; have := hb.1; omega, fun e => by have := HE.out b e; have := hb.1; omega, fun e => by have := (row_lt HJ.out.row b e.symm).2; have := hb.1; omega, hb.2⟩) (fun b e => Nat.lt_of_lt_of_le (HE.out b e) HWc.out) rfl (by rw [Hnn.out]; exact Hrowk.out) HKo.out Hr6.out (by rw [Hnn.out]) Hcur.out (by rw [Hnn.out]; exact hb7) hk7)
              have H2k := Lib.hid (hk7.blk H2k.out (blk_type H2k.out Hcur.out (by decide)))
              have H3k := Lib.hid (hk7.blk H3k.out (blk_type H3k.out Hcur.out (by decide)))
              have HSk := Lib.hid (hk7.blk HSk.out (blk_type HSk.out Hcur.out (by decide)))
              have HMk := Lib.hid (hk7.blk HMk.out (fun e => map_ne Hcur.out HMk.out e.symm))
              have HOk := Lib.hid (HOk.out.keep hk7 (fun k hk' e => HOk.out.ne Hcur.out (by decide) (by rw [hk', e])))
              have H6k := Lib.hid (hk7.blk H6k.out Hg6r.out)
              have Hrk := Lib.hid (Hrk.out.keep hk7 (blk_type Hrk.out.blk Hcur.out (by decide)))
              have HKall := Lib.hid (HKall.out.trans hk7 (fun i _ e => .inr (by rw [e]; exact Hcf.out.2.2)))
              clear hb7 hk7 hfit
              refine wpList_nil ⟨⟨(blk_cell H2k.out 0).trans rfl, (blk_cell H3k.out 0).trans rfl⟩, ?_⟩
              refine tree_e rfl rfl ?_
              go_must (refine ev_store (cs' := #[.int .i64 6, .bool false, .int .i64 0, .string ByteArray.empty, .slice (some ⟨gq, 0, none⟩) (x.1.length + 1) cq, .slice (some ⟨gr, 0, none⟩) (n + 1) cap]) rfl rfl rfl rfl rfl rfl HI.out.2.1 HI.out.2.2 rfl H6k.out (Nat.le_of_ble_eq_true rfl) rfl ?_; intro w8 hb8 hk8)
              (try simp only [PU])
              have Hb8 := Lib.hid hb8
              (try have Hown9 := Lib.hid (Hown9.out.keep hk8 (fun b _ e => .inr (.inl e))))
              (try have HKo := Lib.hid (HKo.out.trans hk8 (fun _ _ e => .inr (.inl e))))
              (try have Hrowk := Lib.hid (row_keep Hrowk.out hk8 (fun k hk e => Hg6r.out (by rw [← e]; exact (Option.some.inj hk).symm))))
              (try have Hcur := Lib.hid (hk8.blk Hcur.out (fun e => Hg6r.out e.symm)))
              have H2k := Lib.hid (hk8.blk H2k.out (blk_type H2k.out H6k.out (by decide)))
              have H3k := Lib.hid (hk8.blk H3k.out (blk_type H3k.out H6k.out (by decide)))
              have HSk := Lib.hid (hk8.blk HSk.out (blk_type HSk.out H6k.out (by decide)))
              have HMk := Lib.hid (hk8.blk HMk.out (fun e => map_ne H6k.out HMk.out e.symm))
              have HOk := Lib.hid (HOk.out.keep hk8 (fun k hk' e => HOk.out.ne H6k.out (by decide) (by rw [hk', e])))
              have Hrk := Lib.hid (Hrk.out.keep hk8 (fun e => N.out.2.2 e.symm))
              have HKall := Lib.hid (HKall.out.trans hk8 (fun i _ e => .inr (by rw [e]; exact HDD.out.2.2)))
              have H6k := Hb8
              clear hb8 hk8
              refine wpList_nil ⟨⟨(blk_cell H2k.out 0).trans rfl, (blk_cell H3k.out 0).trans rfl⟩, ?_⟩
              refine tree_nil ?_
            case' nb1_32 =>
              refine tree_e rfl rfl ?b1_33
              case' b1_33 =>
                go_must (refine ev_store (cs' := #[.int .i64 6, .bool false, .int .i64 0, .string ByteArray.empty, .slice (some ⟨gq, 0, none⟩) (x.1.length + 1) cq, .slice (some ⟨gr, 0, none⟩) (n + 1) cap]) rfl rfl rfl rfl rfl rfl HI.out.2.1 HI.out.2.2 rfl H6k.out (Nat.le_of_ble_eq_true rfl) rfl ?_; intro w8 hb8 hk8)
                (try simp only [PU])
                have Hb8 := Lib.hid hb8
                (try have Hown9 := Lib.hid (Hown9.out.keep hk8 (fun b _ e => .inr (.inl e))))
                (try have HKo := Lib.hid (HKo.out.trans hk8 (fun _ _ e => .inr (.inl e))))
                (try have Hrowk := Lib.hid (row_keep Hrowk.out hk8 (fun k hk e => Hg6r.out (by rw [← e]; exact (Option.some.inj hk).symm))))
                (try have Hcur := Lib.hid (hk8.blk Hcur.out (fun e => Hg6r.out e.symm)))
                have H2k := Lib.hid (hk8.blk H2k.out (blk_type H2k.out H6k.out (by decide)))
                have H3k := Lib.hid (hk8.blk H3k.out (blk_type H3k.out H6k.out (by decide)))
                have HSk := Lib.hid (hk8.blk HSk.out (blk_type HSk.out H6k.out (by decide)))
                have HMk := Lib.hid (hk8.blk HMk.out (fun e => map_ne H6k.out HMk.out e.symm))
                have HOk := Lib.hid (HOk.out.keep hk8 (fun k hk' e => HOk.out.ne H6k.out (by decide) (by rw [hk', e])))
                have Hrk := Lib.hid (Hrk.out.keep hk8 (fun e => N.out.2.2 e.symm))
                have HKall := Lib.hid (HKall.out.trans hk8 (fun i _ e => .inr (by rw [e]; exact HDD.out.2.2)))
                have H6k := Hb8
                clear hb8 hk8
                refine wpList_nil ⟨⟨(blk_cell H2k.out 0).trans rfl, (blk_cell H3k.out 0).trans rfl⟩, ?_⟩
                refine tree_e rfl rfl ?_
                have hfit : n * 6 + 6 ≤ cur.size := by have h1 := Hcf.out.1; have h2 := Hcf.out.2.1; omega
                go_must (refine ev_store (x := .agg #[.int .i64 jk, .bool jb, .int .i64 jn, .string jt, .slice kA' kl kc', .slice jA vl jc]) (vs := [.int .i64 jk, .bool jb, .int .i64 jn, .string jt, .slice kA' kl kc', .slice jA vl jc]) (off := n * 6) (cs' := List.toArray (cur.toList.take (n * 6) ++ ([Value.int .i64 jk, Value.bool jb, Value.int .i64 jn, Value.string jt, Value.slice kA' kl kc', Value.slice jA vl jc] : List Value) ++ cur.toList.drop (n * 6 + 6))) rfl rfl rfl rfl rfl rfl HI.out.1.1 HI.out.1.2 rfl Hcur.out hfit rfl ?_; intro w7 hb7 hk7)
                (try simp only [PU])
                have Hown9 := Lib.hid (RowJ.push HJc.out HV.out (fun b hb => ⟨by have := HDD.out; have := hb.1; omega, fun e => by have := HE.out b e; have := hb.1; omega, fun e => by have := (row_lt HJ.out.row b e.symm).2; have := hb.1; omega, hb.2⟩) (fun b e => Nat.lt_of_lt_of_le (HE.out b e) HWc.out) rfl (by rw [Hnn.out]; exact Hrowk.out) HKo.out Hr6.out (by rw [Hnn.out]) Hcur.out (by rw [Hnn.out]; exact hb7) hk7)
                have H2k := Lib.hid (hk7.blk H2k.out (blk_type H2k.out Hcur.out (by decide)))
                have H3k := Lib.hid (hk7.blk H3k.out (blk_type H3k.out Hcur.out (by decide)))
                have HSk := Lib.hid (hk7.blk HSk.out (blk_type HSk.out Hcur.out (by decide)))
                have HMk := Lib.hid (hk7.blk HMk.out (fun e => map_ne Hcur.out HMk.out e.symm))
                have HOk := Lib.hid (HOk.out.keep hk7 (fun k hk' e => HOk.out.ne Hcur.out (by decide) (by rw [hk', e])))
                have H6k := Lib.hid (hk7.blk H6k.out Hg6r.out)
                have Hrk := Lib.hid (Hrk.out.keep hk7 (blk_type Hrk.out.blk Hcur.out (by decide)))
                have HKall := Lib.hid (HKall.out.trans hk7 (fun i _ e => .inr (by rw [e]; exact Hcf.out.2.2)))
                clear hb7 hk7 hfit
                refine wpList_nil ⟨⟨(blk_cell H2k.out 0).trans rfl, (blk_cell H3k.out 0).trans rfl⟩, ?_⟩
                refine tree_nil ?_
  all_goals
    go_wp2
    go_end0
    exact ⟨⟨_, rfl⟩, Hrk.out, ⟨⟨H2k.out, HSk.out, H3k.out⟩, ⟨_, _, HMk.out, HMc.out.2⟩, _, _, H6k.out, HOk.out, Hown9.out⟩, HKall.out⟩
end Go.Proofs.WV

/-
  The program's reader: a part of a table (keys$1), in memory, does what its model does. Condition: the text is not longer than a million bytes; what is read within does what its model does.
-/
namespace Go.Proofs.WV
open Go.RowKit Go.Proofs.KL Go.Proofs.WM
set_option maxRecDepth 100000
set_option linter.unusedSimpArgs false
set_option linter.unusedVariables false

theorem stepP_max {dp f : Nat} {x x' : List ByteArray × List J} {s s' : Bs} (h : stepP dp f x s = .ok (x', s')) : max x'.1.length x'.2.length + s'.length ≤ max x.1.length x.2.length + s.length := by
  unfold stepP at h
  rcases hk : keyB x.1 s with e | ⟨k, r0⟩
  · rw [hk] at h; cases h
  · rw [hk] at h
    simp only at h
    rcases hi : innerF f dp r0 with e | ⟨v, r1⟩
    · rw [hi] at h; cases h
    · rw [hi] at h
      simp only [Except.ok.injEq, Prod.mk.injEq] at h
      obtain ⟨rfl, rfl⟩ := h
      have h1 := (keyB_len hk).1
      have h2 := ((read_ok f).2.1 dp r0 v r1 hi).2.1
      simp only [List.length_append, List.length_cons, List.length_nil]
      omega
theorem PairsInv.keep {r g2 gS g5 g3 gm base : Nat} {deep : Int} {x : List ByteArray × List J} {W W' : World} (h : PairsInv r g2 gS g5 g3 gm base deep x W) (hd : r < base ∧ ¬ g2 = r ∧ ¬ gS = r ∧ ¬ g3 = r ∧ ¬ gm = r ∧ ¬ g5 = r) (hk : Keeps (· = r) W W') : PairsInv r g2 gS g5 g3 gm base deep x W' := by
  obtain ⟨⟨h2, hS, h3⟩, ⟨es, c, hm, hs⟩, kv, vv, h5, hks, hvs⟩ := h
  obtain ⟨d1, d2, d3, d4, d5, d6⟩ := hd
  exact ⟨⟨hk.blk h2 d2, hk.blk hS d3, hk.blk h3 d4⟩, ⟨es, c, hk.blk hm d5, hs⟩, kv, vv, hk.blk h5 d6, hks.keep hk (fun k hk' e => by have := (hks.lt k hk').1; omega), hvs.keep hk (fun b _ e => .inl (by omega))⟩
theorem part103 {W : World} {r g2 gS g5 g3 gm base : Nat} {dp : Nat} {T : ByteArray} {s : Bs} {f : Nat} {x : List ByteArray × List J} (hr : Rd W r T s) (hI : PairsInv r g2 gS g5 g3 gm base dp x W)
    (hd : r < base ∧ ¬ g2 = r ∧ ¬ gS = r ∧ ¬ g3 = r ∧ ¬ gm = r ∧ ¬ g5 = r ∧ base ≤ gm ∧ base ≤ g5 ∧ base ≤ W.heap.size) (hn : x.1.length ≤ 1000000 ∧ x.2.length ≤ 1000000)
    (hin : ∀ s' W', s'.length < s.length → Rd W' r T s' → Calls Tryd.prog 80 #[.pointer (some ⟨r, 0, none⟩), .int .i64 dp] W' (ValOut W' r T (innerF f dp s'))) :
    Calls Tryd.prog 103 #[.pointer (some ⟨g2, 0, none⟩), .pointer (some ⟨gS, 0, none⟩), .pointer (some ⟨g5, 0, none⟩), .pointer (some ⟨g3, 0, none⟩)] W (PartOut W r T base (PairsInv r g2 gS g5 g3 gm base dp) (stepP dp f x s)) := by
  have hd3 : ¬ g2 = r ∧ ¬ gS = r ∧ ¬ gm = r := ⟨hd.2.1, hd.2.2.1, hd.2.2.2.2.1⟩
  rcases hs : strB s with m | ⟨t, r1⟩
  · have hst : stepP dp f x s = .error m := by simp only [stepP, keyB, hs]
    rw [hst]
    exact key103s hr hI hs
  · rcases hk : hasKey x.1 (mkB t) with _ | _
    · rcases hw : wordB [58] (blanksB r1) with m | r2
      · have hst : stepP dp f x s = .error m := by simp [stepP, keyB, hs, hk, hw]
        rw [hst]
        exact key103w hr hI hd3 hd.2.2.2.2.2.2.1 hs hk hw
      · have hkb : keyB x.1 s = .ok (mkB t, blanksB r2) := by simp [keyB, hs, hk, hw]
        have hl := (keyB_len hkb).1
        have hin' := fun W' (hr' : Rd W' r T (blanksB r2)) => hin (blanksB r2) W' hl hr'
        rcases hi : innerF f dp (blanksB r2) with m | ⟨j, s'⟩
        · have hst : stepP dp f x s = .error m := by simp only [stepP, hkb, hi]
          rw [hst]
          rw [hi] at hin'
          exact key103e hr hI hd hn hs hk hw hin'
        · have hst : stepP dp f x s = .ok ((x.1 ++ [mkB t], x.2 ++ [j]), s') := by simp only [stepP, hkb, hi]
          rw [hst]
          rw [hi] at hin'
          exact key103o hr hI hd hn hs hk hw hin'
    · have hst : stepP dp f x s = .error (r1.length + 1) := by simp [stepP, keyB, hs, hk]
      rw [hst]
      exact key103d hr hI hd3 hs hk
end Go.Proofs.WV

/-
  The program's reader: a table (keys), in memory. Condition: what is read within does what its model does.
-/
namespace Go.Proofs.WV
open Go.RowKit Go.Proofs.KL Go.Proofs.WM
set_option maxRecDepth 100000
set_option linter.unusedSimpArgs false
set_option linter.unusedVariables false

theorem zeroM98 : (Tryd.prog.info? 98).map (·.zero) = some (some (.map none)) := by kernel_rfl
theorem infoM98 : ∃ i, Tryd.prog.info? 98 = some i ∧ i.size = 1 := by
  have h : (Tryd.prog.info? 98).map (·.size) = some 1 := by kernel_rfl
  obtain ⟨i, hi, hs⟩ := Option.map_eq_some_iff.1 h
  exact ⟨i, hi, hs⟩
set_option maxHeartbeats 2000000 in
theorem keys81 {w : World} {r : Nat} {T : ByteArray} {c0 : UInt8} {q : Bs} (h : Rd w r T (c0 :: q)) (f dp : Nat) (hf : 3 * (blanksB q).length + 3 ≤ f)
    (hin : ∀ f' s W', s.length ≤ q.length → 3 * s.length + 2 ≤ f' → Rd W' r T s → Calls Tryd.prog 80 #[.pointer (some ⟨r, 0, none⟩), .int .i64 dp] W' (ValOut W' r T (innerF f' dp s))) :
    Calls Tryd.prog 81 #[.pointer (some ⟨r, 0, none⟩), .int .i64 dp] w (ValOut w r T (tabR (openL 125 (stepP dp) f ([], []) q))) := by
  obtain ⟨i25, hi25, hs25⟩ := info25
  obtain ⟨iM, hiM, hsM⟩ := infoM98
  have HI := Lib.hid (And.intro hi25 hs25)
  have HIM := Lib.hid (And.intro hiM hsM)
  have H := Lib.hid h
  have hq : q.length ≤ 1000000 := by have := h.le; have := h.len; simp only [List.length_cons] at *; omega
  have HL := Lib.hid (fun (W : World) (g2 g3 g5 gm gS : Nat) (hr : Rd W r T (c0 :: q)) (hb : g5 ≤ W.heap.size) (hg : w.heap.size ≤ g2 ∧ w.heap.size ≤ g3 ∧ w.heap.size ≤ g5 ∧ g5 ≤ gm ∧ w.heap.size ≤ gS)
      (hI : PairsInv r g2 gS g5 g3 gm g5 dp ([], []) W) =>
    list78k hr g5 ⟨Nat.lt_of_lt_of_le h.lt hg.2.2.1, hb⟩ 125 g2 gS g5 g3 (stepP dp) (PairsInv r g2 gS g5 g3 gm g5 dp)
      (fun x W1 W2 hi hk => by
        have hl := h.lt
        exact hi.keep ⟨by omega, by omega, by omega, by omega, by omega, by omega⟩ hk)
      (fun f x s x' s' hs => (stepP_len hs).1) (fun x => max x.1.length x.2.length) q.length (fun f x s x' s' hs => stepP_max hs)
      (fun f' x s W1 hf' hB hr1 hi1 hk1 => by
        have hl := h.lt
        have hsz := hk1.size
        exact part103 hr1 hi1 ⟨by omega, by omega, by omega, by omega, by omega, by omega, by omega, by omega, by omega⟩ (by omega) (fun s' W' hl' hr' => hin f' s' W' (by omega) (by omega) hr'))
      f hf ([], []) hI (by simp))
  obtain ⟨R0, hR0⟩ : ∃ x, openL 125 (stepP dp) f ([], []) q = x := ⟨_, rfl⟩
  rw [hR0] at HL ⊢
  clear h hin hf hR0 hi25 hs25 hiM hsM
  rcases R0 with m | ⟨⟨ks, vs⟩, r1⟩
  · show Calls _ _ _ _ (ValOut w r T (.error m))
    go_enter Tryd.func81, Tryd.ntmps81
    go_wp2_with (first
      | ((with_reducible refine at_dst (N := 2) rfl ?_); go_must (refine ev_box (cs := #[.pointer (some ⟨r, 0, none⟩)]) rfl rfl rfl ?_; intro g2 w1 hg2 hl2 hb2 hk2)
         have Hb2 := Lib.hid hb2
         have HKa := Lib.hid hk2
         have hgB := hg2
         clear hb2 hk2
         (try simp only [PU]))
      | ((with_reducible refine at_dst (N := 3) rfl ?_); go_must (refine ev_box (cs := #[.int .i64 dp]) rfl rfl rfl ?_; intro g3 w2 hg3 hl3 hb3 hk3)
         have Hb2 := Lib.hid (hk3.blk Hb2.out id)
         have Hb3 := Lib.hid hb3
         have hgA : w.heap.size ≤ g2 ∧ w.heap.size ≤ g3 := ⟨hgB, Nat.le_trans HKa.out.size hg3⟩
         have HKa := Lib.hid (HKa.out.trans hk3 (fun _ _ h => h))
         clear hb3 hk3
         (try simp only [PU]))
      | ((with_reducible refine at_dst (N := 4) rfl ?_); go_must (refine ev_alloc rfl rfl zero25 rfl ?_; intro g4 w3 hg4 hl4 hb4 hk4)
         have Hb2 := Lib.hid (hk4.blk Hb2.out id)
         have Hb3 := Lib.hid (hk4.blk Hb3.out id)
         have Hb4 := Lib.hid hb4
         have Hg4 := Lib.hid (show w.heap.size ≤ g4 from Nat.le_trans HKa.out.size hg4)
         have HKa := Lib.hid (HKa.out.trans hk4 (fun _ _ h => h))
         have Hg2 := Lib.hid (show w.heap.size ≤ g2 ∧ w.heap.size ≤ g3 from hgA)
         clear hb4 hk4
         (try simp only [PU]))
      | ((with_reducible refine at_dst (N := 5) rfl ?_); go_must (refine ev_alloc rfl rfl zero25 rfl ?_; intro g5 w4 hg5 hl5 hb5 hk5)
         have Hg45 := Lib.hid (show g4 < g5 from Nat.lt_of_lt_of_le (blk_lt Hb4.out) hg5)
         have Hg5 := Lib.hid (show w.heap.size ≤ g5 from Nat.le_trans HKa.out.size hg5)
         have Hb2 := Lib.hid (hk5.blk Hb2.out id)
         have Hb3 := Lib.hid (hk5.blk Hb3.out id)
         have Hb4 := Lib.hid (hk5.blk Hb4.out id)
         have Hb5 := Lib.hid hb5
         have HKa := Lib.hid (HKa.out.trans hk5 (fun _ _ h => h))
         clear hb5 hk5
         (try simp only [PU]))
      | ((with_reducible refine at_store (t := 25) (p := 5) rfl ?_); go_must (refine ev_store (cs' := #[.int .i64 6, .bool false, .int .i64 0, .string ByteArray.empty, .slice none 0 0, .slice none 0 0]) rfl rfl rfl rfl rfl rfl HI.out.1 HI.out.2 rfl Hb5.out (Nat.le_of_ble_eq_true rfl) rfl ?_; intro w5 hb6 hk6)
         have Hb2 := Lib.hid (hk6.blk Hb2.out (blk_type Hb2.out Hb5.out (by decide) : ¬ g2 = g5))
         have Hb3 := Lib.hid (hk6.blk Hb3.out (blk_type Hb3.out Hb5.out (by decide) : ¬ g3 = g5))
         have HKa := Lib.hid (show Keeps Nob w w5 from HKa.out.trans hk6 (fun i hi e => by have := Hg5.out; omega))
         have Hb4 := Lib.hid (hk6.blk Hb4.out (fun e : g4 = g5 => by have := Hg45.out; omega))
         have Hb5 := Lib.hid hb6
         clear hb6 hk6
         (try simp only [PU]))
      | ((with_reducible refine at_dst (N := 8) rfl ?_); go_must (refine ev_makeMap rfl rfl ?_; intro gm w6 hgm hlm hbm hkm)
         have Hgm := Lib.hid (show g5 ≤ gm from Nat.le_trans (Nat.le_of_lt (blk_lt Hb5.out)) hgm)
         have Hb2 := Lib.hid (hkm.blk Hb2.out id)
         have Hb3 := Lib.hid (hkm.blk Hb3.out id)
         have Hb4 := Lib.hid (hkm.blk Hb4.out id)
         have Hb5 := Lib.hid (hkm.blk Hb5.out id)
         have Hbm := Lib.hid hbm
         have HKa := Lib.hid (HKa.out.trans hkm (fun _ _ h => h))
         clear hbm hkm
         (try simp only [PU]))
      | ((with_reducible refine at_dst (N := 6) rfl ?_); go_must (refine ev_alloc rfl rfl zeroM98 rfl ?_; intro gS w7 hgS hlS hbS hkS)
         have HgS := Lib.hid (show w.heap.size ≤ gS ∧ g5 < gS from ⟨Nat.le_trans HKa.out.size hgS, Nat.lt_of_lt_of_le (blk_lt Hb5.out) hgS⟩)
         have Hb2 := Lib.hid (hkS.blk Hb2.out id)
         have Hb3 := Lib.hid (hkS.blk Hb3.out id)
         have Hb4 := Lib.hid (hkS.blk Hb4.out id)
         have Hb5 := Lib.hid (hkS.blk Hb5.out id)
         have Hbm := Lib.hid (hkS.blk Hbm.out id)
         have HbS := Lib.hid hbS
         have HKa := Lib.hid (HKa.out.trans hkS (fun _ _ h => h))
         clear hbS hkS
         (try simp only [PU]))
      | ((with_reducible refine at_store (t := 98) (p := 6) rfl ?_); go_must (refine ev_store (cs' := #[.map (some gm)]) rfl rfl rfl rfl rfl rfl HIM.out.1 HIM.out.2 rfl HbS.out (Nat.le_of_ble_eq_true rfl) rfl ?_; intro w8 hb8 hk8)
         have Hb2 := Lib.hid (hk8.blk Hb2.out (blk_type Hb2.out HbS.out (by decide) : ¬ g2 = gS))
         have Hb3 := Lib.hid (hk8.blk Hb3.out (blk_type Hb3.out HbS.out (by decide) : ¬ g3 = gS))
         have Hb4 := Lib.hid (hk8.blk Hb4.out (blk_type Hb4.out HbS.out (by decide) : ¬ g4 = gS))
         have Hb5 := Lib.hid (hk8.blk Hb5.out (blk_type Hb5.out HbS.out (by decide) : ¬ g5 = gS))
         have Hbm := Lib.hid (hk8.blk Hbm.out (fun e : gm = gS => map_ne HbS.out Hbm.out e.symm))
         have HbS := Lib.hid hb8
         have HKa := Lib.hid (show Keeps Nob w w8 from HKa.out.trans hk8 (fun i hi e => by have := HgS.out; omega))
         have Hr8 := Lib.hid (H.out.keep HKa.out id)
         have c2 := (blk_cell Hb2.out 0).trans rfl
         clear hb8 hk8
         (try simp only [PU]))
      | (go_at_call 78; go_must (refine (HL.out _ g2 g3 g5 gm gS Hr8.out (Nat.le_of_lt (blk_lt Hb5.out)) ⟨Hg2.out.1, Hg2.out.2, Hg5.out, Hgm.out, HgS.out.1⟩ ⟨⟨Hb2.out, HbS.out, Hb3.out⟩, ⟨_, _, Hbm.out, StrSet.nil⟩, _, _, Hb5.out, OwnS.nil _ _, OwnJ.nil _ _ _⟩).mono ?_; rintro e w9 ⟨rfl, hk9⟩); have HK9 := Lib.hid hk9; clear hk9; unfold stopAt; (try simp only [PU]))
    )
    exact ⟨rfl, rfl, HKa.out.any.trans HK9.out (fun i hi e => e.elim id (fun e => by have := Hg5.out; omega))⟩
  · show Calls _ _ _ _ (ValOut w r T (.ok (.mk 6 false 0 ByteArray.empty ks vs, r1)))
    go_enter Tryd.func81, Tryd.ntmps81
    go_wp2_with (first
      | ((with_reducible refine at_dst (N := 2) rfl ?_); go_must (refine ev_box (cs := #[.pointer (some ⟨r, 0, none⟩)]) rfl rfl rfl ?_; intro g2 w1 hg2 hl2 hb2 hk2)
         have Hb2 := Lib.hid hb2
         have HKa := Lib.hid hk2
         have hgB := hg2
         clear hb2 hk2
         (try simp only [PU]))
      | ((with_reducible refine at_dst (N := 3) rfl ?_); go_must (refine ev_box (cs := #[.int .i64 dp]) rfl rfl rfl ?_; intro g3 w2 hg3 hl3 hb3 hk3)
         have Hb2 := Lib.hid (hk3.blk Hb2.out id)
         have Hb3 := Lib.hid hb3
         have hgA : w.heap.size ≤ g2 ∧ w.heap.size ≤ g3 := ⟨hgB, Nat.le_trans HKa.out.size hg3⟩
         have HKa := Lib.hid (HKa.out.trans hk3 (fun _ _ h => h))
         clear hb3 hk3
         (try simp only [PU]))
      | ((with_reducible refine at_dst (N := 4) rfl ?_); go_must (refine ev_alloc rfl rfl zero25 rfl ?_; intro g4 w3 hg4 hl4 hb4 hk4)
         have Hb2 := Lib.hid (hk4.blk Hb2.out id)
         have Hb3 := Lib.hid (hk4.blk Hb3.out id)
         have Hb4 := Lib.hid hb4
         have Hg4 := Lib.hid (show w.heap.size ≤ g4 from Nat.le_trans HKa.out.size hg4)
         have HKa := Lib.hid (HKa.out.trans hk4 (fun _ _ h => h))
         have Hg2 := Lib.hid (show w.heap.size ≤ g2 ∧ w.heap.size ≤ g3 from hgA)
         clear hb4 hk4
         (try simp only [PU]))
      | ((with_reducible refine at_dst (N := 5) rfl ?_); go_must (refine ev_alloc rfl rfl zero25 rfl ?_; intro g5 w4 hg5 hl5 hb5 hk5)
         have Hg45 := Lib.hid (show g4 < g5 from Nat.lt_of_lt_of_le (blk_lt Hb4.out) hg5)
         have Hg5 := Lib.hid (show w.heap.size ≤ g5 from Nat.le_trans HKa.out.size hg5)
         have Hb2 := Lib.hid (hk5.blk Hb2.out id)
         have Hb3 := Lib.hid (hk5.blk Hb3.out id)
         have Hb4 := Lib.hid (hk5.blk Hb4.out id)
         have Hb5 := Lib.hid hb5
         have HKa := Lib.hid (HKa.out.trans hk5 (fun _ _ h => h))
         clear hb5 hk5
         (try simp only [PU]))
      | ((with_reducible refine at_store (t := 25) (p := 5) rfl ?_); go_must (refine ev_store (cs' := #[.int .i64 6, .bool false, .int .i64 0, .string ByteArray.empty, .slice none 0 0, .slice none 0 0]) rfl rfl rfl rfl rfl rfl HI.out.1 HI.out.2 rfl Hb5.out (Nat.le_of_ble_eq_true rfl) rfl ?_; intro w5 hb6 hk6)
         have Hb2 := Lib.hid (hk6.blk Hb2.out (blk_type Hb2.out Hb5.out (by decide) : ¬ g2 = g5))
         have Hb3 := Lib.hid (hk6.blk Hb3.out (blk_type Hb3.out Hb5.out (by decide) : ¬ g3 = g5))
         have HKa := Lib.hid (show Keeps Nob w w5 from HKa.out.trans hk6 (fun i hi e => by have := Hg5.out; omega))
         have Hb4 := Lib.hid (hk6.blk Hb4.out (fun e : g4 = g5 => by have := Hg45.out; omega))
         have Hb5 := Lib.hid hb6
         clear hb6 hk6
         (try simp only [PU]))
      | ((with_reducible refine at_dst (N := 8) rfl ?_); go_must (refine ev_makeMap rfl rfl ?_; intro gm w6 hgm hlm hbm hkm)
         have Hgm := Lib.hid (show g5 ≤ gm from Nat.le_trans (Nat.le_of_lt (blk_lt Hb5.out)) hgm)
         have Hb2 := Lib.hid (hkm.blk Hb2.out id)
         have Hb3 := Lib.hid (hkm.blk Hb3.out id)
         have Hb4 := Lib.hid (hkm.blk Hb4.out id)
         have Hb5 := Lib.hid (hkm.blk Hb5.out id)
         have Hbm := Lib.hid hbm
         have HKa := Lib.hid (HKa.out.trans hkm (fun _ _ h => h))
         clear hbm hkm
         (try simp only [PU]))
      | ((with_reducible refine at_dst (N := 6) rfl ?_); go_must (refine ev_alloc rfl rfl zeroM98 rfl ?_; intro gS w7 hgS hlS hbS hkS)
         have HgS := Lib.hid (show w.heap.size ≤ gS ∧ g5 < gS from ⟨Nat.le_trans HKa.out.size hgS, Nat.lt_of_lt_of_le (blk_lt Hb5.out) hgS⟩)
         have Hb2 := Lib.hid (hkS.blk Hb2.out id)
         have Hb3 := Lib.hid (hkS.blk Hb3.out id)
         have Hb4 := Lib.hid (hkS.blk Hb4.out id)
         have Hb5 := Lib.hid (hkS.blk Hb5.out id)
         have Hbm := Lib.hid (hkS.blk Hbm.out id)
         have HbS := Lib.hid hbS
         have HKa := Lib.hid (HKa.out.trans hkS (fun _ _ h => h))
         clear hbS hkS
         (try simp only [PU]))
      | ((with_reducible refine at_store (t := 98) (p := 6) rfl ?_); go_must (refine ev_store (cs' := #[.map (some gm)]) rfl rfl rfl rfl rfl rfl HIM.out.1 HIM.out.2 rfl HbS.out (Nat.le_of_ble_eq_true rfl) rfl ?_; intro w8 hb8 hk8)
         have Hb2 := Lib.hid (hk8.blk Hb2.out (blk_type Hb2.out HbS.out (by decide) : ¬ g2 = gS))
         have Hb3 := Lib.hid (hk8.blk Hb3.out (blk_type Hb3.out HbS.out (by decide) : ¬ g3 = gS))
         have Hb4 := Lib.hid (hk8.blk Hb4.out (blk_type Hb4.out HbS.out (by decide) : ¬ g4 = gS))
         have Hb5 := Lib.hid (hk8.blk Hb5.out (blk_type Hb5.out HbS.out (by decide) : ¬ g5 = gS))
         have Hbm := Lib.hid (hk8.blk Hbm.out (fun e : gm = gS => map_ne HbS.out Hbm.out e.symm))
         have HbS := Lib.hid hb8
         have HKa := Lib.hid (show Keeps Nob w w8 from HKa.out.trans hk8 (fun i hi e => by have := HgS.out; omega))
         have Hr8 := Lib.hid (H.out.keep HKa.out id)
         have c2 := (blk_cell Hb2.out 0).trans rfl
         clear hb8 hk8
         (try simp only [PU]))
      | (go_at_call 78; go_must (refine (HL.out _ g2 g3 g5 gm gS Hr8.out (Nat.le_of_lt (blk_lt Hb5.out)) ⟨Hg2.out.1, Hg2.out.2, Hg5.out, Hgm.out, HgS.out.1⟩ ⟨⟨Hb2.out, HbS.out, Hb3.out⟩, ⟨_, _, Hbm.out, StrSet.nil⟩, _, _, Hb5.out, OwnS.nil _ _, OwnJ.nil _ _ _⟩).mono ?_; rintro e w9 ⟨⟨y9, rfl⟩, hr9, ⟨-, -, kv, vv, h5, hks, hvs⟩, hk9⟩; obtain ⟨kA, kc, rfl, -⟩ := hks.slice; obtain ⟨X, xs, hrow⟩ := id hvs; obtain ⟨vA, vc, rfl, -⟩ := row_slice hrow.row)
         have Hr9 := Lib.hid hr9
         have Hks := Lib.hid hks
         have Hvs := Lib.hid hvs
         have HK9 := Lib.hid (show Keeps (· = r) w w9 from HKa.out.any.trans hk9 (fun i hi e => e.elim id (fun e => by have := Hg5.out; omega)))
         have Hb9 := Lib.hid (hk9.blk (Hb4.out) (fun e => e.elim (fun e => by have := Hg4.out; have := H.out.lt; omega) (fun e => by have := Hg45.out; omega)))
         have s0 := (blk_cell h5 0).trans rfl
         have s1 := (blk_cell h5 1).trans rfl
         have s2 := (blk_cell h5 2).trans rfl
         have s3 := (blk_cell h5 3).trans rfl
         have s4 := (blk_cell h5 4).trans rfl
         have s5 := (blk_cell h5 5).trans rfl
         clear hr9 h5 hks hvs hk9 hrow
         generalize ks.length = nk at *
         generalize vs.length = nv at *
         (try simp only [PU]))
      | ((with_reducible refine at_store (t := 25) (p := 4) rfl ?_); go_must (refine ev_store (cs' := #[.int .i64 6, .bool false, .int .i64 0, .string ByteArray.empty, .slice kA nk kc, .slice vA nv vc]) rfl rfl rfl rfl rfl rfl HI.out.1 HI.out.2 rfl Hb9.out (Nat.le_of_ble_eq_true rfl) rfl ?_; intro w10 hb10 hk10)
         have HK10 := Lib.hid hk10
         clear s0 s1 s2 s3 s4 s5
         have s0 := (blk_cell hb10 0).trans rfl
         have s1 := (blk_cell hb10 1).trans rfl
         have s2 := (blk_cell hb10 2).trans rfl
         have s3 := (blk_cell hb10 3).trans rfl
         have s4 := (blk_cell hb10 4).trans rfl
         have s5 := (blk_cell hb10 5).trans rfl
         clear hb10 hk10
         (try simp only [PU]))
    )
    refine bodyPost_ret (v := .agg #[.int .i64 6, .bool false, .int .i64 0, .string ByteArray.empty, .slice kA nk kc, .slice vA nv vc]) (by rw [results_cell1 rfl]; go_simp) rfl ?_
    have hjs := (Hvs.out.js.keep HK10.out (X' := fun b => w.heap.size ≤ b) (fun b hb hx e => by have := Hg45.out; omega) (fun b hb hx => Nat.le_trans Hg5.out hx))
    have hss := (Hks.out.strs.keep HK10.out (X' := fun b => w.heap.size ≤ b) (fun b hb hx e => by have := Hg45.out; omega) (fun b hb hx => Nat.le_trans Hg5.out hx))
    exact ⟨⟨_, rfl, JX.close hss hjs⟩, Hr9.out.keep HK10.out (fun e : r = g4 => by have := Hg4.out; have := H.out.lt; omega), HK9.out.trans HK10.out (fun i hi e => by have := Hg4.out; omega)⟩
end Go.Proofs.WV

/-
  The program's reader: a value that is a table, in memory. Condition: what is read within does what its model does.
-/
namespace Go.Proofs.WV
open Go.RowKit Go.Proofs.KL Go.Proofs.WM
set_option maxRecDepth 100000
set_option linter.unusedSimpArgs false
set_option linter.unusedVariables false

set_option maxHeartbeats 2000000 in
theorem valueTable {w : World} {r : Nat} {T : ByteArray} {q : Bs} (h : Rd w r T (123 :: q)) (f dp : Nat) (hf : 3 * (blanksB q).length + 3 ≤ f)
    (hin : ∀ f' s W', s.length ≤ q.length → 3 * s.length + 2 ≤ f' → Rd W' r T s → Calls Tryd.prog 80 #[.pointer (some ⟨r, 0, none⟩), .int .i64 dp] W' (ValOut W' r T (innerF f' dp s))) :
    Calls Tryd.prog 46 #[.pointer (some ⟨r, 0, none⟩), .int .i64 dp] w (ValOut w r T (valueF (f + 1) dp (123 :: q))) := by
  obtain ⟨i25, hi25, hs25⟩ := info25
  have HI := Lib.hid (And.intro hi25 hs25)
  have H := Lib.hid h
  have H73 := Lib.hid (fun W (hk : Keeps Nob w W) => next73 (h.keep hk id))
  have H76 := Lib.hid (fun W (hk : Keeps Nob w W) => digit76 (h.keep hk id))
  have hhd : headN (123 :: q) = 123 := rfl
  have hsd : startsDigit (123 :: q) = false := by show isDigit 123 = false; decide
  rw [hhd] at H73
  rw [hsd] at H76
  rw [value_table]
  have H81 := Lib.hid (fun W (hr : Rd W r T (123 :: q)) => keys81 hr f dp hf hin)
  obtain ⟨R0, hR0⟩ : ∃ x, tabR (openL 125 (stepP dp) f ([], []) q) = x := ⟨_, rfl⟩
  rw [hR0] at H81 ⊢
  clear h hin hf hhd hsd hR0 hi25 hs25
  rcases R0 with m | ⟨j, r1⟩
  · show Calls _ _ _ _ (ValOut w r T (.error m))
    go_enter Tryd.func46, Tryd.ntmps46
    go_wp2_with (first
      | ((with_reducible refine at_dst (N := 2) rfl ?_); go_must (refine ev_box (cs := #[.pointer (some ⟨r, 0, none⟩)]) rfl rfl rfl ?_; intro g2 w1 hg2 hl2 hb2 hk2)
         have Hb2 := Lib.hid hb2
         have HKa := Lib.hid hk2
         clear hb2 hk2
         (try simp only [PU]))
      | ((with_reducible refine at_dst (N := 3) rfl ?_); go_must (refine ev_box (cs := #[.int .i64 dp]) rfl rfl rfl ?_; intro g3 w2 hg3 hl3 hb3 hk3)
         have Hb2 := Lib.hid (hk3.blk Hb2.out id)
         have Hb3 := Lib.hid hb3
         have HKa := Lib.hid (HKa.out.trans hk3 (fun _ _ h => h))
         clear hb3 hk3
         (try simp only [PU]))
      | ((with_reducible refine at_dst (N := 4) rfl ?_); go_must (refine ev_alloc rfl rfl zero25 rfl ?_; intro g4 w3 hg4 hl4 hb4 hk4)
         have Hb2 := Lib.hid (hk4.blk Hb2.out id)
         have Hb3 := Lib.hid (hk4.blk Hb3.out id)
         have Hb4 := Lib.hid hb4
         have Hg4 := Lib.hid (show w.heap.size ≤ g4 from Nat.le_trans HKa.out.size hg4)
         have HKa := Lib.hid (HKa.out.trans hk4 (fun _ _ h => h))
         have c2 := (blk_cell Hb2.out 0).trans rfl
         clear hb4 hk4
         (try simp only [PU]))
      | (go_at_call 73; go_must (refine (H73.out _ HKa.out).mono ?_; rintro e w4 ⟨rfl, hk5⟩)
         have Hb2 := Lib.hid (hk5.blk Hb2.out id)
         have Hb3 := Lib.hid (hk5.blk Hb3.out id)
         have Hb4 := Lib.hid (hk5.blk Hb4.out id)
         have HKa := Lib.hid (HKa.out.trans hk5 (fun _ _ h => h))
         have Hr4 := Lib.hid (H.out.keep HKa.out id)
         clear c2 hk5
         have c2 := (blk_cell Hb2.out 0).trans rfl
         have c3 := (blk_cell Hb3.out 0).trans rfl
         (try simp only [PU]))
      | (go_at_call 76; go_must (refine (H76.out _ HKa.out).mono ?_; rintro e w5 ⟨rfl, hk6⟩)
         have Hb2 := Lib.hid (hk6.blk Hb2.out id)
         have Hb3 := Lib.hid (hk6.blk Hb3.out id)
         have Hb4 := Lib.hid (hk6.blk Hb4.out id)
         have HKa := Lib.hid (HKa.out.trans hk6 (fun _ _ h => h))
         have Hr4 := Lib.hid (H.out.keep HKa.out id)
         clear c2 c3 hk6
         have c2 := (blk_cell Hb2.out 0).trans rfl
         have c3 := (blk_cell Hb3.out 0).trans rfl
         (try simp only [PU]))
      | (go_at_call 81; go_must (refine (H81.out _ Hr4.out).mono ?_; rintro e w6 ⟨rfl, hk6⟩); have HK6 := Lib.hid hk6; clear hk6; unfold stopAt; (try simp only [PU]))
    )
    exact ⟨rfl, rfl, HKa.out.any.trans HK6.out (fun _ _ h => h)⟩
  · show Calls _ _ _ _ (ValOut w r T (.ok (j, r1)))
    go_enter Tryd.func46, Tryd.ntmps46
    go_wp2_with (first
      | ((with_reducible refine at_dst (N := 2) rfl ?_); go_must (refine ev_box (cs := #[.pointer (some ⟨r, 0, none⟩)]) rfl rfl rfl ?_; intro g2 w1 hg2 hl2 hb2 hk2)
         have Hb2 := Lib.hid hb2
         have HKa := Lib.hid hk2
         clear hb2 hk2
         (try simp only [PU]))
      | ((with_reducible refine at_dst (N := 3) rfl ?_); go_must (refine ev_box (cs := #[.int .i64 dp]) rfl rfl rfl ?_; intro g3 w2 hg3 hl3 hb3 hk3)
         have Hb2 := Lib.hid (hk3.blk Hb2.out id)
         have Hb3 := Lib.hid hb3
         have HKa := Lib.hid (HKa.out.trans hk3 (fun _ _ h => h))
         clear hb3 hk3
         (try simp only [PU]))
      | ((with_reducible refine at_dst (N := 4) rfl ?_); go_must (refine ev_alloc rfl rfl zero25 rfl ?_; intro g4 w3 hg4 hl4 hb4 hk4)
         have Hb2 := Lib.hid (hk4.blk Hb2.out id)
         have Hb3 := Lib.hid (hk4.blk Hb3.out id)
         have Hb4 := Lib.hid hb4
         have Hg4 := Lib.hid (show w.heap.size ≤ g4 from Nat.le_trans HKa.out.size hg4)
         have HKa := Lib.hid (HKa.out.trans hk4 (fun _ _ h => h))
         have c2 := (blk_cell Hb2.out 0).trans rfl
         clear hb4 hk4
         (try simp only [PU]))
      | (go_at_call 73; go_must (refine (H73.out _ HKa.out).mono ?_; rintro e w4 ⟨rfl, hk5⟩)
         have Hb2 := Lib.hid (hk5.blk Hb2.out id)
         have Hb3 := Lib.hid (hk5.blk Hb3.out id)
         have Hb4 := Lib.hid (hk5.blk Hb4.out id)
         have HKa := Lib.hid (HKa.out.trans hk5 (fun _ _ h => h))
         have Hr4 := Lib.hid (H.out.keep HKa.out id)
         clear c2 hk5
         have c2 := (blk_cell Hb2.out 0).trans rfl
         have c3 := (blk_cell Hb3.out 0).trans rfl
         (try simp only [PU]))
      | (go_at_call 76; go_must (refine (H76.out _ HKa.out).mono ?_; rintro e w5 ⟨rfl, hk6⟩)
         have Hb2 := Lib.hid (hk6.blk Hb2.out id)
         have Hb3 := Lib.hid (hk6.blk Hb3.out id)
         have Hb4 := Lib.hid (hk6.blk Hb4.out id)
         have HKa := Lib.hid (HKa.out.trans hk6 (fun _ _ h => h))
         have Hr4 := Lib.hid (H.out.keep HKa.out id)
         clear c2 c3 hk6
         have c2 := (blk_cell Hb2.out 0).trans rfl
         have c3 := (blk_cell Hb3.out 0).trans rfl
         (try simp only [PU]))
      | (go_at_call 81; go_must (refine (H81.out _ Hr4.out).mono ?_; rintro e w6 ⟨⟨v1, rfl, hv1⟩, hr1, hk1⟩; obtain ⟨jk, jb, jn, jt, jks, jvs, jkv, jvv, hjj, rfl, hjk, hjv⟩ := hv1.open; obtain ⟨kA, kc, rfl, -, -⟩ := hjk; obtain ⟨jA, jc, ju, rfl, -, -, -⟩ := hjv)
         have HV := Lib.hid hv1
         have Hr6 := Lib.hid hr1
         have HK6 := Lib.hid ((HKa.out.any (M := (· = r))).trans hk1 (fun _ _ h => h))
         have Hb6 := Lib.hid (hk1.blk Hb4.out (fun e : g4 = r => by have := Hg4.out; have := H.out.lt; omega))
         have Hsz := Lib.hid (show g4 < _ from blk_lt Hb4.out)
         clear hv1 hr1 hk1 hjj
         generalize jks.length = kl at *
         generalize jvs.length = vl at *
         (try simp only [PU]))
      | ((with_reducible refine at_store (t := 25) (p := 4) rfl ?_); go_must (refine ev_store (cs' := #[.int .i64 jk, .bool jb, .int .i64 jn, .string jt, .slice kA kl kc, .slice jA vl jc]) rfl rfl rfl rfl rfl rfl HI.out.1 HI.out.2 rfl Hb6.out (Nat.le_of_ble_eq_true rfl) rfl ?_; intro w7 hb7 hk7)
         have HK7 := Lib.hid hk7
         have s0 := (blk_cell hb7 0).trans rfl
         have s1 := (blk_cell hb7 1).trans rfl
         have s2 := (blk_cell hb7 2).trans rfl
         have s3 := (blk_cell hb7 3).trans rfl
         have s4 := (blk_cell hb7 4).trans rfl
         have s5 := (blk_cell hb7 5).trans rfl
         clear hb7 hk7
         (try simp only [PU]))
    )
    refine bodyPost_ret (v := .agg #[.int .i64 jk, .bool jb, .int .i64 jn, .string jt, .slice kA kl kc, .slice jA vl jc]) (by rw [results_cell1 rfl]; go_simp) rfl ?_
    refine ⟨⟨_, rfl, HV.out.keep HK7.out (fun b hb hx e => by have := Hsz.out; omega) (fun b hb hx => Nat.le_trans HKa.out.size hx)⟩, Hr6.out.keep HK7.out (fun e : r = g4 => by have := Hg4.out; have := H.out.lt; omega), HK6.out.trans HK7.out (fun i hi e => by have := Hg4.out; omega)⟩
end Go.Proofs.WV

/-
  The program's reader: a value, in memory, does what its model does. Condition: the text is not longer than a million bytes; the depth is at most 40.
-/
namespace Go.Proofs.WV
open Go.RowKit Go.Proofs.KL Go.Proofs.WM
set_option linter.unusedVariables false

def ValOK (dp : Nat) : Prop := ∀ (f : Nat) (s : Bs) (w : World) (r : Nat) (T : ByteArray), 3 * s.length + 1 ≤ f → Rd w r T s → Calls Tryd.prog 46 #[.pointer (some ⟨r, 0, none⟩), .int .i64 dp] w (ValOut w r T (valueF f dp s))
theorem inner_of {dp : Nat} (hd : dp ≤ 40) (hV : 1 < dp → ValOK (dp - 1)) (f' : Nat) (s : Bs) (W' : World) {r : Nat} {T : ByteArray} (hf : 3 * s.length + 2 ≤ f') (hr : Rd W' r T s) :
    Calls Tryd.prog 80 #[.pointer (some ⟨r, 0, none⟩), .int .i64 dp] W' (ValOut W' r T (innerF f' dp s)) := by
  obtain ⟨f, rfl⟩ : ∃ f, f' = f + 1 := ⟨f' - 1, by omega⟩
  unfold innerF
  by_cases h1 : dp ≤ 1
  · rw [if_pos h1]
    exact inner80e hr dp h1
  · rw [if_neg h1]
    exact inner80v hr dp ⟨by omega, hd⟩ _ (fun W'' hr' => hV (by omega) f s W'' r T (by omega) hr')
theorem headN_ne {c : UInt8} {q : Bs} {k : Nat} (h : c ≠ UInt8.ofNat k) : headN (c :: q) ≠ (k : Int) := fun e => h (by
  have e' : (c.toNat : Int) = (k : Int) := e
  have e2 : c.toNat = k := by omega
  rw [← e2, UInt8.ofNat_toNat])
theorem value_step {dp : Nat} (hd : dp ≤ 40) (hV : 1 < dp → ValOK (dp - 1)) : ValOK dp := by
  intro f s w r T hf hr
  obtain ⟨f, rfl⟩ : ∃ f', f = f' + 1 := ⟨f - 1, by omega⟩
  rcases s with _ | ⟨c, q⟩
  · have hv : valueF (f + 1) dp [] = .error ([] : Bs).length := by unfold valueF; rfl
    rw [hv]
    exact valueBad hr (fun k hk e => by
      have e' : (0 : Int) = (k : Int) := e
      have : k = 0 := by omega
      subst this
      revert hk
      decide) rfl dp
  · have hb := blanksB_le q
    simp only [List.length_cons] at hf
    have hin := fun f' s W' (_ : s.length ≤ q.length) (hf' : 3 * s.length + 2 ≤ f') (hr' : Rd W' r T s) => inner_of hd hV f' s W' hf' hr'
    by_cases h1 : c = 110
    · subst h1; exact valueNull hr f dp dp
    by_cases h2 : c = 116
    · subst h2; exact valueTrue hr f dp dp
    by_cases h3 : c = 102
    · subst h3; exact valueFalse hr f dp dp
    by_cases h4 : c = 34
    · subst h4; exact valueStr hr f dp dp
    by_cases h5 : c = 45 ∨ isDigit c = true
    · exact valueInt hr h5 f dp dp
    by_cases h6 : c = 91
    · subst h6; exact valueList hr f dp (by omega) hin
    by_cases h7 : c = 123
    · subst h7; exact valueTable hr f dp (by omega) hin
    have hv : valueF (f + 1) dp (c :: q) = .error (c :: q).length := by
      unfold valueF
      rw [if_neg h1, if_neg h2, if_neg h3, if_neg h4, if_neg h5, if_neg h6, if_neg h7]
      rfl
    rw [hv]
    refine valueBad hr (fun k hk => headN_ne ?_) ?_ dp
    · simp only [List.mem_cons, List.not_mem_nil, or_false] at hk
      rcases hk with rfl | rfl | rfl | rfl | rfl | rfl | rfl
      · exact h1
      · exact h2
      · exact h3
      · exact h4
      · exact fun e => h5 (.inl e)
      · exact h6
      · exact h7
    · show isDigit c = false
      rcases hc : isDigit c with _ | _
      · rfl
      · exact absurd (.inr hc) h5
theorem value_all : ∀ dp : Nat, dp ≤ 40 → ValOK dp := by
  intro dp
  induction dp with
  | zero => exact fun hd => value_step hd (fun h => absurd h (by omega))
  | succ d ih => exact fun hd => value_step hd (fun _ => ih (by omega))
end Go.Proofs.WV

/-
  Read, by the program, in memory. Condition: none but the standard library's table of powers.
-/
namespace Go.Proofs.WV
open Go.RowKit Go.Proofs.KL Go.Proofs.WM
set_option maxRecDepth 100000
set_option linter.unusedSimpArgs false
set_option linter.unusedVariables false

theorem zero28 : (Tryd.prog.info? 28).map (·.zero) = some (some (.int .i64 0)) := by kernel_rfl
theorem info28 : ∃ i, Tryd.prog.info? 28 = some i ∧ i.size = 1 := by
  have h : (Tryd.prog.info? 28).map (·.size) = some 1 := by kernel_rfl
  obtain ⟨i, hi, hs⟩ := Option.map_eq_some_iff.1 h
  exact ⟨i, hi, hs⟩
theorem zeroS3 : (Tryd.prog.info? 3).map (·.zero) = some (some (.int .i64 0)) := by kernel_rfl
theorem results_cells3 {fn : Func} {p q r : Tmp} {t u v : TypeId} (h : fn.results = #[.cell p t, .cell q u, .cell r v]) (tmps : Array Value) {P : Program} (w : World) {x y z : Value} {a b c : Addr} (ha : tmps[p]?.getD undef = .pointer (some a)) (hb : tmps[q]?.getD undef = .pointer (some b)) (hc : tmps[r]?.getD undef = .pointer (some c))
    (hp : (loadVar t a).run P w = .ok x w) (hq : (loadVar u b).run P w = .ok y w) (hr : (loadVar v c).run P w = .ok z w) :
    (results fn tmps).run P w = .ok (.tuple #[x, y, z]) w := by
  have e : ∀ (a : Addr) (w : World), (asAddr (.pointer (some a))).run P w = .ok a w := fun _ _ => rfl
  simp [results, h, ha, hb, hc, e, hp, hq, hr, Result.andThen]
theorem Read_idle (p q r : Addr) (w : World) :
    CallsD Tryd.prog 44 #[.pointer (some p), .pointer (some q), .pointer (some r)] .returning w fun e u' w' => e = .returned (.tuple #[]) ∧ u' = .returning ∧ w' = w := by
  have hnn : ∀ w, (binOp .neq 20 .nilIface .nilIface).run Tryd.prog w = .ok (.bool false) w := fun w => by kernel_rfl
  refine callsD_of_wpS Tryd.func44 rfl fun c₀ cs hu => ?_
  apply wpS_seq
  apply wpS_region
  simp [wpOpsS, go_sem, recoverD, hu, hnn, Tryd.ntmps44, Exit.thenS]
  apply wpS_seq
  apply wpS_region
  simp [wpOpsS, go_sem, hnn, Exit.thenS]
  refine wpS_cond (t := false) (by simp [Act.eval, Array.replicate]) ?_
  simp only [Bool.false_eq_true, if_false]
  refine wpS_of_wp (wp_skip ?_)
  cases c₀
  simp_all [bodyPostS, results, Tryd.results44]
theorem neq_ended (c : Int) (w : World) : (binOp .neq 20 (.iface 76 (.int .i64 c)) .nilIface).run Tryd.prog w = .ok (.bool true) w := by kernel_rfl
theorem assert_ended (c : Int) (w : World) : (Instr.typeAssert (.iface 76 (.int .i64 c)) 20 76 true).run Tryd.prog w = .ok (.tuple #[.int .i64 c, .bool true]) w := by
  have h := Tryd.underlying76
  first | kernel_rfl | (simp [Instr.typeAssert, run_underlying h])
set_option maxHeartbeats 2000000 in
theorem Read_catch (g6 g7 g8 : Nat) (c : Int) (w : World) (x0 x1 x2 x3 x4 x5 x7 x8 : Value)
    (h6 : w.heap[g6]? = some (.cells #[x0, x1, x2, x3, x4, x5] 25 (0, 0))) (h7 : w.heap[g7]? = some (.cells #[x7] 3 (0, 0))) (h8 : w.heap[g8]? = some (.cells #[x8] 28 (0, 0))) (n67 : g6 ≠ g7) (n68 : g6 ≠ g8) (n78 : g7 ≠ g8) :
    CallsD Tryd.prog 44 #[.pointer (some ⟨g6, 0, none⟩), .pointer (some ⟨g7, 0, none⟩), .pointer (some ⟨g8, 0, none⟩)] (.panicking [{ v := .iface 76 (.int .i64 c), recovered := false }]) w fun e u' w' =>
      e = .returned (.tuple #[]) ∧ u' = .panicking [{ v := .iface 76 (.int .i64 c), recovered := true }] ∧ Keeps (fun k => k = g6 ∨ k = g7 ∨ k = g8) w w' ∧
        w'.heap[g6]? = some (.cells #[.int .i64 0, .bool false, .int .i64 0, .string ByteArray.empty, .slice none 0 0, .slice none 0 0] 25 (0, 0)) ∧ w'.heap[g7]? = some (.cells #[.int .i64 c] 3 (0, 0)) ∧ w'.heap[g8]? = some (.cells #[.int .i64 4] 28 (0, 0)) := by
  obtain ⟨i3, hi3, hs3⟩ := infoS3
  obtain ⟨i28, hi28, hs28⟩ := info28
  obtain ⟨i25, hi25, hs25⟩ := info25
  have H6 := Lib.hid h6
  have H7 := Lib.hid h7
  have H8 := Lib.hid h8
  have hi := Lib.hid (And.intro (And.intro hi25 hs25) (And.intro (And.intro hi3 hs3) (And.intro hi28 hs28)))
  clear h6 h7 h8 hi3 hs3 hi28 hs28 hi25 hs25
  refine callsD_of_wpS Tryd.func44 rfl fun c₀ cs hu => ?_
  apply wpS_seq
  apply wpS_region
  simp [wpOpsS, go_sem, neq_ended, assert_ended, recoverD, hu, Tryd.ntmps44, Exit.thenS]
  apply wpS_seq
  apply wpS_region
  simp [wpOpsS, go_sem, neq_ended, assert_ended, Exit.thenS]
  refine wpS_cond (t := true) (by simp [Act.eval, Array.replicate]) ?_
  simp only [if_true]
  apply wpS_seq
  apply wpS_region
  simp [wpOpsS, go_sem, neq_ended, assert_ended, Exit.thenS]
  apply wpS_seq
  apply wpS_seq
  apply wpS_region
  simp [wpOpsS, go_sem, neq_ended, assert_ended, Exit.thenS]
  refine wpS_cond (t := false) (by simp [Act.eval, Array.replicate]) ?_
  simp only [Bool.false_eq_true, if_false]
  refine wpS_of_wp (wp_skip ?_)
  simp only [Exit.thenS]
  refine wpS_of_wp ?_
  simp only [Array.replicate_succ, Array.replicate_zero, List.push_toArray, List.append_toArray, List.nil_append, List.cons_append, List.setIfInBounds_toArray, List.set_cons_zero, List.set_cons_succ]
  go_wp2_with (first
    | ((with_reducible refine at_store (t := 25) rfl ?_); go_must (refine ev_store (cs' := #[.int .i64 0, .bool false, .int .i64 0, .string ByteArray.empty, .slice none 0 0, .slice none 0 0]) rfl rfl rfl rfl rfl rfl hi.out.1.1 hi.out.1.2 rfl H6.out (Nat.le_of_ble_eq_true rfl) rfl ?_; intro w1 hb1 hk1); (try simp only [PU]))
    | ((with_reducible refine at_store (t := 3) rfl ?_); go_must (refine ev_store (cs' := #[.int .i64 c]) rfl rfl rfl rfl rfl rfl hi.out.2.1.1 hi.out.2.1.2 rfl (hk1.blk H7.out n67.symm) (Nat.le_of_ble_eq_true rfl) rfl ?_; intro w2 hb2 hk2); (try simp only [PU]))
    | ((with_reducible refine at_store (t := 28) rfl ?_); go_must (refine ev_store (cs' := #[.int .i64 4]) rfl rfl rfl rfl rfl rfl hi.out.2.2.1 hi.out.2.2.2 rfl (hk2.blk (hk1.blk H8.out n68.symm) n78.symm) (Nat.le_of_ble_eq_true rfl) rfl ?_; intro w3 hb3 hk3); (try simp only [PU])))
  exact ⟨rfl, _, rfl, _, by simp [results, Tryd.results44], rfl, rfl, ((hk1.mono (M' := fun k => k = g6 ∨ k = g7 ∨ k = g8) (fun _ _ e => .inl e)).trans hk2 (fun _ _ e => .inr (.inl e))).trans hk3 (fun _ _ e => .inr (.inr e)), hk3.blk (hk2.blk hb1 n67) n68, hk3.blk hb2 n78, hb3⟩
end Go.Proofs.WV

/-
  Read, by the program, in memory. Condition: the standard library's table of powers lies.
-/
namespace Go.Proofs.WV
open Go.RowKit Go.Proofs.KL Go.Proofs.WM
set_option maxRecDepth 100000
set_option linter.unusedSimpArgs false
set_option linter.unusedVariables false

/-- What Read comes to. -/
def ReadEnd (w : World) (x : J × Int × Int) : Ending → World → Prop := fun e w' => (∃ v, e = .returned (.tuple #[v, .int .i64 x.2.1, .int .i64 x.2.2]) ∧ JX w' (fun b => w.heap.size ≤ b) v x.1) ∧ Keeps Nob w w'
theorem zJX (W : World) (X : Nat → Prop) : JX W X (.agg #[.int .i64 0, .bool false, .int .i64 0, .string ByteArray.empty, .slice none 0 0, .slice none 0 0]) zJ := JX.close (strs_nil W X) (js_nil W X)
set_option maxHeartbeats 2000000 in
/-- Too long. -/
theorem Read_long {w : World} {T : ByteArray} (hT : 1000000 < T.size) : Calls Tryd.prog 18 #[.string T] w (ReadEnd w (zJ, 0, 3)) := by
  obtain ⟨i3, hi3, hs3⟩ := infoS3
  obtain ⟨i28, hi28, hs28⟩ := info28
  obtain ⟨i25, hi25, hs25⟩ := info25
  have HI := Lib.hid (And.intro (And.intro hi25 hs25) (And.intro (And.intro hi3 hs3) (And.intro hi28 hs28)))
  clear hi3 hs3 hi28 hs28 hi25 hs25
  have hT' : (1000000 : Int) < T.size := by omega
  clear hT
  go_enter_defers Tryd.func18, Tryd.ntmps18
  go_wp2_with (first
    | ((with_reducible refine at_dst (N := 2) rfl ?_); go_must (refine ev_alloc rfl rfl zero25 rfl ?_; intro g6 w1 hg6 hl6 hb6 hk1); have Hb6 := Lib.hid hb6; have HK := Lib.hid hk1; have Hg6 := Lib.hid hg6; clear hb6 hk1 hg6 hl6; (try simp only [PU]))
    | ((with_reducible refine at_dst (N := 3) rfl ?_); go_must (refine ev_alloc rfl rfl zeroS3 rfl ?_; intro g7 w2 hg7 hl7 hb7 hk2); have Hg7 := Lib.hid (show w.heap.size ≤ g7 ∧ g6 < g7 from ⟨Nat.le_trans HK.out.size hg7, Nat.lt_of_lt_of_le (blk_lt Hb6.out) hg7⟩); have Hb6 := Lib.hid (hk2.blk Hb6.out id); have Hb7 := Lib.hid hb7; have HK := Lib.hid (HK.out.trans hk2 (fun _ _ h => h)); clear hb7 hk2 hg7 hl7; (try simp only [PU]))
    | ((with_reducible refine at_dst (N := 4) rfl ?_); go_must (refine ev_alloc rfl rfl zero28 rfl ?_; intro g8 w3 hg8 hl8 hb8 hk3); have Hg8 := Lib.hid (show w.heap.size ≤ g8 ∧ g7 < g8 from ⟨Nat.le_trans HK.out.size hg8, Nat.lt_of_lt_of_le (blk_lt Hb7.out) hg8⟩); have Hb6 := Lib.hid (hk3.blk Hb6.out id); have Hb7 := Lib.hid (hk3.blk Hb7.out id); have Hb8 := Lib.hid hb8; have HK := Lib.hid (HK.out.trans hk3 (fun _ _ h => h)); clear hb8 hk3 hg8 hl8; (try simp only [PU]))
    | ((with_reducible refine at_store (t := 25) rfl ?_); go_must (refine ev_store (cs' := #[.int .i64 0, .bool false, .int .i64 0, .string ByteArray.empty, .slice none 0 0, .slice none 0 0]) rfl rfl rfl rfl rfl rfl HI.out.1.1 HI.out.1.2 rfl Hb6.out (Nat.le_of_ble_eq_true rfl) rfl ?_; intro wa hba hka); have Hb7 := Lib.hid (hka.blk Hb7.out (fun e : g7 = g6 => by have := Hg7.out; omega)); have Hb8 := Lib.hid (hka.blk Hb8.out (fun e : g8 = g6 => by have := Hg7.out; have := Hg8.out; omega)); have Hb6 := Lib.hid hba; have HKa := Lib.hid (hka.mono (M' := fun k => k = g6 ∨ k = g7 ∨ k = g8) (fun _ _ e => .inl e)); clear hba hka; (try simp only [PU]))
    | ((with_reducible refine at_store (t := 3) rfl ?_); go_must (refine ev_store (cs' := #[.int .i64 0]) rfl rfl rfl rfl rfl rfl HI.out.2.1.1 HI.out.2.1.2 rfl Hb7.out (Nat.le_of_ble_eq_true rfl) rfl ?_; intro wb hbb hkb); have Hb6 := Lib.hid (hkb.blk Hb6.out (fun e : g6 = g7 => by have := Hg7.out; omega)); have Hb8 := Lib.hid (hkb.blk Hb8.out (fun e : g8 = g7 => by have := Hg8.out; omega)); have Hb7 := Lib.hid hbb; have HKa := Lib.hid (HKa.out.trans hkb (fun _ _ e => .inr (.inl e))); clear hbb hkb; (try simp only [PU]))
    | ((with_reducible refine at_store (t := 28) rfl ?_); go_must (refine ev_store (cs' := #[.int .i64 3]) rfl rfl rfl rfl rfl rfl HI.out.2.2.1 HI.out.2.2.2 rfl Hb8.out (Nat.le_of_ble_eq_true rfl) rfl ?_; intro wc hbc hkc); have Hb6 := Lib.hid (hkc.blk Hb6.out (fun e : g6 = g8 => by have := Hg7.out; have := Hg8.out; omega)); have Hb7 := Lib.hid (hkc.blk Hb7.out (fun e : g7 = g8 => by have := Hg8.out; omega)); have Hb8 := Lib.hid hbc; have HKa := Lib.hid (HKa.out.trans hkc (fun _ _ e => .inr (.inr e))); clear hbc hkc; (try simp only [PU]))
  )
  simp only [bodyPostD, Leaves]
  refine ⟨_, results_cells3 (x := .agg #[.int .i64 0, .bool false, .int .i64 0, .string ByteArray.empty, .slice none 0 0, .slice none 0 0]) (y := .int .i64 0) (z := .int .i64 3) rfl _ _ rfl rfl rfl (by have s0 := (blk_cell Hb6.out 0).trans rfl; have s1 := (blk_cell Hb6.out 1).trans rfl; have s2 := (blk_cell Hb6.out 2).trans rfl; have s3 := (blk_cell Hb6.out 3).trans rfl; have s4 := (blk_cell Hb6.out 4).trans rfl; have s5 := (blk_cell Hb6.out 5).trans rfl; go_simp) (by have s0 := (blk_cell Hb7.out 0).trans rfl; go_simp) (by have s0 := (blk_cell Hb8.out 0).trans rfl; go_simp), ?_⟩
  exact ⟨⟨_, rfl, zJX _ _⟩, HK.out.trans HKa.out (fun i hi e => by have := Hg6.out; have := Hg7.out; have := Hg8.out; omega)⟩
end Go.Proofs.WV

/-
  Read, by the program, in memory, whole. Condition: the standard library's table of powers lies.
-/
namespace Go.Proofs.WV
open Go.RowKit Go.Proofs.KL Go.Proofs.WM
set_option maxRecDepth 100000
set_option linter.unusedSimpArgs false
set_option linter.unusedVariables false

set_option maxHeartbeats 4000000 in
theorem Read_short {w : World} {T : ByteArray} (ht : Tab w w.heap.size) (hT : T.size ≤ 1000000) : Calls Tryd.prog 18 #[.string T] w (ReadEnd w (readW T)) := by
  obtain ⟨i3, hi3, hs3⟩ := infoS3
  obtain ⟨i28, hi28, hs28⟩ := info28
  obtain ⟨i25, hi25, hs25⟩ := info25
  have HI := Lib.hid (And.intro (And.intro hi25 hs25) (And.intro (And.intro hi3 hs3) (And.intro hi28 hs28)))
  clear hi3 hs3 hi28 hs28 hi25 hs25
  have hT' : ¬ (1000000 : Int) < T.size := by omega
  have hTn : ¬ 1000000 < T.size := by omega
  have hmf : ∀ (fn : Fn) (first cap : Array Value) (w : World), (Instr.makeFunc fn first cap).run Tryd.prog w = .ok (.func fn first cap) w := fun _ _ _ _ => rfl
  have hbb := blanksB_le (bl T)
  have hbT := bl_len T
  have HT := Lib.hid ht
  have HTs := Lib.hid hT
  have HVal := Lib.hid (fun (W : World) (r : Nat) (hr : Rd W r T (blanksB (bl T))) => value_all 40 (Nat.le_refl _) (4 * (bl T).length + 8) (blanksB (bl T)) W r T (by omega) hr)
  rcases hv : valueF (4 * (bl T).length + 8) 40 (blanksB (bl T)) with n | ⟨j, r1⟩
  · have hR : readW T = (zJ, ((T.size - n : Nat) : Int), 4) := by
      unfold readW readJ
      rw [if_neg hTn, hv, hbT]
    rw [hR]
    rw [hv] at HVal
    obtain ⟨a, ha⟩ : ∃ a, T.size - n = a := ⟨_, rfl⟩
    have Ha := Lib.hid ha
    rw [ha]
    clear ht hT hTn hbb hbT hv hR ha
    go_enter_defers Tryd.func18, Tryd.ntmps18
    go_wp2_with (first
      | ((with_reducible refine at_dst (N := 2) rfl ?_); go_must (refine ev_alloc rfl rfl zero25 rfl ?_; intro g6 w1 hg6 hl6 hb6 hk1); have Hb6 := Lib.hid hb6; have HK := Lib.hid hk1; have Hg6 := Lib.hid hg6; clear hb6 hk1 hg6 hl6; (try simp only [PU]))
      | ((with_reducible refine at_dst (N := 3) rfl ?_); go_must (refine ev_alloc rfl rfl zeroS3 rfl ?_; intro g7 w2 hg7 hl7 hb7 hk2); have Hg7 := Lib.hid (show w.heap.size ≤ g7 ∧ g6 < g7 from ⟨Nat.le_trans HK.out.size hg7, Nat.lt_of_lt_of_le (blk_lt Hb6.out) hg7⟩); have Hb6 := Lib.hid (hk2.blk Hb6.out id); have Hb7 := Lib.hid hb7; have HK := Lib.hid (HK.out.trans hk2 (fun _ _ h => h)); clear hb7 hk2 hg7 hl7; (try simp only [PU]))
      | ((with_reducible refine at_dst (N := 4) rfl ?_); go_must (refine ev_alloc rfl rfl zero28 rfl ?_; intro g8 w3 hg8 hl8 hb8 hk3); have Hg8 := Lib.hid (show w.heap.size ≤ g8 ∧ g7 < g8 from ⟨Nat.le_trans HK.out.size hg8, Nat.lt_of_lt_of_le (blk_lt Hb7.out) hg8⟩); have Hb6 := Lib.hid (hk3.blk Hb6.out id); have Hb7 := Lib.hid (hk3.blk Hb7.out id); have Hb8 := Lib.hid hb8; have HK := Lib.hid (HK.out.trans hk3 (fun _ _ h => h)); clear hb8 hk3 hg8 hl8; (try simp only [PU]))
      | ((with_reducible refine at_dst (N := 13) rfl ?_); go_must (refine ev_box (cs := #[.string T, .int .i64 0]) rfl rfl rfl ?_; intro g5 w4 hg5 hl5 hb5 hk5)
         have Hg5 := Lib.hid (show w.heap.size ≤ g5 ∧ g8 < g5 from ⟨Nat.le_trans HK.out.size hg5, Nat.lt_of_lt_of_le (blk_lt Hb8.out) hg5⟩)
         have Hr := Lib.hid (show Rd w4 g5 T (bl T) from ⟨by rw [bl_len, Nat.sub_self]; exact hb5, ⟨[], rfl⟩, HTs.out⟩)
         have Hb6 := Lib.hid (hk5.blk Hb6.out id)
         have Hb7 := Lib.hid (hk5.blk Hb7.out id)
         have Hb8 := Lib.hid (hk5.blk Hb8.out id)
         have HK := Lib.hid (HK.out.trans hk5 (fun _ _ h => h))
         clear hb5 hk5 hg5 hl5
         (try simp only [PU]))
      | (go_at_call 45; go_must (refine (blanks45 Hr.out).mono ?_; rintro e w5 ⟨⟨y5, rfl⟩, hr5, hk5⟩)
         have Hr := Lib.hid hr5
         (try have HV := Lib.hid (HV.out.keep (X' := fun b => g5 < b) hk5 (fun b _ hb e => by omega) (fun _ _ h => h)))
         have Hb6 := Lib.hid (hk5.blk Hb6.out (fun e : g6 = g5 => by have := Hg7.out; have := Hg8.out; have := Hg5.out; omega))
         have Hb7 := Lib.hid (hk5.blk Hb7.out (fun e : g7 = g5 => by have := Hg8.out; have := Hg5.out; omega))
         have Hb8 := Lib.hid (hk5.blk Hb8.out (fun e : g8 = g5 => by have := Hg5.out; omega))
         have HK := Lib.hid (show Keeps Nob w w5 from HK.out.trans hk5 (fun i hi e => by have := Hg5.out; omega))
         clear hr5 hk5
         (try simp only [PU]))
    )
    refine (HVal.out _ _ Hr.out).mono ?_
    rintro e w8 ⟨rfl, hk8⟩
    have Hb6 := Lib.hid (hk8.blk Hb6.out (fun e : g6 = g5 => by have := Hg7.out; have := Hg8.out; have := Hg5.out; omega))
    have Hb7 := Lib.hid (hk8.blk Hb7.out (fun e : g7 = g5 => by have := Hg8.out; have := Hg5.out; omega))
    have Hb8 := Lib.hid (hk8.blk Hb8.out (fun e : g8 = g5 => by have := Hg5.out; omega))
    have HK := Lib.hid (show Keeps Nob w w8 from HK.out.trans hk8 (fun i hi e => by have := Hg5.out; omega))
    clear hk8
    unfold stopAt
    rw [Ha.out]
    refine leaves_cons (f := 44) (args := #[.pointer (some ⟨g6, 0, none⟩), .pointer (some ⟨g7, 0, none⟩), .pointer (some ⟨g8, 0, none⟩)]) (by simp) (by simp [go_sem]) ?_
    refine (Read_catch g6 g7 g8 (a : Nat) _ _ _ _ _ _ _ _ _ Hb6.out Hb7.out Hb8.out (by have := Hg7.out; omega) (by have := Hg7.out; have := Hg8.out; omega) (by have := Hg8.out; omega)).mono ?_
    rintro e u' w9 ⟨rfl, rfl, hk9, hb6, hb7, hb8⟩
    have s0 := (blk_cell hb6 0).trans rfl
    have s1 := (blk_cell hb6 1).trans rfl
    have s2 := (blk_cell hb6 2).trans rfl
    have s3 := (blk_cell hb6 3).trans rfl
    have s4 := (blk_cell hb6 4).trans rfl
    have s5 := (blk_cell hb6 5).trans rfl
    have s7 := (blk_cell hb7 0).trans rfl
    have s8 := (blk_cell hb8 0).trans rfl
    simp only [settle, Leaves]
    refine ⟨_, results_cells3 (x := .agg #[.int .i64 0, .bool false, .int .i64 0, .string ByteArray.empty, .slice none 0 0, .slice none 0 0]) (y := .int .i64 (a : Nat)) (z := .int .i64 4) rfl _ _ rfl rfl rfl (by go_simp) (by go_simp) (by go_simp), ?_⟩
    exact ⟨⟨_, rfl, zJX _ _⟩, HK.out.trans hk9 (fun i hi e => by have := Hg6.out; have := Hg7.out; have := Hg8.out; omega)⟩
  · have hsz := read_size hv
    have Hsz := Lib.hid (show sizeJ j ≤ 10000000000 by omega)
    rw [hv] at HVal
    rcases hb : blanksB r1 with _ | ⟨c, q⟩
    · have hR : readW T = (if checkJ j = 0 then (j, 0, 0) else (zJ, 0, 3)) := by
        unfold readW readJ
        rw [if_neg hTn, hv]
        simp only [hb]
      rw [hR]
      have Hbl := Lib.hid hb
      obtain ⟨c, hc⟩ : ∃ c, checkJ j = c := ⟨_, rfl⟩
      have Hck := Lib.hid hc
      rw [hc]
      by_cases h0 : c = 0
      · subst h0
        rw [if_pos rfl]
        clear ht hT hTn hbb hbT hv hR hb hc hsz
        go_enter_defers Tryd.func18, Tryd.ntmps18
        go_upto_region 7 with (first
          | ((with_reducible refine at_dst (N := 2) rfl ?_); go_must (refine ev_alloc rfl rfl zero25 rfl ?_; intro g6 w1 hg6 hl6 hb6 hk1); have Hb6 := Lib.hid hb6; have HK := Lib.hid hk1; have Hg6 := Lib.hid hg6; clear hb6 hk1 hg6 hl6; (try simp only [PU]))
          | ((with_reducible refine at_dst (N := 3) rfl ?_); go_must (refine ev_alloc rfl rfl zeroS3 rfl ?_; intro g7 w2 hg7 hl7 hb7 hk2); have Hg7 := Lib.hid (show w.heap.size ≤ g7 ∧ g6 < g7 from ⟨Nat.le_trans HK.out.size hg7, Nat.lt_of_lt_of_le (blk_lt Hb6.out) hg7⟩); have Hb6 := Lib.hid (hk2.blk Hb6.out id); have Hb7 := Lib.hid hb7; have HK := Lib.hid (HK.out.trans hk2 (fun _ _ h => h)); clear hb7 hk2 hg7 hl7; (try simp only [PU]))
          | ((with_reducible refine at_dst (N := 4) rfl ?_); go_must (refine ev_alloc rfl rfl zero28 rfl ?_; intro g8 w3 hg8 hl8 hb8 hk3); have Hg8 := Lib.hid (show w.heap.size ≤ g8 ∧ g7 < g8 from ⟨Nat.le_trans HK.out.size hg8, Nat.lt_of_lt_of_le (blk_lt Hb7.out) hg8⟩); have Hb6 := Lib.hid (hk3.blk Hb6.out id); have Hb7 := Lib.hid (hk3.blk Hb7.out id); have Hb8 := Lib.hid hb8; have HK := Lib.hid (HK.out.trans hk3 (fun _ _ h => h)); clear hb8 hk3 hg8 hl8; (try simp only [PU]))
          | ((with_reducible refine at_dst (N := 13) rfl ?_); go_must (refine ev_box (cs := #[.string T, .int .i64 0]) rfl rfl rfl ?_; intro g5 w4 hg5 hl5 hb5 hk5)
             have Hg5 := Lib.hid (show w.heap.size ≤ g5 ∧ g8 < g5 from ⟨Nat.le_trans HK.out.size hg5, Nat.lt_of_lt_of_le (blk_lt Hb8.out) hg5⟩)
             have Hr := Lib.hid (show Rd w4 g5 T (bl T) from ⟨by rw [bl_len, Nat.sub_self]; exact hb5, ⟨[], rfl⟩, HTs.out⟩)
             have Hb6 := Lib.hid (hk5.blk Hb6.out id)
             have Hb7 := Lib.hid (hk5.blk Hb7.out id)
             have Hb8 := Lib.hid (hk5.blk Hb8.out id)
             have HK := Lib.hid (HK.out.trans hk5 (fun _ _ h => h))
             clear hb5 hk5 hg5 hl5
             (try simp only [PU]))
          | (go_at_call 45; go_must (refine (blanks45 Hr.out).mono ?_; rintro e w5 ⟨⟨y5, rfl⟩, hr5, hk5⟩)
             have Hr := Lib.hid hr5
             (try have HV := Lib.hid (HV.out.keep (X' := fun b => g5 < b) hk5 (fun b _ hb e => by omega) (fun _ _ h => h)))
             have Hb6 := Lib.hid (hk5.blk Hb6.out (fun e : g6 = g5 => by have := Hg7.out; have := Hg8.out; have := Hg5.out; omega))
             have Hb7 := Lib.hid (hk5.blk Hb7.out (fun e : g7 = g5 => by have := Hg8.out; have := Hg5.out; omega))
             have Hb8 := Lib.hid (hk5.blk Hb8.out (fun e : g8 = g5 => by have := Hg5.out; omega))
             have HK := Lib.hid (show Keeps Nob w w5 from HK.out.trans hk5 (fun i hi e => by have := Hg5.out; omega))
             clear hr5 hk5
             (try simp only [PU]))
          | (go_at_call 46; go_must (refine (HVal.out _ _ Hr.out).mono ?_; rintro e w6 ⟨⟨v1, rfl, hv1⟩, hr1, hk1⟩; obtain ⟨jk, jb, jn, jt, jks, jvs, jkv, jvv, hjj, rfl, hjk, hjv⟩ := hv1.open; obtain ⟨kA, kc, rfl, -, -⟩ := hjk; obtain ⟨jA, jc, ju, rfl, -, -, -⟩ := hjv)
             have hl5 := Hr.out.lt
             have HV := Lib.hid (hv1.keep (X' := fun b => g5 < b) (Keeps.refl Nob _) (fun _ _ _ => id) (fun b hb hx => Nat.lt_of_lt_of_le hl5 hx))
             have Hr := Lib.hid hr1
             have Hb6 := Lib.hid (hk1.blk Hb6.out (fun e : g6 = g5 => by have := Hg7.out; have := Hg8.out; have := Hg5.out; omega))
             have Hb7 := Lib.hid (hk1.blk Hb7.out (fun e : g7 = g5 => by have := Hg8.out; have := Hg5.out; omega))
             have Hb8 := Lib.hid (hk1.blk Hb8.out (fun e : g8 = g5 => by have := Hg5.out; omega))
             have HK := Lib.hid (show Keeps Nob w w6 from HK.out.trans hk1 (fun i hi e => by have := Hg5.out; omega))
             clear hv1 hr1 hk1 hjj hl5
             generalize jks.length = kl at *
             generalize jvs.length = vl at *
             (try simp only [PU]))
          | ((with_reducible refine at_store (t := 25) rfl ?_); go_must (refine ev_store (cs' := #[.int .i64 jk, .bool jb, .int .i64 jn, .string jt, .slice kA kl kc, .slice jA vl jc]) rfl rfl rfl rfl rfl rfl HI.out.1.1 HI.out.1.2 rfl Hb6.out (Nat.le_of_ble_eq_true rfl) rfl ?_; intro w7 hb7 hk7)
             have HV := Lib.hid (HV.out.keep (X' := fun b => g5 < b) hk7 (fun b _ hb e => by have := Hg7.out; have := Hg8.out; have := Hg5.out; omega) (fun _ _ h => h))
             have Hr := Lib.hid (Hr.out.keep hk7 (fun e : g5 = g6 => by have := Hg7.out; have := Hg8.out; have := Hg5.out; omega))
             have Hb7 := Lib.hid (hk7.blk Hb7.out (fun e : g7 = g6 => by have := Hg7.out; omega))
             have Hb8 := Lib.hid (hk7.blk Hb8.out (fun e : g8 = g6 => by have := Hg7.out; have := Hg8.out; omega))
             have HK := Lib.hid (show Keeps Nob w w7 from HK.out.trans hk7 (fun i hi e => by have := Hg6.out; omega))
             have Hb6 := Lib.hid hb7
             clear hb7 hk7
             (try simp only [PU]))
        )
        go_upto_region 8 with (first
          | (go_at_call 45; go_must (refine (blanks45 Hr.out).mono ?_; rintro e w5 ⟨⟨y5, rfl⟩, hr5, hk5⟩)
             have Hr := Lib.hid hr5
             (try have HV := Lib.hid (HV.out.keep (X' := fun b => g5 < b) hk5 (fun b _ hb e => by omega) (fun _ _ h => h)))
             have Hb6 := Lib.hid (hk5.blk Hb6.out (fun e : g6 = g5 => by have := Hg7.out; have := Hg8.out; have := Hg5.out; omega))
             have Hb7 := Lib.hid (hk5.blk Hb7.out (fun e : g7 = g5 => by have := Hg8.out; have := Hg5.out; omega))
             have Hb8 := Lib.hid (hk5.blk Hb8.out (fun e : g8 = g5 => by have := Hg5.out; omega))
             have HK := Lib.hid (show Keeps Nob w w5 from HK.out.trans hk5 (fun i hi e => by have := Hg5.out; omega))
             clear hr5 hk5
             (try simp only [PU]))
        )
        rw [Hbl.out] at Hr
        have q1 := (blk_cell Hr.out.blk 1).trans rfl
        have s0 := (blk_cell Hb6.out 0).trans rfl
        have s1 := (blk_cell Hb6.out 1).trans rfl
        have s2 := (blk_cell Hb6.out 2).trans rfl
        have s3 := (blk_cell Hb6.out 3).trans rfl
        have s4 := (blk_cell Hb6.out 4).trans rfl
        have s5 := (blk_cell Hb6.out 5).trans rfl
        simp only [List.length_nil, Nat.sub_zero] at q1
        go_wp2_with (first
          | (go_at_call 16; go_must (refine (check16 HV.out (Tab.up (HT.out.keep HK.out.any) HK.out.size) Hsz.out).mono ?_; rintro e w12 ⟨rfl, hk12⟩; rw [Hck.out])
             have HV := Lib.hid (HV.out.keep (X' := fun b => g5 < b) hk12 (fun _ _ _ => id) (fun _ _ h => h))
             have Hb6 := Lib.hid (hk12.blk Hb6.out id)
             have Hb7 := Lib.hid (hk12.blk Hb7.out id)
             have Hb8 := Lib.hid (hk12.blk Hb8.out id)
             have HK := Lib.hid (HK.out.trans hk12 (fun _ _ h => h))
             clear hk12 s0 s1 s2 s3 s4 s5
             have s0 := (blk_cell Hb6.out 0).trans rfl
             have s1 := (blk_cell Hb6.out 1).trans rfl
             have s2 := (blk_cell Hb6.out 2).trans rfl
             have s3 := (blk_cell Hb6.out 3).trans rfl
             have s4 := (blk_cell Hb6.out 4).trans rfl
             have s5 := (blk_cell Hb6.out 5).trans rfl
             (try simp only [PU]))
          | ((with_reducible refine at_store (t := 25) rfl ?_); go_must (refine ev_store (cs' := #[.int .i64 jk, .bool jb, .int .i64 jn, .string jt, .slice kA kl kc, .slice jA vl jc]) rfl rfl rfl rfl rfl rfl HI.out.1.1 HI.out.1.2 rfl Hb6.out (Nat.le_of_ble_eq_true rfl) rfl ?_; intro wa hba hka); have Hb7 := Lib.hid (hka.blk Hb7.out (fun e : g7 = g6 => by have := Hg7.out; omega)); have Hb8 := Lib.hid (hka.blk Hb8.out (fun e : g8 = g6 => by have := Hg7.out; have := Hg8.out; omega)); have Hb6 := Lib.hid hba; have HKa := Lib.hid (hka.mono (M' := fun k => k = g6 ∨ k = g7 ∨ k = g8) (fun _ _ e => .inl e)); clear hba hka; (try simp only [PU]))
          | ((with_reducible refine at_store (t := 3) rfl ?_); go_must (refine ev_store (cs' := #[.int .i64 0]) rfl rfl rfl rfl rfl rfl HI.out.2.1.1 HI.out.2.1.2 rfl Hb7.out (Nat.le_of_ble_eq_true rfl) rfl ?_; intro wb hbb hkb); have Hb6 := Lib.hid (hkb.blk Hb6.out (fun e : g6 = g7 => by have := Hg7.out; omega)); have Hb8 := Lib.hid (hkb.blk Hb8.out (fun e : g8 = g7 => by have := Hg8.out; omega)); have Hb7 := Lib.hid hbb; have HKa := Lib.hid (HKa.out.trans hkb (fun _ _ e => .inr (.inl e))); clear hbb hkb; (try simp only [PU]))
          | ((with_reducible refine at_store (t := 28) rfl ?_); go_must (refine ev_store (cs' := #[.int .i64 0]) rfl rfl rfl rfl rfl rfl HI.out.2.2.1 HI.out.2.2.2 rfl Hb8.out (Nat.le_of_ble_eq_true rfl) rfl ?_; intro wc hbc hkc); have Hb6 := Lib.hid (hkc.blk Hb6.out (fun e : g6 = g8 => by have := Hg7.out; have := Hg8.out; omega)); have Hb7 := Lib.hid (hkc.blk Hb7.out (fun e : g7 = g8 => by have := Hg8.out; omega)); have Hb8 := Lib.hid hbc; have HKa := Lib.hid (HKa.out.trans hkc (fun _ _ e => .inr (.inr e))); clear hbc hkc; (try simp only [PU]))
        )
        (try simp only [Exit.inBlock, Exit.then])
        refine leaves_cons (f := 44) (args := #[.pointer (some ⟨g6, 0, none⟩), .pointer (some ⟨g7, 0, none⟩), .pointer (some ⟨g8, 0, none⟩)]) (by simp) (by simp [go_sem]) ?_
        refine (Read_idle ⟨g6, 0, none⟩ ⟨g7, 0, none⟩ ⟨g8, 0, none⟩ _).mono ?_
        rintro e u' w'' ⟨rfl, rfl, rfl⟩
        simp only [settle, Leaves]
        clear s0 s1 s2 s3 s4 s5
        have s0 := (blk_cell Hb6.out 0).trans rfl
        have s1 := (blk_cell Hb6.out 1).trans rfl
        have s2 := (blk_cell Hb6.out 2).trans rfl
        have s3 := (blk_cell Hb6.out 3).trans rfl
        have s4 := (blk_cell Hb6.out 4).trans rfl
        have s5 := (blk_cell Hb6.out 5).trans rfl
        have s7 := (blk_cell Hb7.out 0).trans rfl
        have s8 := (blk_cell Hb8.out 0).trans rfl
        refine ⟨_, results_cells3 (x := .agg #[.int .i64 jk, .bool jb, .int .i64 jn, .string jt, .slice kA kl kc, .slice jA vl jc]) (y := .int .i64 0) (z := .int .i64 0) rfl _ _ rfl rfl rfl (by go_simp) (by go_simp) (by go_simp), ?_⟩
        exact ⟨⟨_, rfl, HV.out.keep HKa.out (fun b hb hx e => by have := Hg7.out; have := Hg8.out; have := Hg5.out; omega) (fun b hb hx => by have := Hg5.out; omega)⟩, HK.out.trans HKa.out (fun i hi e => by have := Hg6.out; have := Hg7.out; have := Hg8.out; omega)⟩
      · rw [if_neg h0]
        have h0b : (c == 0) = false := beq_eq_false_iff_ne.2 h0
        clear ht hT hTn hbb hbT hv hR hb hc hsz
        go_enter_defers Tryd.func18, Tryd.ntmps18
        go_upto_region 7 with (first
          | ((with_reducible refine at_dst (N := 2) rfl ?_); go_must (refine ev_alloc rfl rfl zero25 rfl ?_; intro g6 w1 hg6 hl6 hb6 hk1); have Hb6 := Lib.hid hb6; have HK := Lib.hid hk1; have Hg6 := Lib.hid hg6; clear hb6 hk1 hg6 hl6; (try simp only [PU]))
          | ((with_reducible refine at_dst (N := 3) rfl ?_); go_must (refine ev_alloc rfl rfl zeroS3 rfl ?_; intro g7 w2 hg7 hl7 hb7 hk2); have Hg7 := Lib.hid (show w.heap.size ≤ g7 ∧ g6 < g7 from ⟨Nat.le_trans HK.out.size hg7, Nat.lt_of_lt_of_le (blk_lt Hb6.out) hg7⟩); have Hb6 := Lib.hid (hk2.blk Hb6.out id); have Hb7 := Lib.hid hb7; have HK := Lib.hid (HK.out.trans hk2 (fun _ _ h => h)); clear hb7 hk2 hg7 hl7; (try simp only [PU]))
          | ((with_reducible refine at_dst (N := 4) rfl ?_); go_must (refine ev_alloc rfl rfl zero28 rfl ?_; intro g8 w3 hg8 hl8 hb8 hk3); have Hg8 := Lib.hid (show w.heap.size ≤ g8 ∧ g7 < g8 from ⟨Nat.le_trans HK.out.size hg8, Nat.lt_of_lt_of_le (blk_lt Hb7.out) hg8⟩); have Hb6 := Lib.hid (hk3.blk Hb6.out id); have Hb7 := Lib.hid (hk3.blk Hb7.out id); have Hb8 := Lib.hid hb8; have HK := Lib.hid (HK.out.trans hk3 (fun _ _ h => h)); clear hb8 hk3 hg8 hl8; (try simp only [PU]))
          | ((with_reducible refine at_dst (N := 13) rfl ?_); go_must (refine ev_box (cs := #[.string T, .int .i64 0]) rfl rfl rfl ?_; intro g5 w4 hg5 hl5 hb5 hk5)
             have Hg5 := Lib.hid (show w.heap.size ≤ g5 ∧ g8 < g5 from ⟨Nat.le_trans HK.out.size hg5, Nat.lt_of_lt_of_le (blk_lt Hb8.out) hg5⟩)
             have Hr := Lib.hid (show Rd w4 g5 T (bl T) from ⟨by rw [bl_len, Nat.sub_self]; exact hb5, ⟨[], rfl⟩, HTs.out⟩)
             have Hb6 := Lib.hid (hk5.blk Hb6.out id)
             have Hb7 := Lib.hid (hk5.blk Hb7.out id)
             have Hb8 := Lib.hid (hk5.blk Hb8.out id)
             have HK := Lib.hid (HK.out.trans hk5 (fun _ _ h => h))
             clear hb5 hk5 hg5 hl5
             (try simp only [PU]))
          | (go_at_call 45; go_must (refine (blanks45 Hr.out).mono ?_; rintro e w5 ⟨⟨y5, rfl⟩, hr5, hk5⟩)
             have Hr := Lib.hid hr5
             (try have HV := Lib.hid (HV.out.keep (X' := fun b => g5 < b) hk5 (fun b _ hb e => by omega) (fun _ _ h => h)))
             have Hb6 := Lib.hid (hk5.blk Hb6.out (fun e : g6 = g5 => by have := Hg7.out; have := Hg8.out; have := Hg5.out; omega))
             have Hb7 := Lib.hid (hk5.blk Hb7.out (fun e : g7 = g5 => by have := Hg8.out; have := Hg5.out; omega))
             have Hb8 := Lib.hid (hk5.blk Hb8.out (fun e : g8 = g5 => by have := Hg5.out; omega))
             have HK := Lib.hid (show Keeps Nob w w5 from HK.out.trans hk5 (fun i hi e => by have := Hg5.out; omega))
             clear hr5 hk5
             (try simp only [PU]))
          | (go_at_call 46; go_must (refine (HVal.out _ _ Hr.out).mono ?_; rintro e w6 ⟨⟨v1, rfl, hv1⟩, hr1, hk1⟩; obtain ⟨jk, jb, jn, jt, jks, jvs, jkv, jvv, hjj, rfl, hjk, hjv⟩ := hv1.open; obtain ⟨kA, kc, rfl, -, -⟩ := hjk; obtain ⟨jA, jc, ju, rfl, -, -, -⟩ := hjv)
             have hl5 := Hr.out.lt
             have HV := Lib.hid (hv1.keep (X' := fun b => g5 < b) (Keeps.refl Nob _) (fun _ _ _ => id) (fun b hb hx => Nat.lt_of_lt_of_le hl5 hx))
             have Hr := Lib.hid hr1
             have Hb6 := Lib.hid (hk1.blk Hb6.out (fun e : g6 = g5 => by have := Hg7.out; have := Hg8.out; have := Hg5.out; omega))
             have Hb7 := Lib.hid (hk1.blk Hb7.out (fun e : g7 = g5 => by have := Hg8.out; have := Hg5.out; omega))
             have Hb8 := Lib.hid (hk1.blk Hb8.out (fun e : g8 = g5 => by have := Hg5.out; omega))
             have HK := Lib.hid (show Keeps Nob w w6 from HK.out.trans hk1 (fun i hi e => by have := Hg5.out; omega))
             clear hv1 hr1 hk1 hjj hl5
             generalize jks.length = kl at *
             generalize jvs.length = vl at *
             (try simp only [PU]))
          | ((with_reducible refine at_store (t := 25) rfl ?_); go_must (refine ev_store (cs' := #[.int .i64 jk, .bool jb, .int .i64 jn, .string jt, .slice kA kl kc, .slice jA vl jc]) rfl rfl rfl rfl rfl rfl HI.out.1.1 HI.out.1.2 rfl Hb6.out (Nat.le_of_ble_eq_true rfl) rfl ?_; intro w7 hb7 hk7)
             have HV := Lib.hid (HV.out.keep (X' := fun b => g5 < b) hk7 (fun b _ hb e => by have := Hg7.out; have := Hg8.out; have := Hg5.out; omega) (fun _ _ h => h))
             have Hr := Lib.hid (Hr.out.keep hk7 (fun e : g5 = g6 => by have := Hg7.out; have := Hg8.out; have := Hg5.out; omega))
             have Hb7 := Lib.hid (hk7.blk Hb7.out (fun e : g7 = g6 => by have := Hg7.out; omega))
             have Hb8 := Lib.hid (hk7.blk Hb8.out (fun e : g8 = g6 => by have := Hg7.out; have := Hg8.out; omega))
             have HK := Lib.hid (show Keeps Nob w w7 from HK.out.trans hk7 (fun i hi e => by have := Hg6.out; omega))
             have Hb6 := Lib.hid hb7
             clear hb7 hk7
             (try simp only [PU]))
        )
        go_upto_region 8 with (first
          | (go_at_call 45; go_must (refine (blanks45 Hr.out).mono ?_; rintro e w5 ⟨⟨y5, rfl⟩, hr5, hk5⟩)
             have Hr := Lib.hid hr5
             (try have HV := Lib.hid (HV.out.keep (X' := fun b => g5 < b) hk5 (fun b _ hb e => by omega) (fun _ _ h => h)))
             have Hb6 := Lib.hid (hk5.blk Hb6.out (fun e : g6 = g5 => by have := Hg7.out; have := Hg8.out; have := Hg5.out; omega))
             have Hb7 := Lib.hid (hk5.blk Hb7.out (fun e : g7 = g5 => by have := Hg8.out; have := Hg5.out; omega))
             have Hb8 := Lib.hid (hk5.blk Hb8.out (fun e : g8 = g5 => by have := Hg5.out; omega))
             have HK := Lib.hid (show Keeps Nob w w5 from HK.out.trans hk5 (fun i hi e => by have := Hg5.out; omega))
             clear hr5 hk5
             (try simp only [PU]))
        )
        rw [Hbl.out] at Hr
        have q1 := (blk_cell Hr.out.blk 1).trans rfl
        have s0 := (blk_cell Hb6.out 0).trans rfl
        have s1 := (blk_cell Hb6.out 1).trans rfl
        have s2 := (blk_cell Hb6.out 2).trans rfl
        have s3 := (blk_cell Hb6.out 3).trans rfl
        have s4 := (blk_cell Hb6.out 4).trans rfl
        have s5 := (blk_cell Hb6.out 5).trans rfl
        simp only [List.length_nil, Nat.sub_zero] at q1
        go_wp2_with (first
          | (go_at_call 16; go_must (refine (check16 HV.out (Tab.up (HT.out.keep HK.out.any) HK.out.size) Hsz.out).mono ?_; rintro e w12 ⟨rfl, hk12⟩; rw [Hck.out])
             have HV := Lib.hid (HV.out.keep (X' := fun b => g5 < b) hk12 (fun _ _ _ => id) (fun _ _ h => h))
             have Hb6 := Lib.hid (hk12.blk Hb6.out id)
             have Hb7 := Lib.hid (hk12.blk Hb7.out id)
             have Hb8 := Lib.hid (hk12.blk Hb8.out id)
             have HK := Lib.hid (HK.out.trans hk12 (fun _ _ h => h))
             clear hk12 s0 s1 s2 s3 s4 s5
             have s0 := (blk_cell Hb6.out 0).trans rfl
             have s1 := (blk_cell Hb6.out 1).trans rfl
             have s2 := (blk_cell Hb6.out 2).trans rfl
             have s3 := (blk_cell Hb6.out 3).trans rfl
             have s4 := (blk_cell Hb6.out 4).trans rfl
             have s5 := (blk_cell Hb6.out 5).trans rfl
             (try simp only [PU]))
          | ((with_reducible refine at_store (t := 25) rfl ?_); go_must (refine ev_store (cs' := #[.int .i64 0, .bool false, .int .i64 0, .string ByteArray.empty, .slice none 0 0, .slice none 0 0]) rfl rfl rfl rfl rfl rfl HI.out.1.1 HI.out.1.2 rfl Hb6.out (Nat.le_of_ble_eq_true rfl) rfl ?_; intro wa hba hka); have Hb7 := Lib.hid (hka.blk Hb7.out (fun e : g7 = g6 => by have := Hg7.out; omega)); have Hb8 := Lib.hid (hka.blk Hb8.out (fun e : g8 = g6 => by have := Hg7.out; have := Hg8.out; omega)); have Hb6 := Lib.hid hba; have HKa := Lib.hid (hka.mono (M' := fun k => k = g6 ∨ k = g7 ∨ k = g8) (fun _ _ e => .inl e)); clear hba hka; (try simp only [PU]))
          | ((with_reducible refine at_store (t := 3) rfl ?_); go_must (refine ev_store (cs' := #[.int .i64 0]) rfl rfl rfl rfl rfl rfl HI.out.2.1.1 HI.out.2.1.2 rfl Hb7.out (Nat.le_of_ble_eq_true rfl) rfl ?_; intro wb hbb hkb); have Hb6 := Lib.hid (hkb.blk Hb6.out (fun e : g6 = g7 => by have := Hg7.out; omega)); have Hb8 := Lib.hid (hkb.blk Hb8.out (fun e : g8 = g7 => by have := Hg8.out; omega)); have Hb7 := Lib.hid hbb; have HKa := Lib.hid (HKa.out.trans hkb (fun _ _ e => .inr (.inl e))); clear hbb hkb; (try simp only [PU]))
          | ((with_reducible refine at_store (t := 28) rfl ?_); go_must (refine ev_store (cs' := #[.int .i64 3]) rfl rfl rfl rfl rfl rfl HI.out.2.2.1 HI.out.2.2.2 rfl Hb8.out (Nat.le_of_ble_eq_true rfl) rfl ?_; intro wc hbc hkc); have Hb6 := Lib.hid (hkc.blk Hb6.out (fun e : g6 = g8 => by have := Hg7.out; have := Hg8.out; omega)); have Hb7 := Lib.hid (hkc.blk Hb7.out (fun e : g7 = g8 => by have := Hg8.out; omega)); have Hb8 := Lib.hid hbc; have HKa := Lib.hid (HKa.out.trans hkc (fun _ _ e => .inr (.inr e))); clear hbc hkc; (try simp only [PU]))
        )
        (try simp only [Exit.inBlock, Exit.then])
        refine leaves_cons (f := 44) (args := #[.pointer (some ⟨g6, 0, none⟩), .pointer (some ⟨g7, 0, none⟩), .pointer (some ⟨g8, 0, none⟩)]) (by simp) (by simp [go_sem]) ?_
        refine (Read_idle ⟨g6, 0, none⟩ ⟨g7, 0, none⟩ ⟨g8, 0, none⟩ _).mono ?_
        rintro e u' w'' ⟨rfl, rfl, rfl⟩
        simp only [settle, Leaves]
        clear s0 s1 s2 s3 s4 s5
        have s0 := (blk_cell Hb6.out 0).trans rfl
        have s1 := (blk_cell Hb6.out 1).trans rfl
        have s2 := (blk_cell Hb6.out 2).trans rfl
        have s3 := (blk_cell Hb6.out 3).trans rfl
        have s4 := (blk_cell Hb6.out 4).trans rfl
        have s5 := (blk_cell Hb6.out 5).trans rfl
        have s7 := (blk_cell Hb7.out 0).trans rfl
        have s8 := (blk_cell Hb8.out 0).trans rfl
        refine ⟨_, results_cells3 (x := .agg #[.int .i64 0, .bool false, .int .i64 0, .string ByteArray.empty, .slice none 0 0, .slice none 0 0]) (y := .int .i64 0) (z := .int .i64 3) rfl _ _ rfl rfl rfl (by go_simp) (by go_simp) (by go_simp), ?_⟩
        exact ⟨⟨_, rfl, zJX _ _⟩, HK.out.trans HKa.out (fun i hi e => by have := Hg6.out; have := Hg7.out; have := Hg8.out; omega)⟩
    · have hr1 : (c :: q).length ≤ T.size := by
        have h1 := ((read_ok _).1 40 _ _ _ (by decide) hv).1
        have h2 := blanksB_le r1
        rw [hb] at h2
        omega
      have hR : readW T = (zJ, ((T.size - (q.length + 1) : Nat) : Int), 4) := by
        unfold readW readJ
        rw [if_neg hTn, hv]
        simp only [hb, hbT]
      rw [hR]
      have Hbl := Lib.hid hb
      obtain ⟨a, ha⟩ : ∃ a, T.size - (q.length + 1) = a := ⟨_, rfl⟩
      have haT : (a : Int) < T.size := by simp only [List.length_cons] at hr1; omega
      have Hn := Lib.hid (show q.length + 1 ≤ T.size from hr1)
      have Ha := Lib.hid ha
      rw [ha]
      clear ht hT hTn hbb hbT hv hR ha hb hsz hr1
      go_enter_defers Tryd.func18, Tryd.ntmps18
      go_upto_region 7 with (first
        | ((with_reducible refine at_dst (N := 2) rfl ?_); go_must (refine ev_alloc rfl rfl zero25 rfl ?_; intro g6 w1 hg6 hl6 hb6 hk1); have Hb6 := Lib.hid hb6; have HK := Lib.hid hk1; have Hg6 := Lib.hid hg6; clear hb6 hk1 hg6 hl6; (try simp only [PU]))
        | ((with_reducible refine at_dst (N := 3) rfl ?_); go_must (refine ev_alloc rfl rfl zeroS3 rfl ?_; intro g7 w2 hg7 hl7 hb7 hk2); have Hg7 := Lib.hid (show w.heap.size ≤ g7 ∧ g6 < g7 from ⟨Nat.le_trans HK.out.size hg7, Nat.lt_of_lt_of_le (blk_lt Hb6.out) hg7⟩); have Hb6 := Lib.hid (hk2.blk Hb6.out id); have Hb7 := Lib.hid hb7; have HK := Lib.hid (HK.out.trans hk2 (fun _ _ h => h)); clear hb7 hk2 hg7 hl7; (try simp only [PU]))
        | ((with_reducible refine at_dst (N := 4) rfl ?_); go_must (refine ev_alloc rfl rfl zero28 rfl ?_; intro g8 w3 hg8 hl8 hb8 hk3); have Hg8 := Lib.hid (show w.heap.size ≤ g8 ∧ g7 < g8 from ⟨Nat.le_trans HK.out.size hg8, Nat.lt_of_lt_of_le (blk_lt Hb7.out) hg8⟩); have Hb6 := Lib.hid (hk3.blk Hb6.out id); have Hb7 := Lib.hid (hk3.blk Hb7.out id); have Hb8 := Lib.hid hb8; have HK := Lib.hid (HK.out.trans hk3 (fun _ _ h => h)); clear hb8 hk3 hg8 hl8; (try simp only [PU]))
        | ((with_reducible refine at_dst (N := 13) rfl ?_); go_must (refine ev_box (cs := #[.string T, .int .i64 0]) rfl rfl rfl ?_; intro g5 w4 hg5 hl5 hb5 hk5)
           have Hg5 := Lib.hid (show w.heap.size ≤ g5 ∧ g8 < g5 from ⟨Nat.le_trans HK.out.size hg5, Nat.lt_of_lt_of_le (blk_lt Hb8.out) hg5⟩)
           have Hr := Lib.hid (show Rd w4 g5 T (bl T) from ⟨by rw [bl_len, Nat.sub_self]; exact hb5, ⟨[], rfl⟩, HTs.out⟩)
           have Hb6 := Lib.hid (hk5.blk Hb6.out id)
           have Hb7 := Lib.hid (hk5.blk Hb7.out id)
           have Hb8 := Lib.hid (hk5.blk Hb8.out id)
           have HK := Lib.hid (HK.out.trans hk5 (fun _ _ h => h))
           clear hb5 hk5 hg5 hl5
           (try simp only [PU]))
        | (go_at_call 45; go_must (refine (blanks45 Hr.out).mono ?_; rintro e w5 ⟨⟨y5, rfl⟩, hr5, hk5⟩)
           have Hr := Lib.hid hr5
           (try have HV := Lib.hid (HV.out.keep (X' := fun b => g5 < b) hk5 (fun b _ hb e => by omega) (fun _ _ h => h)))
           have Hb6 := Lib.hid (hk5.blk Hb6.out (fun e : g6 = g5 => by have := Hg7.out; have := Hg8.out; have := Hg5.out; omega))
           have Hb7 := Lib.hid (hk5.blk Hb7.out (fun e : g7 = g5 => by have := Hg8.out; have := Hg5.out; omega))
           have Hb8 := Lib.hid (hk5.blk Hb8.out (fun e : g8 = g5 => by have := Hg5.out; omega))
           have HK := Lib.hid (show Keeps Nob w w5 from HK.out.trans hk5 (fun i hi e => by have := Hg5.out; omega))
           clear hr5 hk5
           (try simp only [PU]))
        | (go_at_call 46; go_must (refine (HVal.out _ _ Hr.out).mono ?_; rintro e w6 ⟨⟨v1, rfl, hv1⟩, hr1, hk1⟩; obtain ⟨jk, jb, jn, jt, jks, jvs, jkv, jvv, hjj, rfl, hjk, hjv⟩ := hv1.open; obtain ⟨kA, kc, rfl, -, -⟩ := hjk; obtain ⟨jA, jc, ju, rfl, -, -, -⟩ := hjv)
           have hl5 := Hr.out.lt
           have HV := Lib.hid (hv1.keep (X' := fun b => g5 < b) (Keeps.refl Nob _) (fun _ _ _ => id) (fun b hb hx => Nat.lt_of_lt_of_le hl5 hx))
           have Hr := Lib.hid hr1
           have Hb6 := Lib.hid (hk1.blk Hb6.out (fun e : g6 = g5 => by have := Hg7.out; have := Hg8.out; have := Hg5.out; omega))
           have Hb7 := Lib.hid (hk1.blk Hb7.out (fun e : g7 = g5 => by have := Hg8.out; have := Hg5.out; omega))
           have Hb8 := Lib.hid (hk1.blk Hb8.out (fun e : g8 = g5 => by have := Hg5.out; omega))
           have HK := Lib.hid (show Keeps Nob w w6 from HK.out.trans hk1 (fun i hi e => by have := Hg5.out; omega))
           clear hv1 hr1 hk1 hjj hl5
           generalize jks.length = kl at *
           generalize jvs.length = vl at *
           (try simp only [PU]))
        | ((with_reducible refine at_store (t := 25) rfl ?_); go_must (refine ev_store (cs' := #[.int .i64 jk, .bool jb, .int .i64 jn, .string jt, .slice kA kl kc, .slice jA vl jc]) rfl rfl rfl rfl rfl rfl HI.out.1.1 HI.out.1.2 rfl Hb6.out (Nat.le_of_ble_eq_true rfl) rfl ?_; intro w7 hb7 hk7)
           have HV := Lib.hid (HV.out.keep (X' := fun b => g5 < b) hk7 (fun b _ hb e => by have := Hg7.out; have := Hg8.out; have := Hg5.out; omega) (fun _ _ h => h))
           have Hr := Lib.hid (Hr.out.keep hk7 (fun e : g5 = g6 => by have := Hg7.out; have := Hg8.out; have := Hg5.out; omega))
           have Hb7 := Lib.hid (hk7.blk Hb7.out (fun e : g7 = g6 => by have := Hg7.out; omega))
           have Hb8 := Lib.hid (hk7.blk Hb8.out (fun e : g8 = g6 => by have := Hg7.out; have := Hg8.out; omega))
           have HK := Lib.hid (show Keeps Nob w w7 from HK.out.trans hk7 (fun i hi e => by have := Hg6.out; omega))
           have Hb6 := Lib.hid hb7
           clear hb7 hk7
           (try simp only [PU]))
      )
      go_upto_region 8 with (first
        | (go_at_call 45; go_must (refine (blanks45 Hr.out).mono ?_; rintro e w5 ⟨⟨y5, rfl⟩, hr5, hk5⟩)
           have Hr := Lib.hid hr5
           (try have HV := Lib.hid (HV.out.keep (X' := fun b => g5 < b) hk5 (fun b _ hb e => by omega) (fun _ _ h => h)))
           have Hb6 := Lib.hid (hk5.blk Hb6.out (fun e : g6 = g5 => by have := Hg7.out; have := Hg8.out; have := Hg5.out; omega))
           have Hb7 := Lib.hid (hk5.blk Hb7.out (fun e : g7 = g5 => by have := Hg8.out; have := Hg5.out; omega))
           have Hb8 := Lib.hid (hk5.blk Hb8.out (fun e : g8 = g5 => by have := Hg5.out; omega))
           have HK := Lib.hid (show Keeps Nob w w5 from HK.out.trans hk5 (fun i hi e => by have := Hg5.out; omega))
           clear hr5 hk5
           (try simp only [PU]))
      )
      rw [Hbl.out] at Hr
      have q1 := (blk_cell Hr.out.blk 1).trans rfl
      have s0 := (blk_cell Hb6.out 0).trans rfl
      have s1 := (blk_cell Hb6.out 1).trans rfl
      have s2 := (blk_cell Hb6.out 2).trans rfl
      have s3 := (blk_cell Hb6.out 3).trans rfl
      have s4 := (blk_cell Hb6.out 4).trans rfl
      have s5 := (blk_cell Hb6.out 5).trans rfl
      rw [show (c :: q).length = q.length + 1 from rfl, Ha.out] at q1
      go_wp2_with fail
      have hf := fail47 Hr.out (q.length + 1) Hn.out
      rw [Ha.out] at hf
      refine hf.mono ?_
      rintro e w8 ⟨rfl, rfl⟩
      unfold stopAt
      rw [Ha.out]
      clear s0 s1 s2 s3 s4 s5 hf
      refine leaves_cons (f := 44) (args := #[.pointer (some ⟨g6, 0, none⟩), .pointer (some ⟨g7, 0, none⟩), .pointer (some ⟨g8, 0, none⟩)]) (by simp) (by simp [go_sem]) ?_
      refine (Read_catch g6 g7 g8 (a : Nat) _ _ _ _ _ _ _ _ _ Hb6.out Hb7.out Hb8.out (by have := Hg7.out; omega) (by have := Hg7.out; have := Hg8.out; omega) (by have := Hg8.out; omega)).mono ?_
      rintro e u' w9 ⟨rfl, rfl, hk9, hb6, hb7, hb8⟩
      have s0 := (blk_cell hb6 0).trans rfl
      have s1 := (blk_cell hb6 1).trans rfl
      have s2 := (blk_cell hb6 2).trans rfl
      have s3 := (blk_cell hb6 3).trans rfl
      have s4 := (blk_cell hb6 4).trans rfl
      have s5 := (blk_cell hb6 5).trans rfl
      have s7 := (blk_cell hb7 0).trans rfl
      have s8 := (blk_cell hb8 0).trans rfl
      simp only [settle, Leaves]
      refine ⟨_, results_cells3 (x := .agg #[.int .i64 0, .bool false, .int .i64 0, .string ByteArray.empty, .slice none 0 0, .slice none 0 0]) (y := .int .i64 (a : Nat)) (z := .int .i64 4) rfl _ _ rfl rfl rfl (by go_simp) (by go_simp) (by go_simp), ?_⟩
      exact ⟨⟨_, rfl, zJX _ _⟩, HK.out.trans hk9 (fun i hi e => by have := Hg6.out; have := Hg7.out; have := Hg8.out; omega)⟩
theorem Read_any {w : World} {T : ByteArray} (ht : Tab w w.heap.size) : Calls Tryd.prog 18 #[.string T] w (ReadEnd w (readW T)) := by
  by_cases hT : T.size ≤ 1000000
  · exact Read_short ht hT
  · have hR : readW T = (zJ, 0, 3) := by unfold readW; rw [if_pos (by omega)]
    rw [hR]
    exact Read_long (by omega)
end Go.Proofs.WV

/-
  The closed example (alive), by the program, in memory. Condition: the standard library's table of powers lies.
-/
namespace Go.Proofs.WV
open Go.RowKit Go.Proofs.KL Go.Proofs.WM
set_option maxRecDepth 100000
set_option linter.unusedSimpArgs false
set_option linter.unusedVariables false

theorem js2 {w : World} {X : Nat → Prop} {g : Nat} {x0 x1 x2 x3 x4 x5 y0 y1 y2 y3 y4 y5 : Value} {a b : J} (hg : w.heap[g]? = some (.cells #[x0, x1, x2, x3, x4, x5, y0, y1, y2, y3, y4, y5] 25 (0, 0))) (hX : X g) (ha : JX w X (.agg #[x0, x1, x2, x3, x4, x5]) a) (hb : JX w X (.agg #[y0, y1, y2, y3, y4, y5]) b) :
    JsX w X (.slice (some ⟨g, 0, none⟩) 2 2) [a, b] := by
  refine ⟨some ⟨g, 0, none⟩, 2, fun i k => if i = 0 then [x0, x1, x2, x3, x4, x5].getD k lz else [y0, y1, y2, y3, y4, y5].getD k lz, rfl, Nat.le_refl _, fun i hi => ⟨g, 0, rfl, hX, ?_⟩, fun i hi => ?_⟩
  · have hi' : i < 2 := hi
    match i, hi' with
    | 0, _ => exact ⟨⟨(blk_cell hg _).trans rfl, (blk_cell hg _).trans rfl, (blk_cell hg _).trans rfl⟩, (blk_cell hg _).trans rfl, (blk_cell hg _).trans rfl, (blk_cell hg _).trans rfl⟩
    | 1, _ => exact ⟨⟨(blk_cell hg _).trans rfl, (blk_cell hg _).trans rfl, (blk_cell hg _).trans rfl⟩, (blk_cell hg _).trans rfl, (blk_cell hg _).trans rfl, (blk_cell hg _).trans rfl⟩
  · have hi' : i < 2 := hi
    match i, hi' with
    | 0, _ => exact ha
    | 1, _ => exact hb
theorem strs2 {w : World} {X : Nat → Prop} {g : Nat} {a b : ByteArray} (hg : w.heap[g]? = some (.cells #[.string a, .string b] 9 (0, 0))) (hX : X g) : StrsX w X (.slice (some ⟨g, 0, none⟩) 2 2) [a, b] := by
  refine ⟨_, 2, rfl, Nat.le_refl _, fun i hi => ⟨g, 0, rfl, hX, ?_⟩⟩
  have hi' : i < 2 := hi
  match i, hi' with
  | 0, _ => exact (blk_cell hg _).trans rfl
  | 1, _ => exact (blk_cell hg _).trans rfl
theorem exW {W : World} {X : Nat → Prop} {v : Value} (h : JX W X v exV) (ht : Tab W W.heap.size) : Calls Tryd.prog 15 #[v] W fun e w' => e = .returned (.tuple #[.string ⟨#[123, 34, 97, 34, 58, 49, 44, 34, 98, 34, 58, 91, 116, 114, 117, 101, 44, 110, 117, 108, 108, 93, 125]⟩, .int .i64 0]) ∧ Keeps Nob W w' := by
  have := write15 h ht (by decide)
  rw [exWrite] at this
  exact this
theorem exB {W : World} (ht : Tab W W.heap.size) : Calls Tryd.prog 18 #[.string ⟨#[123, 34, 97, 34, 58, 49, 44, 34, 97, 34, 58, 50, 125]⟩] W (ReadEnd W (zJ, 9, 4)) := by
  have := Read_any (T := ⟨#[123, 34, 97, 34, 58, 49, 44, 34, 97, 34, 58, 50, 125]⟩) ht
  rw [exBad] at this
  exact this
theorem exR {W : World} (ht : Tab W W.heap.size) : Calls Tryd.prog 18 #[.string ⟨#[32, 123, 34, 97, 34, 32, 58, 32, 49, 44, 32, 34, 98, 34, 58, 32, 91, 116, 114, 117, 101, 44, 110, 117, 108, 108, 93, 125]⟩] W (ReadEnd W (exV, 0, 0)) := by
  have := Read_any (T := ⟨#[32, 123, 34, 97, 34, 32, 58, 32, 49, 44, 32, 34, 98, 34, 58, 32, 91, 116, 114, 117, 101, 44, 110, 117, 108, 108, 93, 125]⟩) ht
  rw [exRead] at this
  exact this
theorem Tab.after {W w : World} (h : Tab W W.heap.size) (hk : Keeps Nob W w) : Tab w w.heap.size := Tab.up (h.keep hk.any) hk.size
theorem OwnL.at {W : World} {lo : Nat} {v : Value} {ls : List Bs} (h : OwnL W lo v ls) {i : Nat} (hi : i < ls.length) : ∃ g c A n d, v = .slice (some ⟨g, 0, none⟩) ls.length c ∧ W.cell? ⟨g, i, none⟩ = some (.slice A n d) ∧ BytesX W (fun b => lo ≤ b ∧ b < W.heap.size ∧ some b ≠ v.ownBlock) (.slice A n d) (ls.getD i []) := by
  obtain ⟨xs, hr, hp⟩ := h
  obtain ⟨A, n, d, e, hb⟩ := hp i hi
  rcases hr.2 with ⟨_, h0⟩ | ⟨g, cap, cur, rfl, hlo, hg, hc, hm, hs, ht⟩
  · omega
  · refine ⟨g, cap, A, n, d, rfl, ?_, hb⟩
    rw [blk_cell hg i]
    have h1 : (cur.toList.take (ls.length * 1))[i]? = xs[i]? := by rw [ht]
    rw [List.getElem?_take, if_pos (by omega)] at h1
    have hxl : i < xs.length := by have := hr.1; omega
    rw [← Array.getElem?_toList, h1, ← e, List.getD_eq_getElem?_getD, List.getElem?_eq_getElem hxl]
    rfl
theorem bytes_lit {w : World} {g : Nat} {fz : Nat × Nat} {s : Bs} {cs : Array Value} (hg : w.heap[g]? = some (.cells cs 5 fz)) (hc : cs = (s.map byteV).toArray) : BytesX w (fun b => b = g) (.slice (some ⟨g, 0, none⟩) s.length s.length) s := by
  subst hc
  refine ⟨_, _, rfl, Nat.le_refl _, fun i hi => ⟨g, 0, rfl, rfl, ?_⟩⟩
  rw [Nat.zero_add, blk_cell hg i, List.getElem?_toArray, List.getElem?_map, List.getD_eq_getElem?_getD, List.getElem?_eq_getElem hi]
  rfl
theorem exF {W : World} {rb g : Nat} {fz : Nat × Nat} (h : FdX W rb none [] false) (hg : W.heap[g]? = some (.cells #[.int .u8 76, .int .u8 101, .int .u8 110, .int .u8 103, .int .u8 116, .int .u8 104, .int .u8 58, .int .u8 32, .int .u8 50, .int .u8 13, .int .u8 10, .int .u8 13, .int .u8 10, .int .u8 97, .int .u8 98, .int .u8 76, .int .u8 101, .int .u8 110] 5 fz)) :
    Calls Tryd.prog 21 #[.pointer (some ⟨rb, 0, none⟩), .slice (some ⟨g, 0, none⟩) 18 18] W fun e w' => (∃ gr c, e = .returned (.tuple #[.slice (some ⟨gr, 0, none⟩) 1 c, .int .i64 0]) ∧ ∃ A n d, w'.cell? ⟨gr, 0, none⟩ = some (.slice A n d) ∧ BytesX w' (fun _ => True) (.slice A n d) [97, 98]) ∧ (∃ kb, FdX w' rb kb [76, 101, 110] false) ∧ Keeps (· = rb) W w' := by
  have hb := bytes_lit (s := [76, 101, 110, 103, 116, 104, 58, 32, 50, 13, 10, 13, 10, 97, 98, 76, 101, 110]) hg rfl
  have hf := feed21 h hb (by decide) (by decide)
  rw [exFeed] at hf
  refine hf.mono ?_
  rintro e w' ⟨⟨ov, rfl, hl⟩, ⟨kb, -, hd⟩, hk⟩
  obtain ⟨gr, c, A, n, d, rfl, hc, hx⟩ := hl.at (i := 0) (by decide)
  exact ⟨⟨gr, c, rfl, A, n, d, hc, hx.keep (Keeps.refl Nob w') (fun _ _ _ => id) (fun _ _ _ => trivial)⟩, ⟨kb, hd⟩, hk⟩
set_option maxHeartbeats 8000000 in
theorem alive13 {W : World} (ht : Tab W W.heap.size) : Calls Tryd.prog 13 #[] W fun e w' => e = .returned (.bool true) ∧ Keeps Nob W w' := by
  obtain ⟨i25, hi25, hs25⟩ := info25
  have HI := Lib.hid (And.intro hi25 hs25)
  have HT := Lib.hid ht
  clear ht hi25 hs25
  go_enter Tryd.func13, Tryd.ntmps13
  go_upto_region 5 with (first
    | ((with_reducible refine at_dst (N := 16) rfl ?_); go_must (refine ev_slice (cs := #[.int .i64 2, .bool true, .int .i64 0, .string ⟨#[]⟩, .slice none 0 0, .slice none 0 0, .int .i64 1, .bool false, .int .i64 0, .string ⟨#[]⟩, .slice none 0 0, .slice none 0 0]) (t := 25) (n := 2) (c := 2) rfl (by first | (go_simp; done) | (go_simp; rfl)) ?_; intro ga wa hga hla hba hka)
       have Hba := Lib.hid hba
       have HK := Lib.hid hka
       have Hga := Lib.hid hga
       clear hba hka hga hla
       (try simp only [PU]))
    | ((with_reducible refine at_dst (N := 1) rfl ?_); go_must (refine ev_alloc rfl rfl zero25 rfl ?_; intro g1 wb hgb hlb hbb hkb)
       have Hb1 := Lib.hid hbb
       have Hg1 := Lib.hid (show W.heap.size ≤ g1 ∧ ga < g1 from ⟨Nat.le_trans HK.out.size hgb, Nat.lt_of_lt_of_le (blk_lt Hba.out) hgb⟩)
       have Hba := Lib.hid (hkb.blk Hba.out id)
       have HK := Lib.hid (HK.out.trans hkb (fun _ _ h => h))
       clear hbb hkb hgb hlb
       (try simp only [PU]))
    | ((with_reducible refine at_store (t := 25) (p := 1) rfl ?_); go_must (refine ev_store (cs' := #[.int .i64 5, .bool false, .int .i64 0, .string ⟨#[]⟩, .slice none 0 0, .slice (some ⟨ga, 0, none⟩) 2 2]) rfl rfl rfl rfl rfl rfl HI.out.1 HI.out.2 rfl Hb1.out (Nat.le_of_ble_eq_true rfl) rfl ?_; intro wc hbc hkc)
       have Hb1 := Lib.hid hbc
       have Hba := Lib.hid (hkc.blk Hba.out (fun e : ga = g1 => by have := Hg1.out; omega))
       have HK := Lib.hid (show Keeps Nob W wc from HK.out.trans hkc (fun i hi e => by have := Hg1.out; omega))
       have s0 := (blk_cell hbc 0).trans rfl
       have s1 := (blk_cell hbc 1).trans rfl
       have s2 := (blk_cell hbc 2).trans rfl
       have s3 := (blk_cell hbc 3).trans rfl
       have s4 := (blk_cell hbc 4).trans rfl
       have s5 := (blk_cell hbc 5).trans rfl
       clear hbc hkc
       (try simp only [PU]))
    | ((with_reducible refine at_dst (N := 18) rfl ?_); go_must (refine ev_slice (cs := #[.string ⟨#[97]⟩, .string ⟨#[98]⟩]) (t := 9) (n := 2) (c := 2) rfl (by first | (go_simp; done) | (go_simp; rfl)) ?_; intro gs wd hgs hls hbs hks)
       have Hbs := Lib.hid hbs
       have Hba := Lib.hid (hks.blk Hba.out id)
       have Hb1 := Lib.hid (hks.blk Hb1.out id)
       have HK := Lib.hid (HK.out.trans hks (fun _ _ h => h))
       clear hbs hks hgs hls s0 s1 s2 s3 s4 s5
       have s0 := (blk_cell Hb1.out 0).trans rfl
       have s1 := (blk_cell Hb1.out 1).trans rfl
       have s2 := (blk_cell Hb1.out 2).trans rfl
       have s3 := (blk_cell Hb1.out 3).trans rfl
       have s4 := (blk_cell Hb1.out 4).trans rfl
       have s5 := (blk_cell Hb1.out 5).trans rfl
       (try simp only [PU]))
    | ((with_reducible refine at_dst (N := 21) rfl ?_); go_must (refine ev_slice (cs := #[.int .i64 3, .bool false, .int .i64 1, .string ⟨#[]⟩, .slice none 0 0, .slice none 0 0, .int .i64 5, .bool false, .int .i64 0, .string ⟨#[]⟩, .slice none 0 0, .slice (some ⟨ga, 0, none⟩) 2 2]) (t := 25) (n := 2) (c := 2) rfl (by first | (go_simp; done) | (go_simp; rfl)) ?_; intro gv we hgv hlv hbv hkv)
       have Hbv := Lib.hid hbv
       have Hba := Lib.hid (hkv.blk Hba.out id)
       have Hbs := Lib.hid (hkv.blk Hbs.out id)
       have HK := Lib.hid (HK.out.trans hkv (fun _ _ h => h))
       clear hbv hkv hgv hlv s0 s1 s2 s3 s4 s5
       (try simp only [PU]))
    | ((with_reducible refine at_dst (N := 2) rfl ?_); go_must (refine ev_alloc rfl rfl zero25 rfl ?_; intro g2 wf hgf hlf hbf hkf)
       have Hb2 := Lib.hid hbf
       have Hg2 := Lib.hid (show W.heap.size ≤ g2 ∧ gv < g2 from ⟨Nat.le_trans HK.out.size hgf, Nat.lt_of_lt_of_le (blk_lt Hbv.out) hgf⟩)
       have Hlow := Lib.hid (show ga < g2 ∧ gs < g2 from ⟨Nat.lt_of_lt_of_le (blk_lt Hba.out) hgf, Nat.lt_of_lt_of_le (blk_lt Hbs.out) hgf⟩)
       have Hba := Lib.hid (hkf.blk Hba.out id)
       have Hbs := Lib.hid (hkf.blk Hbs.out id)
       have Hbv := Lib.hid (hkf.blk Hbv.out id)
       have HK := Lib.hid (HK.out.trans hkf (fun _ _ h => h))
       clear hbf hkf hgf hlf
       (try simp only [PU]))
    | ((with_reducible refine at_store (t := 25) (p := 2) rfl ?_); go_must (refine ev_store (cs' := #[.int .i64 6, .bool false, .int .i64 0, .string ⟨#[]⟩, .slice (some ⟨gs, 0, none⟩) 2 2, .slice (some ⟨gv, 0, none⟩) 2 2]) rfl rfl rfl rfl rfl rfl HI.out.1 HI.out.2 rfl Hb2.out (Nat.le_of_ble_eq_true rfl) rfl ?_; intro wg hbg hkg)
       have Hb2 := Lib.hid hbg
       have Hba := Lib.hid (hkg.blk Hba.out (fun e : ga = g2 => by have := Hlow.out; omega))
       have Hbs := Lib.hid (hkg.blk Hbs.out (fun e : gs = g2 => by have := Hlow.out; omega))
       have Hbv := Lib.hid (hkg.blk Hbv.out (fun e : gv = g2 => by have := Hg2.out; omega))
       have HK := Lib.hid (show Keeps Nob W wg from HK.out.trans hkg (fun i hi e => by have := Hg2.out; omega))
       have HV := Lib.hid (show JX wg (fun b => b < g2) (.agg #[.int .i64 6, .bool false, .int .i64 0, .string ⟨#[]⟩, .slice (some ⟨gs, 0, none⟩) 2 2, .slice (some ⟨gv, 0, none⟩) 2 2]) exV from
         JX.close (strs2 Hbs.out Hlow.out.2) (js2 Hbv.out Hg2.out.2 (plainJX _ _ _ _ _ _) (JX.close (strs_nil _ _) (js2 Hba.out Hlow.out.1 (plainJX _ _ _ _ _ _) (plainJX _ _ _ _ _ _)))))
       have s0 := (blk_cell hbg 0).trans rfl
       have s1 := (blk_cell hbg 1).trans rfl
       have s2 := (blk_cell hbg 2).trans rfl
       have s3 := (blk_cell hbg 3).trans rfl
       have s4 := (blk_cell hbg 4).trans rfl
       have s5 := (blk_cell hbg 5).trans rfl
       clear hbg hkg
       (try simp only [PU]))
    | (go_at_call 15; go_must (refine (exW HV.out (Tab.after HT.out HK.out)).mono ?_; rintro e w1 ⟨rfl, hk1⟩)
       have HV := Lib.hid (HV.out.after hk1)
       have Hb2 := Lib.hid (hk1.blk Hb2.out id)
       have HK := Lib.hid (HK.out.trans hk1 (fun _ _ h => h))
       clear hk1 s0 s1 s2 s3 s4 s5
       (try simp only [PU]))
    | (go_at_call 18; go_must (refine (exB (Tab.after HT.out HK.out)).mono ?_; rintro e w1 ⟨⟨v1, rfl, hv1⟩, hk1⟩; obtain ⟨jk, jb, jn, jt, jks, jvs, jkv, jvv, hjj, rfl, hjk, hjv⟩ := hv1.open; obtain ⟨kA, kc, rfl, -, -⟩ := hjk; obtain ⟨jA, jc, ju, rfl, -, -, -⟩ := hjv)
       have HV := Lib.hid (HV.out.after hk1)
       have Hb2 := Lib.hid (hk1.blk Hb2.out id)
       have HK := Lib.hid (HK.out.trans hk1 (fun _ _ h => h))
       clear hk1 hv1 hjj
       generalize jks.length = kl at *
       generalize jvs.length = vl at *
       (try simp only [PU]))
    | ((with_reducible refine at_dst (N := 5) rfl ?_); go_must (refine ev_alloc rfl rfl zero25 rfl ?_; intro g5 wh hgh hlh hbh hkh)
       have Hb5 := Lib.hid hbh
       have Hg5 := Lib.hid (show W.heap.size ≤ g5 ∧ g2 < g5 from ⟨Nat.le_trans HK.out.size hgh, Nat.lt_of_lt_of_le (blk_lt Hb2.out) hgh⟩)
       have HV := Lib.hid (HV.out.after hkh)
       have Hb2 := Lib.hid (hkh.blk Hb2.out id)
       have HK := Lib.hid (HK.out.trans hkh (fun _ _ h => h))
       clear hbh hkh hgh hlh
       (try simp only [PU]))
    | ((with_reducible refine at_store (t := 25) (p := 5) rfl ?_); go_must (refine ev_store (cs' := #[.int .i64 jk, .bool jb, .int .i64 jn, .string jt, .slice kA kl kc, .slice jA vl jc]) rfl rfl rfl rfl rfl rfl HI.out.1 HI.out.2 rfl Hb5.out (Nat.le_of_ble_eq_true rfl) rfl ?_; intro wi hbi hki)
       have HV := Lib.hid (HV.out.keep (X' := fun b => b < g2) hki (fun b _ hb e => by have := Hg5.out; omega) (fun _ _ h => h))
       have Hb2 := Lib.hid (hki.blk Hb2.out (fun e : g2 = g5 => by have := Hg5.out; omega))
       have HK := Lib.hid (show Keeps Nob W wi from HK.out.trans hki (fun i hi e => by have := Hg5.out; omega))
       clear hbi hki
       (try simp only [PU]))
  )
  go_upto_region 8 with (first
    | (go_at_call 18; go_must (refine (exR (Tab.after HT.out HK.out)).mono ?_; rintro e w1 ⟨⟨v1, rfl, hv1⟩, hk1⟩; obtain ⟨rk, rb', rn, rt, rks, rvs, rkv, rvv, hjj, rfl, hjk, hjv⟩ := hv1.open; obtain ⟨rkA, rkc, rfl, -, -⟩ := hjk; obtain ⟨rvA, rvc, ru, rfl, -, -, -⟩ := hjv)
       have HV := Lib.hid (HV.out.after hk1)
       have HV8 := Lib.hid hv1.low
       have Hb2 := Lib.hid (hk1.blk Hb2.out id)
       have HK := Lib.hid (HK.out.trans hk1 (fun _ _ h => h))
       clear hk1 hv1 hjj
       generalize rks.length = rkl at *
       generalize rvs.length = rvl at *
       (try simp only [PU]))
    | ((with_reducible refine at_dst (N := 8) rfl ?_); go_must (refine ev_alloc rfl rfl zero25 rfl ?_; intro g8 wj hgj hlj hbj hkj)
       have Hb8 := Lib.hid hbj
       have Hg8 := Lib.hid (show W.heap.size ≤ g8 ∧ g2 < g8 from ⟨Nat.le_trans HK.out.size hgj, Nat.lt_of_lt_of_le (blk_lt Hb2.out) hgj⟩)
       have HV8 := Lib.hid (HV8.out.keep (X' := fun b => b < g8) hkj (fun _ _ _ => id) (fun b hb hx => Nat.lt_of_lt_of_le hx hgj))
       have HV := Lib.hid (HV.out.after hkj)
       have Hb2 := Lib.hid (hkj.blk Hb2.out id)
       have HK := Lib.hid (HK.out.trans hkj (fun _ _ h => h))
       clear hbj hkj hgj hlj
       (try simp only [PU]))
    | ((with_reducible refine at_store (t := 25) (p := 8) rfl ?_); go_must (refine ev_store (cs' := #[.int .i64 rk, .bool rb', .int .i64 rn, .string rt, .slice rkA rkl rkc, .slice rvA rvl rvc]) rfl rfl rfl rfl rfl rfl HI.out.1 HI.out.2 rfl Hb8.out (Nat.le_of_ble_eq_true rfl) rfl ?_; intro wl hbl' hkl)
       have Hb8 := Lib.hid hbl'
       have HV := Lib.hid (HV.out.keep (X' := fun b => b < g2) hkl (fun b _ hb e => by have := Hg8.out; omega) (fun _ _ h => h))
       have HV8 := Lib.hid (HV8.out.keep (X' := fun b => b < g8) hkl (fun b _ hb e => by omega) (fun _ _ h => h))
       have Hb2 := Lib.hid (hkl.blk Hb2.out (fun e : g2 = g8 => by have := Hg8.out; omega))
       have HK := Lib.hid (show Keeps Nob W wl from HK.out.trans hkl (fun i hi e => by have := Hg8.out; omega))
       clear hbl' hkl
       (try simp only [PU]))
    | (go_at_call 27; go_must (refine (new27 _).mono ?_; rintro e w2 ⟨rb, rfl, hgr, hlr, hfd, hk2⟩)
       have HF := Lib.hid hfd
       have Hgr := Lib.hid (show W.heap.size ≤ rb ∧ g8 < rb from ⟨Nat.le_trans HK.out.size hgr, Nat.lt_of_lt_of_le (blk_lt Hb8.out) hgr⟩)
       have HV := Lib.hid (HV.out.after hk2)
       have HV8 := Lib.hid (HV8.out.after hk2)
       have Hb2 := Lib.hid (hk2.blk Hb2.out id)
       have Hb8 := Lib.hid (hk2.blk Hb8.out id)
       have HK := Lib.hid (HK.out.trans hk2 (fun _ _ h => h))
       clear hk2 hgr hlr hfd
       (try simp only [PU]))
    | ((with_reducible refine at_dst (N := 41) rfl ?_); go_must (refine ev_slice (cs := #[.int .u8 76, .int .u8 101, .int .u8 110, .int .u8 103, .int .u8 116, .int .u8 104, .int .u8 58, .int .u8 32, .int .u8 50, .int .u8 13, .int .u8 10, .int .u8 13, .int .u8 10, .int .u8 97, .int .u8 98, .int .u8 76, .int .u8 101, .int .u8 110]) (t := 5) (n := 18) (c := 18) rfl (by first | (go_simp; done) | (go_simp; rfl)) ?_; intro gz wm hgz hlz hbz hkz)
       have Hbz := Lib.hid hbz
       have Hgz := Lib.hid (show W.heap.size ≤ gz ∧ rb < gz from ⟨Nat.le_trans HK.out.size hgz, Nat.lt_of_lt_of_le (by obtain ⟨A, n, c, hb, -⟩ := HF.out; exact blk_lt hb) hgz⟩)
       have HF := Lib.hid (HF.out.keep hkz id (fun b e => by cases e))
       have HV := Lib.hid (HV.out.after hkz)
       have HV8 := Lib.hid (HV8.out.after hkz)
       have Hb2 := Lib.hid (hkz.blk Hb2.out id)
       have Hb8 := Lib.hid (hkz.blk Hb8.out id)
       have HK := Lib.hid (HK.out.trans hkz (fun _ _ h => h))
       clear hbz hkz hgz hlz
       (try simp only [PU]))
    | ((with_reducible refine at_dst (N := 42) rfl ?_); go_must (refine ev_conv_same rfl rfl byteT38 Tryd.underlying5 rfl Hbz.out ?_; intro wn hbn hkn)
       have Hbz := Lib.hid hbn
       have HF := Lib.hid (HF.out.keep hkn (fun e : rb = gz => by have := Hgz.out; omega) (fun b e => by cases e))
       have HV := Lib.hid (HV.out.keep (X' := fun b => b < g2) hkn (fun b _ hb e => by have := Hg8.out; have := Hgr.out; have := Hgz.out; omega) (fun _ _ h => h))
       have HV8 := Lib.hid (HV8.out.keep (X' := fun b => b < g8) hkn (fun b _ hb e => by have := Hgr.out; have := Hgz.out; omega) (fun _ _ h => h))
       have Hb2 := Lib.hid (hkn.blk Hb2.out (fun e : g2 = gz => by have := Hg8.out; have := Hgr.out; have := Hgz.out; omega))
       have Hb8 := Lib.hid (hkn.blk Hb8.out (fun e : g8 = gz => by have := Hgr.out; have := Hgz.out; omega))
       have HK := Lib.hid (show Keeps Nob W wn from HK.out.trans hkn (fun i hi e => by have := Hgz.out; omega))
       clear hbn hkn
       (try simp only [PU]))
    | (go_at_call 21; go_must (refine (exF HF.out Hbz.out).mono ?_; rintro e wo ⟨⟨gr, oc, rfl, oA, on, od, hoc, hox⟩, ⟨kb, hfd⟩, hko⟩)
       have HO := Lib.hid (And.intro hoc hox)
       have HF := Lib.hid hfd
       have HV := Lib.hid (HV.out.keep (X' := fun b => b < g2) hko (fun b _ hb e => by have := Hg8.out; have := Hgr.out; omega) (fun _ _ h => h))
       have HV8 := Lib.hid (HV8.out.keep (X' := fun b => b < g8) hko (fun b _ hb e => by have := Hgr.out; omega) (fun _ _ h => h))
       have Hb2 := Lib.hid (hko.blk Hb2.out (fun e : g2 = rb => by have := Hg8.out; have := Hgr.out; omega))
       have Hb8 := Lib.hid (hko.blk Hb8.out (fun e : g8 = rb => by have := Hgr.out; omega))
       have HK := Lib.hid (show Keeps Nob W wo from HK.out.trans hko (fun i hi e => by have := Hgr.out; omega))
       clear hfd hko hoc hox
       (try simp only [PU]))
  )
  have s0 := (blk_cell Hb2.out 0).trans rfl
  have s1 := (blk_cell Hb2.out 1).trans rfl
  have s2 := (blk_cell Hb2.out 2).trans rfl
  have s3 := (blk_cell Hb2.out 3).trans rfl
  have s4 := (blk_cell Hb2.out 4).trans rfl
  have s5 := (blk_cell Hb2.out 5).trans rfl
  have r0 := (blk_cell Hb8.out 0).trans rfl
  have r1 := (blk_cell Hb8.out 1).trans rfl
  have r2 := (blk_cell Hb8.out 2).trans rfl
  have r3 := (blk_cell Hb8.out 3).trans rfl
  have r4 := (blk_cell Hb8.out 4).trans rfl
  have r5 := (blk_cell Hb8.out 5).trans rfl
  have Hsame := Lib.hid (show sameJ exV exV = true from (sameJ_iff _ _).2 rfl)
  go_wp2_with (first
    | (go_at_call 23; go_must (refine (same23 HV.out _ _ HV8.out _ (Keeps.refl Nob _) (by decide) (by decide)).mono ?_; rintro e w3 ⟨rfl, hk3⟩; rw [Hsame.out])
       have hoc := hk3.cell HO.out.1 id
       have hcv := run_conv_bs (P := Tryd.prog) Tryd.underlying38 Tryd.underlying5 Tryd.underlying9 (HO.out.2.keep (X' := fun _ => True) hk3 (fun _ _ _ => id) (fun _ _ h => h))
       have hcv2 : (convert 38 9 (.slice oA on od)).run Tryd.prog w3 = .ok (.string ⟨#[97, 98]⟩) w3 := hcv
       have HF := Lib.hid (HF.out.keep hk3 id (fun _ _ => id))
       have HK := Lib.hid (HK.out.trans hk3 (fun _ _ h => h))
       clear hk3 hcv s0 s1 s2 s3 s4 s5 r0 r1 r2 r3 r4 r5
       (try simp only [PU]))
    | (go_at_call 22; go_must (refine (left_fd HF.out).mono ?_; rintro e w4 ⟨rfl, rfl⟩); (try simp only [PU]))
  )
  go_ret
  exact ⟨rfl, HK.out⟩
end Go.Proofs.WV
