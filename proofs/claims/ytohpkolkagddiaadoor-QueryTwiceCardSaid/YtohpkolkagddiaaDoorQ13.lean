/-
  A new engine (New), in memory. Condition: the table of kinds lies as it is laid.
-/
import Derived.Test.YtohpkolkagddiaaDoorQ12
namespace Go.Proofs.QW
open Go.RowKit Go.Proofs.KL Go.Proofs.QM
set_option maxRecDepth 100000
set_option linter.unusedSimpArgs false
set_option linter.unusedVariables false

def fresh (rs : List QRule) (most : Int) : Env := ⟨rs, List.replicate rs.length 0, List.replicate rs.length 0, 0, most⟩
theorem info85b : (Tryd.prog.info? 85).map (fun i => (i.zero, i.size, i.bytes)) = some (some Z85, 4, 48) := by kernel_rfl
theorem made85 {n i : Nat} (hi : i < n) : (madeCells Z85.cells (n * 4))[i * 4]? = some (.int .i64 0) ∧ (madeCells Z85.cells (n * 4))[i * 4 + 1]? = some (.slice none 0 0) ∧ (madeCells Z85.cells (n * 4))[i * 4 + 2]? = some (.int .i64 0) ∧ (madeCells Z85.cells (n * 4))[i * 4 + 3]? = some (.int .i64 0) := by
  have h := fun j (hj : j < n * 4) => madeCells_get (z := Z85) (sz := 4) rfl (by decide) hj
  refine ⟨(h (i * 4) (by omega)).trans ?_, (h (i * 4 + 1) (by omega)).trans ?_, (h (i * 4 + 2) (by omega)).trans ?_, (h (i * 4 + 3) (by omega)).trans ?_⟩
  · simp only [show i * 4 % 4 = 0 by omega]; rfl
  · simp only [show (i * 4 + 1) % 4 = 1 by omega]; rfl
  · simp only [show (i * 4 + 2) % 4 = 2 by omega]; rfl
  · simp only [show (i * 4 + 3) % 4 = 3 by omega]; rfl
theorem getD_replicate {α : Type} (n i : Nat) (a : α) : (List.replicate n a).getD i a = a := by
  rw [List.getD_eq_getElem?_getD, List.getElem?_replicate]
  split <;> rfl
theorem fresh_eng {w : World} {Y : Nat → Prop} {eb gs gm : Nat} {rs : List QRule} {v : Value} (most : Int) (hb : w.heap[eb]? = some (.cells #[v, .slice (some ⟨gs, 0, none⟩) rs.length rs.length, .map (some gm), .int .i64 0] 63 (0, 0))) (hr : RulesX w Y v rs)
    (hs : w.heap[gs]? = some (.cells (madeCells Z85.cells (rs.length * 4)) 85 (0, 0))) (hm : w.heap[gm]? = some (.map #[] 0)) (y1 : ¬ Y eb) (y2 : ¬ Y gs) (y3 : ¬ Y gm) : EngAt w Y eb gs gm (fresh rs most) (List.replicate rs.length none) := by
  refine ⟨⟨v, rs.length, hb, hr⟩, ⟨_, hs, fun i hi => ?_⟩, ⟨#[], 0, hm, ⟨by simp, by simp⟩, fun q _ => mlook_nil q, fun q h0 h1 => ?_⟩, y1, y2, y3⟩
  · obtain ⟨h1, h2, h3, h4⟩ := made85 (n := rs.length) hi
    exact ⟨by rw [h1]; simp only [fresh]; rw [getD_replicate], h2, h3, by rw [h4]; simp only [fresh]; rw [getD_replicate]⟩
  · rw [getD_replicate]
    exact mlook_nil q
set_option maxHeartbeats 2000000 in
/-- NEW. -/
theorem New_any (rs : List QRule) (w : World) (X : Nat → Prop) (rv : Value) (hr : RulesX w X rv rs) (ht : rs.length ≤ 200 → Tab w) :
    Calls Tryd.prog 23 #[rv] w fun e w' => Keeps Nob w w' ∧ ((check rs).2 ≠ 0 → e = .returned (.tuple #[.pointer none, .int .i64 (check rs).2])) ∧
      ((check rs).2 = 0 → ∃ eb ib mb Y, e = .returned (.tuple #[.pointer (some ⟨eb, 0, none⟩), .int .i64 0]) ∧ (∀ most, EngAt w' Y eb ib mb (fresh rs most) (List.replicate rs.length none)) ∧ (∀ k, Y k → w.heap.size ≤ k ∧ k < w'.heap.size) ∧ w.heap.size ≤ eb ∧ w.heap.size ≤ ib ∧ w.heap.size ≤ mb) := by
  have hrun := Lib.hid (Check_any rs w X rv hr ht)
  have hck := Lib.hid (@check_ok rs)
  have HR := Lib.hid hr
  rcases hc : check rs with ⟨c1, c2⟩
  rw [hc] at hrun hck
  dsimp only at hck ⊢
  have hl : ∃ n c A, rv = .slice A n c ∧ n = rs.length := by obtain ⟨A, c, h, _⟩ := hr; exact ⟨_, c, A, h, rfl⟩
  obtain ⟨n, c, A, rfl, hn⟩ := hl
  have Hn := Lib.hid hn
  clear hr ht hc hn
  by_cases h0 : c2 = 0
  · subst h0
    obtain ⟨h200, hrok⟩ := hck.out rfl
    have Hasks : Hid (∀ r ∈ rs, r.asks.length ≤ 1000000) := Lib.hid (fun r hr => by have := (hrok r hr).l12; omega)
    have hn2 : n ≤ 200 := by have := Hn.out; omega
    clear hrok
    go_enter Tryd.func23, Tryd.ntmps23
    go_wp2_with (go_at_call 22; go_must (refine hrun.out.mono ?_; rintro e w1 ⟨rfl, hk1⟩))
    have hkc := (Keeps.refl Nob w1).drew
    have HR1 := Lib.hid (HR.out.keep (X' := X) hk1 (fun _ _ _ => id) (fun _ _ h => h))
    refine wp_region_tree (.q 0 (.q 2 (.q 3 (.br [1, 4, 5] (fun k => bif Nat.beq k 1 then .br [4, 5] (fun k => bif Nat.beq k 4 then .br [5] (fun k => .q 6 (.br [7] (fun k => .q 8 (.q 9 (.done))))) else .br [4] (fun k => .q 6 (.br [7] (fun k => .q 8 (.q 9 (.done)))))) else bif Nat.beq k 4 then .br [1, 5] (fun k => bif Nat.beq k 1 then .br [5] (fun k => .q 6 (.br [7] (fun k => .q 8 (.q 9 (.done))))) else .br [1] (fun k => .q 6 (.br [7] (fun k => .q 8 (.q 9 (.done)))))) else .br [1, 4] (fun k => bif Nat.beq k 1 then .br [4] (fun k => .q 6 (.br [7] (fun k => .q 8 (.q 9 (.done))))) else .br [1] (fun k => .q 6 (.br [7] (fun k => .q 8 (.q 9 (.done))))))))))) (fun w' => True) rfl (by kernel_rfl) (by kernel_rfl) (fun c a d v w h => by cases d <;> exact h) trivial ?_
    refine tree_q (v := ?v1_30) (some 14) rfl rfl rfl ?q1_30 ?h1_30; (case q1_30 => (intro w' hS; skip; first | (go_simp; done) | (go_simp; rfl))); (try simp only [Act.put, List.setIfInBounds_toArray, List.set_cons_zero, List.set_cons_succ])
    refine tree_q (v := ?v1_29) (some 16) rfl rfl rfl ?q1_29 ?h1_29; (case q1_29 => (intro w' hS; skip; first | (go_simp; done) | (go_simp; rfl))); (try simp only [Act.put, List.setIfInBounds_toArray, List.set_cons_zero, List.set_cons_succ])
    refine tree_q (v := ?v1_28) (some 17) rfl rfl rfl ?q1_28 ?h1_28; (case q1_28 => (intro w' hS; skip; first | (go_simp; done) | (go_simp; rfl))); (try simp only [Act.put, List.setIfInBounds_toArray, List.set_cons_zero, List.set_cons_succ])
    refine tree_b rfl rfl ?b1_9 ?nb1_9
    case' b1_9 =>   -- 1: call F44(t14)
      go_wp2_with (go_at_call 44; go_must (refine (own_any rs _ X _ (HR1.out.keep hkc (fun _ _ _ => id) (fun _ _ h => h)) h200 Hasks.out).mono ?_; rintro e w2 ⟨v', rfl, hk2, hr2⟩; obtain ⟨vA, vc, rfl, _, _⟩ := id hr2))
      refine ⟨trivial, ?_⟩
      have z2 := hk2.size
      have hkc := hkc.trans hk2 (fun _ _ h => h)
      have Hrow := Lib.hid hr2
      (try have Hbs := Lib.hid (hk2.blk Hbs.out id))
      (try have Hbm := Lib.hid (hk2.blk Hbm.out id))
      clear hk2 hr2
      refine tree_b rfl rfl ?b1_4 ?nb1_4
      case' b1_4 =>   -- 4: makeSlice 60 t17 t17
        go_must (refine ev_makeSlice rfl rfl n rfl rfl Tryd.underlying60 info85b rfl (by decide) (by omega) (by omega) ?_; intro gs ws hgs hls hbs hks)
        (try simp only [Act.put, List.setIfInBounds_toArray, List.set_cons_zero, List.set_cons_succ])
        refine wpList_nil ⟨trivial, ?_⟩
        have zs := hks.size
        have hkc := hkc.trans hks (fun _ _ h => h)
        have Hbs := Lib.hid hbs
        (try have Hrow := Lib.hid (Hrow.out.keep hks (fun _ _ _ => id) (fun _ _ h => h)))
        (try have Hbm := Lib.hid (hks.blk Hbm.out id))
        clear hks hbs
        refine tree_e rfl rfl ?_   -- 5: makeMap 61 none
        go_must (refine ev_makeMap rfl rfl ?_; intro gm wm hgm hlm hbm hkm)
        (try simp only [Act.put, List.setIfInBounds_toArray, List.set_cons_zero, List.set_cons_succ])
        refine wpList_nil ⟨trivial, ?_⟩
        have zm := hkm.size
        have hkc := hkc.trans hkm (fun _ _ h => h)
        have Hbm := Lib.hid hbm
        (try have Hrow := Lib.hid (Hrow.out.keep hkm (fun _ _ _ => id) (fun _ _ h => h)))
        (try have Hbs := Lib.hid (hkm.blk Hbs.out id))
        clear hkm hbm
        refine tree_q (v := ?v1_3) (some 20) rfl rfl rfl ?q1_3 ?h1_3; (case q1_3 => (intro w' hS; skip; first | (go_simp; done) | (go_simp; rfl))); (try simp only [Act.put, List.setIfInBounds_toArray, List.set_cons_zero, List.set_cons_succ])
        refine tree_e rfl rfl ?_   -- 7: box 63 t20
        go_must (refine ev_box (cs := #[.slice vA rs.length vc, .slice (some ⟨gs, 0, none⟩) n n, .map (some gm), .int .i64 0]) rfl rfl rfl ?_; intro eb we hge hle hbe hke)
        (try simp only [Act.put, List.setIfInBounds_toArray, List.set_cons_zero, List.set_cons_succ])
        refine wpList_nil ⟨trivial, ?_⟩
        have ze := hke.size
        have hkc := hkc.trans hke (fun _ _ h => h)
        have Hbe := Lib.hid hbe
        have Hrow := Lib.hid (Hrow.out.keep hke (fun _ _ _ => id) (fun _ _ h => h))
        have Hbs := Lib.hid (hke.blk Hbs.out id)
        have Hbm := Lib.hid (hke.blk Hbm.out id)
        clear hke hbe
        refine tree_q (v := ?v1_2) (some 2) rfl rfl rfl ?q1_2 ?h1_2; (case q1_2 => (intro w' hS; skip; first | (go_simp; done) | (go_simp; rfl))); (try simp only [Act.put, List.setIfInBounds_toArray, List.set_cons_zero, List.set_cons_succ])
        refine tree_q (v := ?v1_1) (some 3) rfl rfl rfl ?q1_1 ?h1_1; (case q1_1 => (intro w' hS; skip; first | (go_simp; done) | (go_simp; rfl))); (try simp only [Act.put, List.setIfInBounds_toArray, List.set_cons_zero, List.set_cons_succ])
        refine tree_nil ?_
      case' nb1_4 =>
        refine tree_e rfl rfl ?b1_8
        case' b1_8 =>   -- 5: makeMap 61 none
          go_must (refine ev_makeMap rfl rfl ?_; intro gm wm hgm hlm hbm hkm)
          (try simp only [Act.put, List.setIfInBounds_toArray, List.set_cons_zero, List.set_cons_succ])
          refine wpList_nil ⟨trivial, ?_⟩
          have zm := hkm.size
          have hkc := hkc.trans hkm (fun _ _ h => h)
          have Hbm := Lib.hid hbm
          (try have Hrow := Lib.hid (Hrow.out.keep hkm (fun _ _ _ => id) (fun _ _ h => h)))
          (try have Hbs := Lib.hid (hkm.blk Hbs.out id))
          clear hkm hbm
          refine tree_e rfl rfl ?_   -- 4: makeSlice 60 t17 t17
          go_must (refine ev_makeSlice rfl rfl n rfl rfl Tryd.underlying60 info85b rfl (by decide) (by omega) (by omega) ?_; intro gs ws hgs hls hbs hks)
          (try simp only [Act.put, List.setIfInBounds_toArray, List.set_cons_zero, List.set_cons_succ])
          refine wpList_nil ⟨trivial, ?_⟩
          have zs := hks.size
          have hkc := hkc.trans hks (fun _ _ h => h)
          have Hbs := Lib.hid hbs
          (try have Hrow := Lib.hid (Hrow.out.keep hks (fun _ _ _ => id) (fun _ _ h => h)))
          (try have Hbm := Lib.hid (hks.blk Hbm.out id))
          clear hks hbs
          refine tree_q (v := ?v1_7) (some 20) rfl rfl rfl ?q1_7 ?h1_7; (case q1_7 => (intro w' hS; skip; first | (go_simp; done) | (go_simp; rfl))); (try simp only [Act.put, List.setIfInBounds_toArray, List.set_cons_zero, List.set_cons_succ])
          refine tree_e rfl rfl ?_   -- 7: box 63 t20
          go_must (refine ev_box (cs := #[.slice vA rs.length vc, .slice (some ⟨gs, 0, none⟩) n n, .map (some gm), .int .i64 0]) rfl rfl rfl ?_; intro eb we hge hle hbe hke)
          (try simp only [Act.put, List.setIfInBounds_toArray, List.set_cons_zero, List.set_cons_succ])
          refine wpList_nil ⟨trivial, ?_⟩
          have ze := hke.size
          have hkc := hkc.trans hke (fun _ _ h => h)
          have Hbe := Lib.hid hbe
          have Hrow := Lib.hid (Hrow.out.keep hke (fun _ _ _ => id) (fun _ _ h => h))
          have Hbs := Lib.hid (hke.blk Hbs.out id)
          have Hbm := Lib.hid (hke.blk Hbm.out id)
          clear hke hbe
          refine tree_q (v := ?v1_6) (some 2) rfl rfl rfl ?q1_6 ?h1_6; (case q1_6 => (intro w' hS; skip; first | (go_simp; done) | (go_simp; rfl))); (try simp only [Act.put, List.setIfInBounds_toArray, List.set_cons_zero, List.set_cons_succ])
          refine tree_q (v := ?v1_5) (some 3) rfl rfl rfl ?q1_5 ?h1_5; (case q1_5 => (intro w' hS; skip; first | (go_simp; done) | (go_simp; rfl))); (try simp only [Act.put, List.setIfInBounds_toArray, List.set_cons_zero, List.set_cons_succ])
          refine tree_nil ?_
    case' nb1_9 =>
      refine tree_b rfl rfl ?b1_18 ?nb1_18
      case' b1_18 =>   -- 4: makeSlice 60 t17 t17
        go_must (refine ev_makeSlice rfl rfl n rfl rfl Tryd.underlying60 info85b rfl (by decide) (by omega) (by omega) ?_; intro gs ws hgs hls hbs hks)
        (try simp only [Act.put, List.setIfInBounds_toArray, List.set_cons_zero, List.set_cons_succ])
        refine wpList_nil ⟨trivial, ?_⟩
        have zs := hks.size
        have hkc := hkc.trans hks (fun _ _ h => h)
        have Hbs := Lib.hid hbs
        (try have Hrow := Lib.hid (Hrow.out.keep hks (fun _ _ _ => id) (fun _ _ h => h)))
        (try have Hbm := Lib.hid (hks.blk Hbm.out id))
        clear hks hbs
        refine tree_b rfl rfl ?b1_13 ?nb1_13
        case' b1_13 =>   -- 1: call F44(t14)
          go_wp2_with (go_at_call 44; go_must (refine (own_any rs _ X _ (HR1.out.keep hkc (fun _ _ _ => id) (fun _ _ h => h)) h200 Hasks.out).mono ?_; rintro e w2 ⟨v', rfl, hk2, hr2⟩; obtain ⟨vA, vc, rfl, _, _⟩ := id hr2))
          refine ⟨trivial, ?_⟩
          have z2 := hk2.size
          have hkc := hkc.trans hk2 (fun _ _ h => h)
          have Hrow := Lib.hid hr2
          (try have Hbs := Lib.hid (hk2.blk Hbs.out id))
          (try have Hbm := Lib.hid (hk2.blk Hbm.out id))
          clear hk2 hr2
          refine tree_e rfl rfl ?_   -- 5: makeMap 61 none
          go_must (refine ev_makeMap rfl rfl ?_; intro gm wm hgm hlm hbm hkm)
          (try simp only [Act.put, List.setIfInBounds_toArray, List.set_cons_zero, List.set_cons_succ])
          refine wpList_nil ⟨trivial, ?_⟩
          have zm := hkm.size
          have hkc := hkc.trans hkm (fun _ _ h => h)
          have Hbm := Lib.hid hbm
          (try have Hrow := Lib.hid (Hrow.out.keep hkm (fun _ _ _ => id) (fun _ _ h => h)))
          (try have Hbs := Lib.hid (hkm.blk Hbs.out id))
          clear hkm hbm
          refine tree_q (v := ?v1_12) (some 20) rfl rfl rfl ?q1_12 ?h1_12; (case q1_12 => (intro w' hS; skip; first | (go_simp; done) | (go_simp; rfl))); (try simp only [Act.put, List.setIfInBounds_toArray, List.set_cons_zero, List.set_cons_succ])
          refine tree_e rfl rfl ?_   -- 7: box 63 t20
          go_must (refine ev_box (cs := #[.slice vA rs.length vc, .slice (some ⟨gs, 0, none⟩) n n, .map (some gm), .int .i64 0]) rfl rfl rfl ?_; intro eb we hge hle hbe hke)
          (try simp only [Act.put, List.setIfInBounds_toArray, List.set_cons_zero, List.set_cons_succ])
          refine wpList_nil ⟨trivial, ?_⟩
          have ze := hke.size
          have hkc := hkc.trans hke (fun _ _ h => h)
          have Hbe := Lib.hid hbe
          have Hrow := Lib.hid (Hrow.out.keep hke (fun _ _ _ => id) (fun _ _ h => h))
          have Hbs := Lib.hid (hke.blk Hbs.out id)
          have Hbm := Lib.hid (hke.blk Hbm.out id)
          clear hke hbe
          refine tree_q (v := ?v1_11) (some 2) rfl rfl rfl ?q1_11 ?h1_11; (case q1_11 => (intro w' hS; skip; first | (go_simp; done) | (go_simp; rfl))); (try simp only [Act.put, List.setIfInBounds_toArray, List.set_cons_zero, List.set_cons_succ])
          refine tree_q (v := ?v1_10) (some 3) rfl rfl rfl ?q1_10 ?h1_10; (case q1_10 => (intro w' hS; skip; first | (go_simp; done) | (go_simp; rfl))); (try simp only [Act.put, List.setIfInBounds_toArray, List.set_cons_zero, List.set_cons_succ])
          refine tree_nil ?_
        case' nb1_13 =>
          refine tree_e rfl rfl ?b1_17
          case' b1_17 =>   -- 5: makeMap 61 none
            go_must (refine ev_makeMap rfl rfl ?_; intro gm wm hgm hlm hbm hkm)
            (try simp only [Act.put, List.setIfInBounds_toArray, List.set_cons_zero, List.set_cons_succ])
            refine wpList_nil ⟨trivial, ?_⟩
            have zm := hkm.size
            have hkc := hkc.trans hkm (fun _ _ h => h)
            have Hbm := Lib.hid hbm
            (try have Hrow := Lib.hid (Hrow.out.keep hkm (fun _ _ _ => id) (fun _ _ h => h)))
            (try have Hbs := Lib.hid (hkm.blk Hbs.out id))
            clear hkm hbm
            refine tree_e rfl rfl ?_   -- 1: call F44(t14)
            go_wp2_with (go_at_call 44; go_must (refine (own_any rs _ X _ (HR1.out.keep hkc (fun _ _ _ => id) (fun _ _ h => h)) h200 Hasks.out).mono ?_; rintro e w2 ⟨v', rfl, hk2, hr2⟩; obtain ⟨vA, vc, rfl, _, _⟩ := id hr2))
            refine ⟨trivial, ?_⟩
            have z2 := hk2.size
            have hkc := hkc.trans hk2 (fun _ _ h => h)
            have Hrow := Lib.hid hr2
            (try have Hbs := Lib.hid (hk2.blk Hbs.out id))
            (try have Hbm := Lib.hid (hk2.blk Hbm.out id))
            clear hk2 hr2
            refine tree_q (v := ?v1_16) (some 20) rfl rfl rfl ?q1_16 ?h1_16; (case q1_16 => (intro w' hS; skip; first | (go_simp; done) | (go_simp; rfl))); (try simp only [Act.put, List.setIfInBounds_toArray, List.set_cons_zero, List.set_cons_succ])
            refine tree_e rfl rfl ?_   -- 7: box 63 t20
            go_must (refine ev_box (cs := #[.slice vA rs.length vc, .slice (some ⟨gs, 0, none⟩) n n, .map (some gm), .int .i64 0]) rfl rfl rfl ?_; intro eb we hge hle hbe hke)
            (try simp only [Act.put, List.setIfInBounds_toArray, List.set_cons_zero, List.set_cons_succ])
            refine wpList_nil ⟨trivial, ?_⟩
            have ze := hke.size
            have hkc := hkc.trans hke (fun _ _ h => h)
            have Hbe := Lib.hid hbe
            have Hrow := Lib.hid (Hrow.out.keep hke (fun _ _ _ => id) (fun _ _ h => h))
            have Hbs := Lib.hid (hke.blk Hbs.out id)
            have Hbm := Lib.hid (hke.blk Hbm.out id)
            clear hke hbe
            refine tree_q (v := ?v1_15) (some 2) rfl rfl rfl ?q1_15 ?h1_15; (case q1_15 => (intro w' hS; skip; first | (go_simp; done) | (go_simp; rfl))); (try simp only [Act.put, List.setIfInBounds_toArray, List.set_cons_zero, List.set_cons_succ])
            refine tree_q (v := ?v1_14) (some 3) rfl rfl rfl ?q1_14 ?h1_14; (case q1_14 => (intro w' hS; skip; first | (go_simp; done) | (go_simp; rfl))); (try simp only [Act.put, List.setIfInBounds_toArray, List.set_cons_zero, List.set_cons_succ])
            refine tree_nil ?_
      case' nb1_18 =>
        refine tree_e rfl rfl ?b1_27
        case' b1_27 =>   -- 5: makeMap 61 none
          go_must (refine ev_makeMap rfl rfl ?_; intro gm wm hgm hlm hbm hkm)
          (try simp only [Act.put, List.setIfInBounds_toArray, List.set_cons_zero, List.set_cons_succ])
          refine wpList_nil ⟨trivial, ?_⟩
          have zm := hkm.size
          have hkc := hkc.trans hkm (fun _ _ h => h)
          have Hbm := Lib.hid hbm
          (try have Hrow := Lib.hid (Hrow.out.keep hkm (fun _ _ _ => id) (fun _ _ h => h)))
          (try have Hbs := Lib.hid (hkm.blk Hbs.out id))
          clear hkm hbm
          refine tree_b rfl rfl ?b1_22 ?nb1_22
          case' b1_22 =>   -- 1: call F44(t14)
            go_wp2_with (go_at_call 44; go_must (refine (own_any rs _ X _ (HR1.out.keep hkc (fun _ _ _ => id) (fun _ _ h => h)) h200 Hasks.out).mono ?_; rintro e w2 ⟨v', rfl, hk2, hr2⟩; obtain ⟨vA, vc, rfl, _, _⟩ := id hr2))
            refine ⟨trivial, ?_⟩
            have z2 := hk2.size
            have hkc := hkc.trans hk2 (fun _ _ h => h)
            have Hrow := Lib.hid hr2
            (try have Hbs := Lib.hid (hk2.blk Hbs.out id))
            (try have Hbm := Lib.hid (hk2.blk Hbm.out id))
            clear hk2 hr2
            refine tree_e rfl rfl ?_   -- 4: makeSlice 60 t17 t17
            go_must (refine ev_makeSlice rfl rfl n rfl rfl Tryd.underlying60 info85b rfl (by decide) (by omega) (by omega) ?_; intro gs ws hgs hls hbs hks)
            (try simp only [Act.put, List.setIfInBounds_toArray, List.set_cons_zero, List.set_cons_succ])
            refine wpList_nil ⟨trivial, ?_⟩
            have zs := hks.size
            have hkc := hkc.trans hks (fun _ _ h => h)
            have Hbs := Lib.hid hbs
            (try have Hrow := Lib.hid (Hrow.out.keep hks (fun _ _ _ => id) (fun _ _ h => h)))
            (try have Hbm := Lib.hid (hks.blk Hbm.out id))
            clear hks hbs
            refine tree_q (v := ?v1_21) (some 20) rfl rfl rfl ?q1_21 ?h1_21; (case q1_21 => (intro w' hS; skip; first | (go_simp; done) | (go_simp; rfl))); (try simp only [Act.put, List.setIfInBounds_toArray, List.set_cons_zero, List.set_cons_succ])
            refine tree_e rfl rfl ?_   -- 7: box 63 t20
            go_must (refine ev_box (cs := #[.slice vA rs.length vc, .slice (some ⟨gs, 0, none⟩) n n, .map (some gm), .int .i64 0]) rfl rfl rfl ?_; intro eb we hge hle hbe hke)
            (try simp only [Act.put, List.setIfInBounds_toArray, List.set_cons_zero, List.set_cons_succ])
            refine wpList_nil ⟨trivial, ?_⟩
            have ze := hke.size
            have hkc := hkc.trans hke (fun _ _ h => h)
            have Hbe := Lib.hid hbe
            have Hrow := Lib.hid (Hrow.out.keep hke (fun _ _ _ => id) (fun _ _ h => h))
            have Hbs := Lib.hid (hke.blk Hbs.out id)
            have Hbm := Lib.hid (hke.blk Hbm.out id)
            clear hke hbe
            refine tree_q (v := ?v1_20) (some 2) rfl rfl rfl ?q1_20 ?h1_20; (case q1_20 => (intro w' hS; skip; first | (go_simp; done) | (go_simp; rfl))); (try simp only [Act.put, List.setIfInBounds_toArray, List.set_cons_zero, List.set_cons_succ])
            refine tree_q (v := ?v1_19) (some 3) rfl rfl rfl ?q1_19 ?h1_19; (case q1_19 => (intro w' hS; skip; first | (go_simp; done) | (go_simp; rfl))); (try simp only [Act.put, List.setIfInBounds_toArray, List.set_cons_zero, List.set_cons_succ])
            refine tree_nil ?_
          case' nb1_22 =>
            refine tree_e rfl rfl ?b1_26
            case' b1_26 =>   -- 4: makeSlice 60 t17 t17
              go_must (refine ev_makeSlice rfl rfl n rfl rfl Tryd.underlying60 info85b rfl (by decide) (by omega) (by omega) ?_; intro gs ws hgs hls hbs hks)
              (try simp only [Act.put, List.setIfInBounds_toArray, List.set_cons_zero, List.set_cons_succ])
              refine wpList_nil ⟨trivial, ?_⟩
              have zs := hks.size
              have hkc := hkc.trans hks (fun _ _ h => h)
              have Hbs := Lib.hid hbs
              (try have Hrow := Lib.hid (Hrow.out.keep hks (fun _ _ _ => id) (fun _ _ h => h)))
              (try have Hbm := Lib.hid (hks.blk Hbm.out id))
              clear hks hbs
              refine tree_e rfl rfl ?_   -- 1: call F44(t14)
              go_wp2_with (go_at_call 44; go_must (refine (own_any rs _ X _ (HR1.out.keep hkc (fun _ _ _ => id) (fun _ _ h => h)) h200 Hasks.out).mono ?_; rintro e w2 ⟨v', rfl, hk2, hr2⟩; obtain ⟨vA, vc, rfl, _, _⟩ := id hr2))
              refine ⟨trivial, ?_⟩
              have z2 := hk2.size
              have hkc := hkc.trans hk2 (fun _ _ h => h)
              have Hrow := Lib.hid hr2
              (try have Hbs := Lib.hid (hk2.blk Hbs.out id))
              (try have Hbm := Lib.hid (hk2.blk Hbm.out id))
              clear hk2 hr2
              refine tree_q (v := ?v1_25) (some 20) rfl rfl rfl ?q1_25 ?h1_25; (case q1_25 => (intro w' hS; skip; first | (go_simp; done) | (go_simp; rfl))); (try simp only [Act.put, List.setIfInBounds_toArray, List.set_cons_zero, List.set_cons_succ])
              refine tree_e rfl rfl ?_   -- 7: box 63 t20
              go_must (refine ev_box (cs := #[.slice vA rs.length vc, .slice (some ⟨gs, 0, none⟩) n n, .map (some gm), .int .i64 0]) rfl rfl rfl ?_; intro eb we hge hle hbe hke)
              (try simp only [Act.put, List.setIfInBounds_toArray, List.set_cons_zero, List.set_cons_succ])
              refine wpList_nil ⟨trivial, ?_⟩
              have ze := hke.size
              have hkc := hkc.trans hke (fun _ _ h => h)
              have Hbe := Lib.hid hbe
              have Hrow := Lib.hid (Hrow.out.keep hke (fun _ _ _ => id) (fun _ _ h => h))
              have Hbs := Lib.hid (hke.blk Hbs.out id)
              have Hbm := Lib.hid (hke.blk Hbm.out id)
              clear hke hbe
              refine tree_q (v := ?v1_24) (some 2) rfl rfl rfl ?q1_24 ?h1_24; (case q1_24 => (intro w' hS; skip; first | (go_simp; done) | (go_simp; rfl))); (try simp only [Act.put, List.setIfInBounds_toArray, List.set_cons_zero, List.set_cons_succ])
              refine tree_q (v := ?v1_23) (some 3) rfl rfl rfl ?q1_23 ?h1_23; (case q1_23 => (intro w' hS; skip; first | (go_simp; done) | (go_simp; rfl))); (try simp only [Act.put, List.setIfInBounds_toArray, List.set_cons_zero, List.set_cons_succ])
              refine tree_nil ?_
    all_goals
      have z0 := hkc.size
      have z1 := hk1.size
      go_wp2
      go_ret2
      have hne := Hn.out
      subst hne
      have zd : w1.drew.heap.size = w1.heap.size := rfl
      have lrow := Hrow.out
      refine ⟨hk1.trans hkc (fun _ _ h => h), fun h => absurd rfl h, fun _ => ⟨eb, gs, gm, _, rfl, fun most => fresh_eng most Hbe.out Hrow.out Hbs.out Hbm.out (fun h => ?_) (fun h => ?_) (fun h => ?_), fun k h => ?_, ?_, ?_, ?_⟩⟩
      all_goals first | omega | (obtain ⟨h1, h2⟩ := h; omega) | (obtain ⟨h1, h2⟩ := h; constructor <;> omega)
  · go_enter Tryd.func23, Tryd.ntmps23
    go_wp2_with (go_at_call 22; go_must (refine hrun.out.mono ?_; rintro e w1 ⟨rfl, hk1⟩))
    go_ret2
    exact ⟨hk1, fun _ => rfl, fun h => absurd h h0⟩
end Go.Proofs.QW
