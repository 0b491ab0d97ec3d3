/-
  A rule worked out by the specification's Plain, in memory: RuPick, and with it every kind. Condition: nested askings come to the model's.
-/
import Derived.Test.YtohpkolkagddiaaDoorQ30
namespace Go.Proofs.QW
open Go.RowKit Go.Proofs.KL Go.Proofs.QM
set_option maxRecDepth 100000
set_option linter.unusedSimpArgs false
set_option linter.unusedVariables false

set_option maxHeartbeats 4000000 in
/-- RuPick. -/
theorem rrule_pick {E : Env} {on : List Int} {rask : RAsk} (IH : RAskOK E on rask) (hG : RGood E.rules.length rask) (w : World) (X Y : Nat → Prop) (pb kb nb : Nat) (s : Known) (asv : Value) (r : QRule) (hr : ROk E.rules.length r) (h3 : r.kind = 3)
    (hp : PlainAt w X Y pb kb nb E.rules E.inp on s) (hkb : KB E.rules.length s) (hx : IntsX w X asv r.asks) :
    Calls Tryd.prog 55 #[.pointer (some ⟨pb, 0, none⟩), .agg #[.int .i64 r.kind, .int .i64 r.n, asv]] w (RAns w X Y pb kb nb E on (rRule rask s r)) := by
  obtain ⟨RR, hRR⟩ : ∃ x, rRule rask s r = x := ⟨_, rfl⟩
  rw [hRR]
  unfold rRule at hRR
  rw [if_pos h3] at hRR
  have HRR := Lib.hid hRR
  have hl12 := hr.l12
  have hl1 := hr.l1
  rw [h3] at hl1
  have hl2 : (2 : Int) ≤ r.asks.length := hl1
  have Hr0 := Lib.hid hr
  have Hq := Lib.hid hr.asks
  clear hl1
  obtain ⟨K, N, asks⟩ := r
  simp only at hl12 hl2 h3
  subst h3
  obtain ⟨A, ac, rfl, -, -⟩ := id hx
  have hlen : 0 < asks.length := by omega
  obtain ⟨b, o, rfl, hXb, _⟩ := (by obtain ⟨A', c', h1, _, h3⟩ := hx; injection h1 with h1 _ _; subst h1; exact h3 0 hlen : ∃ b o, A = some ⟨b, o, none⟩ ∧ X b ∧ w.cell? ⟨b, o + 0, none⟩ = some (.int .i64 (asks.getD 0 0)))
  obtain ⟨q0, Hq0⟩ : ∃ q, Hid (asks.getD 0 0 = q) := ⟨_, rfl⟩
  obtain ⟨i80, hi80, hs80⟩ := info80
  obtain ⟨i3, hi3, hs3⟩ := infoS3
  have HI := Lib.hid (And.intro (And.intro hi80 hs80) (And.intro hi3 hs3))
  have Hp := Lib.hid hp
  have Hx := Lib.hid hx
  have HK := Lib.hid hkb
  have HIH := Lib.hid IH
  have HG := Lib.hid hG
  obtain ⟨K, hK⟩ : ∃ K : Int, K = 3 := ⟨3, rfl⟩
  have hk3 : (K == 3) = true := by rw [hK]; rfl
  have hk4 : (K == 4) = false := by rw [hK]; rfl
  rw [show (Value.int .i64 3) = .int .i64 K by rw [hK]]
  have HKe := Lib.hid hK
  have HXb := Lib.hid hXb
  clear hXb
  clear hRR hr hp hx hkb IH hG hi80 hs80 hi3 hs3 hK
  go_enter Tryd.func55, Tryd.ntmps55
  go_wp2_with (first
    | ((with_reducible refine at_dst (N := 3) rfl ?_); go_must (refine ev_box (cs := #[.int .i64 K, .int .i64 N, .slice (some ⟨b, o, none⟩) asks.length ac]) rfl rfl rfl ?_; intro g3 wa hg3 hl3 hb3 hka); have Hb3 := Lib.hid hb3; have f2 := (blk_cell hb3 2).trans rfl; clear hb3; (try simp only [Act.put, List.setIfInBounds_toArray, List.set_cons_zero, List.set_cons_succ]))
    | ((with_reducible refine at_dst (N := 4) rfl ?_); go_must (refine ev_alloc rfl rfl zero80 rfl ?_; intro g4 wb hg4 hl4 hb4' hkb); have Hb4 := Lib.hid hb4'; have f2 := hkb.cell f2 id; clear hb4'; (try simp only [Act.put, List.setIfInBounds_toArray, List.set_cons_zero, List.set_cons_succ]))
    | ((with_reducible refine at_dst (N := 5) rfl ?_); go_must (refine ev_alloc rfl rfl zero80 rfl ?_; intro g5 wc hg5 hl5 hb5 hkc); have Hb5 := Lib.hid hb5; have f2 := hkc.cell f2 id; clear hb5; (try simp only [Act.put, List.setIfInBounds_toArray, List.set_cons_zero, List.set_cons_succ]))
    | ((with_reducible refine at_store (t := 80) (p := 5) rfl ?_); go_must (refine ev_store (cs' := #[.bool false, .int .i64 0, .int .i64 1, .int .i64 0]) rfl rfl rfl rfl rfl rfl HI.out.1.1 HI.out.1.2 rfl Hb5.out (Nat.le_of_ble_eq_true rfl) rfl ?_; intro w1 hb5' hkd); have Hb51 := Lib.hid hb5'; have f2 := hkd.cell f2 (by show ¬ g3 = g5; omega); clear hb5'; (try simp only [Act.put, List.setIfInBounds_toArray, List.set_cons_zero, List.set_cons_succ])))
  have hk01 : Keeps Nob w w1 := (((hka.trans hkb (fun _ _ h => h)).trans hkc (fun _ _ h => h)).own hkd (by have := hka.size; have := hkb.size; omega))
  have z1 := hka.size
  have z2 := hkb.size
  have z3 := hkc.size
  have z4 := hkd.size
  obtain ⟨lkb, lnb⟩ := Hp.out.lts
  have Hb31 := Lib.hid (hkd.blk (hkc.blk (hkb.blk Hb3.out id) id) (by show ¬ g3 = g5; omega))
  have Hb41 := Lib.hid (hkd.blk (hkc.blk Hb4.out id) (by show ¬ g4 = g5; omega))
  have Hg := Lib.hid (show (w.heap.size ≤ g3 ∧ g3 < g4 ∧ g4 < g5 ∧ g5 < w1.heap.size) ∧ (kb < w.heap.size ∧ nb < w.heap.size) from ⟨⟨hg3, by omega, by omega, by omega⟩, lkb, lnb⟩)
  have Hk01 := Lib.hid hk01
  have Hst0 := Lib.hid (RLoop.start (rask := rask) (stop := false) (L := [q0]) (g5 := g5) (Hp.out.keep hk01) HK.out Hb51.out)
  clear hk01 hka hkb hkc hkd lkb lnb z1 z2 z3 z4 hg3 hg4 hg5 hl3 hl4 hl5 Hb3 Hb4 Hb5 Hb51
  go_loopw [6, 15] (fun gv v wr => ∃ (k : Nat) (got : List Int) (sk : Known) (c : Int), v = .int .i64 k ∧ k ≤ 1 ∧ Hid (RLoop w1 X Y pb kb nb g5 E on rask false s [q0] k got sk c gv wr) ∧ Hid (k = 1 → ∃ a, rask s q0 = (sk, a) ∧ a.e = 0 ∧ got = [a.n] ∧ c = capM (1 + a.cost) ∧ 0 ≤ a.n ∧ a.n ≤ 1048576) ∧ Hid (k = 0 → sk = s ∧ got = [] ∧ c = 1))
    (fun _ v _ => 1 - (intOf v).toNat)
  case atStart => exact ⟨0, [], s, 1, rfl, Nat.zero_le _, Hst0, Lib.hid (fun h => absurd h (by decide)), Lib.hid (fun _ => ⟨rfl, rfl, rfl⟩)⟩
  case round =>
    obtain ⟨k, got, sk, c, rfl, hk, hst, hex1, hex0⟩ := hrel
    have HKw := Lib.hid (hst.out.keepW Hk01.out (by have := Hg.out; omega))
    have hb3r := KeepsLoop hst.out.keep Hb31.out (by have := Hg.out; omega) (by have := Hg.out; omega) (by have := Hg.out; omega)
    have Hb3r := Lib.hid hb3r
    have Hb4r := Lib.hid (KeepsLoop hst.out.keep Hb41.out (by have := Hg.out; omega) (by have := Hg.out; omega) (by have := Hg.out; omega))
    have hx1 := Hx.out.keep (X' := X) HKw.out (fun b _ hb hm => hm.elim (fun e => Hp.out.xk (e ▸ hb)) (fun e => Hp.out.xn (e ▸ hb))) (fun _ _ h => h)
    have Hx1 := Lib.hid hx1
    obtain ⟨c0, c1⟩ := hst.out.c01
    have f0 := (blk_cell hb3r 0).trans rfl
    by_cases hlt : k = 0
    · obtain ⟨rfl, hgot, hc1'⟩ := hex0.out hlt
      have Hgot := Lib.hid hgot
      have Hc1 := Lib.hid hc1'
      have Hk0 := Lib.hid hlt
      have hka : k < asks.length := by omega
      have hkz : ¬ (0 : Int) < k := by omega
      have hk1 : k < [q0].length := by simp [hlt]
      have hcw := hx1.cellAt hka
      obtain ⟨q, Hqd⟩ : ∃ q, Hid (q0 = q) := ⟨_, rfl⟩
      have hgd : asks.getD k 0 = q := by rw [hlt, Hq0.out, Hqd.out]
      rw [hgd] at hcw
      have hqq : InQ E q0 := by have := Hq.out _ (getD_mem (k := 0) hlen); rw [Hq0.out] at this; exact this
      have hgood := HG.out sk q0 hst.out.kn hqq
      have hrun := HIH.out wr X Y pb kb nb sk q0 hst.out.pa hst.out.kn hqq
      rcases hr : rask sk q0 with ⟨s1, a⟩
      rw [hr] at hgood hrun
      have Hr := Lib.hid hr
      obtain ⟨an, ac1, ae⟩ := a
      simp only at hgood
      rw [Hqd.out] at hrun
      obtain ⟨hgk, ⟨hc0, hc1⟩, hgn⟩ := hgood
      have Hgk := Lib.hid hgk
      have Hgn := Lib.hid hgn
      have Hrun := Lib.hid hrun
      have hw : IntKind.i64.wrap (c + ac1) = c + ac1 := IntWalk.i64_in _ (by omega)
      obtain ⟨m, hm⟩ : ∃ m, capM (c + ac1) = m := ⟨_, rfl⟩
      have hm01 := capM_range (c := c + ac1) (by omega)
      rw [hm] at hm01
      obtain ⟨m0, m1⟩ := hm01
      have Hm := Lib.hid hm
      have Hf := Lib.hid hst.out.own
      have Hof := Lib.hid (hst.out.ownFar)
      clear hm hgd hgot hc1' hlt hr hgk hgn hrun hx1 hb3r hqq
      by_cases hae : ae = 0
      · have haeb : (ae != 0) = false := by simp [hae]
        have Hae := Lib.hid hae
        clear hae
        obtain ⟨n0, n1⟩ := Hgn.out Hae.out
        go_wp2_with (first
          | (go_at_call 35; go_must (refine Hrun.out.mono ?_; rintro e w2 ⟨⟨b9, rfl⟩, hk2, hp2⟩); have Hp2 := Lib.hid hp2; clear hp2; (try simp only [Act.put, List.setIfInBounds_toArray, List.set_cons_zero, List.set_cons_succ]))
          | ((with_reducible refine at_dst (N := 9) rfl ?_); go_must (refine ev_alloc rfl rfl zero80 rfl ?_; intro g9 w3 hg9 hl9 hb9 hk3'); have Hb9 := Lib.hid hb9; clear hb9; (try simp only [Act.put, List.setIfInBounds_toArray, List.set_cons_zero, List.set_cons_succ]))
          | ((with_reducible refine at_store (t := 80) (p := 9) rfl ?_); go_must (refine ev_store (cs' := #[.bool b9, .int .i64 an, .int .i64 ac1, .int .i64 ae]) rfl rfl rfl rfl rfl rfl HI.out.1.1 HI.out.1.2 rfl Hb9.out (Nat.le_of_ble_eq_true rfl) rfl ?_; intro w4 hb94 hk4); have Hb94 := Lib.hid hb94; clear hb94
             have e1 := (blk_cell Hb94.out 1).trans rfl
             have e2 := (blk_cell Hb94.out 2).trans rfl
             have e3 := (blk_cell Hb94.out 3).trans rfl
             have lg5 : g5 < w3.heap.size := by have := Hg.out; have := hst.out.keep.size; have := hk2.size; have := hk3'.size; omega
             have hb54 := hk4.blk (hk3'.blk (hk2.blk hst.out.out (by have := Hg.out; show ¬ (g5 = kb ∨ g5 = nb); omega)) id) (by have := Hg.out; have := hst.out.keep.size; have := hk2.size; show ¬ g5 = g9; omega)
             have Hb54 := Lib.hid hb54
             have d2 := (blk_cell hb54 2).trans rfl
             clear hb54
             (try simp only [Act.put, List.setIfInBounds_toArray, List.set_cons_zero, List.set_cons_succ]))
          | ((with_reducible refine at_dst (N := 35) rfl ?_); go_must (refine ev_min rfl rfl (p := c + ac1) (q := 1048576) rfl rfl (capM_min Hm.out) ?_); (try simp only [Act.put, List.setIfInBounds_toArray, List.set_cons_zero, List.set_cons_succ]))
          | ((with_reducible refine at_store (t := 3) (p := 36) rfl ?_); go_must (refine ev_store (cs' := #[.bool false, .int .i64 0, .int .i64 m, .int .i64 0]) rfl rfl rfl rfl rfl rfl HI.out.2.1 HI.out.2.2 rfl Hb54.out (Nat.le_of_ble_eq_true rfl) rfl ?_; intro w5 hb55 hk5); have Hb55 := Lib.hid hb55; clear hb55
             have e1 := hk5.cell e1 (by have := Hg.out; have := hst.out.keep.size; have := hk2.size; show ¬ g9 = g5; omega)
             have d2 := (blk_cell Hb55.out 2).trans rfl
             have e3 := hk5.cell e3 (by have := Hg.out; have := hst.out.keep.size; have := hk2.size; show ¬ g9 = g5; omega)
             (try simp only [Act.put, List.setIfInBounds_toArray, List.set_cons_zero, List.set_cons_succ]))
          | ((with_reducible refine at_dst (N := 48) rfl ?_); go_must (refine ev_slice (cs := #[.int .i64 an]) (t := 3) (n := 1) (c := 1) rfl (by first | (go_simp; done) | (go_simp; rfl)) ?_; intro g6 w6 hg6 hl6 hb6 hk6); have Hb6 := Lib.hid hb6; clear hb6
             have hk36 : Keeps (fun x => x = kb ∨ x = nb ∨ x = g5) wr w6 := ((((hk2.mono (fun _ _ h => h.imp id .inl)).trans hk3' (fun _ _ h => h.elim)).own hk4 (by have := hk2.size; omega)).into hk5 (.inr (.inr rfl))).trans hk6 (fun _ _ h => h.elim)
             have HK36 := Lib.hid hk36
             clear hk36
             (try simp only [Act.put, List.setIfInBounds_toArray, List.set_cons_zero, List.set_cons_succ]))
          | ((with_reducible refine at_dst (N := 49) rfl ?_); go_must (refine ev_append (W := w6) rfl rfl Tryd.underlying23 info3 rfl (by decide) (base := w1.heap.size) rfl (ownsRow_keep Hf.out HK36.out (fun b hb hm => by have := (Hof.out b hb); have := Hg.out; rcases hm with hm | hm | hm <;> omega)) (news := [.int .i64 an]) rfl rfl (fun _ => ⟨_, rfl, World.news_of_block Hb6.out⟩) (by simp [Value.oneCell']) (by omega) (by decide) (by have := hst.out.keep.size; have := HK36.out.size; omega) ?_; intro av7 w7 hown7 hk7 hr7 hf7); go_must (have Hown7 := Lib.hid hown7; have Hr7 := Lib.hid hr7; clear hown7 hf7 hr7); go_must (have e1 := hk7.cell (hk6.cell e1 id) (fun e => by have := (Hof.out g9 e.symm).2; have := hk2.size; have := hg9; omega))
             have hnk : ∀ g, g < w1.heap.size → g ≠ kb → g ≠ nb → ¬ (some g = Value.ownBlock u6) ∧ (g ≠ g5 → ¬ (g = kb ∨ g = nb ∨ g = g5)) := fun g hg h1 h2 => ⟨fun e => by have := (Hof.out g e.symm).1; omega, fun h3 hm => hm.elim h1 (fun hm => hm.elim h2 h3)⟩
             go_must (have hb37 := hk7.blk (HK36.out.blk Hb3r.out ((hnk g3 (by have := Hg.out; omega) (by have := Hg.out; omega) (by have := Hg.out; omega)).2 (by have := Hg.out; omega))) (hnk g3 (by have := Hg.out; omega) (by have := Hg.out; omega) (by have := Hg.out; omega)).1)
             go_must (have hb47 := hk7.blk (HK36.out.blk Hb4r.out ((hnk g4 (by have := Hg.out; omega) (by have := Hg.out; omega) (by have := Hg.out; omega)).2 (by have := Hg.out; omega))) (hnk g4 (by have := Hg.out; omega) (by have := Hg.out; omega) (by have := Hg.out; omega)).1)
             go_must (have hb57 := hk7.blk (hk6.blk Hb55.out id) (hnk g5 (by have := Hg.out; omega) (by have := Hg.out; omega) (by have := Hg.out; omega)).1)
             have f0 := (blk_cell hb37 0).trans rfl
             have f1 := (blk_cell hb37 1).trans rfl
             have f2 := (blk_cell hb37 2).trans rfl
             go_must (have hkw7 : Keeps (fun x => x = kb ∨ x = nb) w w7 := (HKw.out.trans HK36.out (fun i hi hm => by have := Hg.out; rcases hm with hm | hm | hm; exact .inl hm; exact .inr hm; omega)).trans hk7 (fun i hi e => by have := (Hof.out i e.symm).1; have := Hg.out; have := Hk01.out.size; omega))
             go_must (have hp7 := Hp.out.mix hkw7 Hp2.out ((((hk3'.mono (M' := fun x => x = g5 ∨ some x = Value.ownBlock u6) (fun _ _ h => h.elim)).own hk4 hg9).into hk5 (.inl rfl)).trans ((hk6.mono (M' := fun x => some x = Value.ownBlock u6) (fun _ _ h => h.elim)).trans hk7 (fun _ _ h => h)) (fun _ _ h => .inr h)) (fun hm => by have := Hg.out; rcases hm with hm | hm; omega; have := (Hof.out kb hm.symm).1; omega) (fun hm => by have := Hg.out; rcases hm with hm | hm; omega; have := (Hof.out nb hm.symm).1; omega))
             have HKw7 := Lib.hid hkw7
             have Hp7 := Lib.hid hp7
             have Hk37 := Lib.hid (show Keeps (fun x => (x = kb ∨ x = nb ∨ x = g5) ∨ some x = Value.ownBlock u6) wr w7 from (HK36.out.mono (fun _ _ h => .inl h)).trans hk7 (fun _ _ h => .inr h))
             clear hkw7 hp7
             have Hb37 := Lib.hid hb37
             have Hb47 := Lib.hid hb47
             have Hb57 := Lib.hid hb57
             clear hb37 hb47 hb57 hnk
             (try simp only [Act.put, List.setIfInBounds_toArray, List.set_cons_zero, List.set_cons_succ]))
        )
        refine ⟨⟨k + 1, got ++ [an], s1, m, by go_num, by have := Hk0.out; omega, Lib.hid (hst.out.next hk1 (by rw [Hk0.out]; exact Hr.out) Hae.out (fun h => absurd h.1 (by decide)) ⟨n0, n1⟩ Hm.out ⟨m0, m1⟩ Hk37.out Hp7.out Hgk.out Hown7.out Hb57.out), Lib.hid (fun _ => ⟨⟨an, ac1, ae⟩, by first | exact Hr.out | rfl, Hae.out, by rw [Hgot.out]; rfl, by rw [← Hm.out, Hc1.out], n0, n1⟩), Lib.hid (fun h => absurd h (by omega))⟩, by simp [intOf]; have := Hk0.out; omega⟩
      · have haeb : (ae != 0) = true := by simp [hae]
        have Hae := Lib.hid hae
        clear hae
        go_wp2_with (first
          | (go_at_call 35; go_must (refine Hrun.out.mono ?_; rintro e w2 ⟨⟨b9, rfl⟩, hk2, hp2⟩); have Hp2 := Lib.hid hp2; clear hp2; (try simp only [Act.put, List.setIfInBounds_toArray, List.set_cons_zero, List.set_cons_succ]))
          | ((with_reducible refine at_dst (N := 9) rfl ?_); go_must (refine ev_alloc rfl rfl zero80 rfl ?_; intro g9 w3 hg9 hl9 hb9 hk3'); have Hb9 := Lib.hid hb9; clear hb9; (try simp only [Act.put, List.setIfInBounds_toArray, List.set_cons_zero, List.set_cons_succ]))
          | ((with_reducible refine at_store (t := 80) (p := 9) rfl ?_); go_must (refine ev_store (cs' := #[.bool b9, .int .i64 an, .int .i64 ac1, .int .i64 ae]) rfl rfl rfl rfl rfl rfl HI.out.1.1 HI.out.1.2 rfl Hb9.out (Nat.le_of_ble_eq_true rfl) rfl ?_; intro w4 hb94 hk4); have Hb94 := Lib.hid hb94; clear hb94
             have e1 := (blk_cell Hb94.out 1).trans rfl
             have e2 := (blk_cell Hb94.out 2).trans rfl
             have e3 := (blk_cell Hb94.out 3).trans rfl
             have lg5 : g5 < w3.heap.size := by have := Hg.out; have := hst.out.keep.size; have := hk2.size; have := hk3'.size; omega
             have hb54 := hk4.blk (hk3'.blk (hk2.blk hst.out.out (by have := Hg.out; show ¬ (g5 = kb ∨ g5 = nb); omega)) id) (by have := Hg.out; have := hst.out.keep.size; have := hk2.size; show ¬ g5 = g9; omega)
             have Hb54 := Lib.hid hb54
             have d2 := (blk_cell hb54 2).trans rfl
             clear hb54
             (try simp only [Act.put, List.setIfInBounds_toArray, List.set_cons_zero, List.set_cons_succ]))
          | ((with_reducible refine at_dst (N := 35) rfl ?_); go_must (refine ev_min rfl rfl (p := c + ac1) (q := 1048576) rfl rfl (capM_min Hm.out) ?_); (try simp only [Act.put, List.setIfInBounds_toArray, List.set_cons_zero, List.set_cons_succ]))
          | ((with_reducible refine at_store (t := 3) (p := 36) rfl ?_); go_must (refine ev_store (cs' := #[.bool false, .int .i64 0, .int .i64 m, .int .i64 0]) rfl rfl rfl rfl rfl rfl HI.out.2.1 HI.out.2.2 rfl Hb54.out (Nat.le_of_ble_eq_true rfl) rfl ?_; intro w5 hb55 hk5); have Hb55 := Lib.hid hb55; clear hb55
             have e1 := hk5.cell e1 (by have := Hg.out; have := hst.out.keep.size; have := hk2.size; show ¬ g9 = g5; omega)
             have d2 := (blk_cell Hb55.out 2).trans rfl
             have e3 := hk5.cell e3 (by have := Hg.out; have := hst.out.keep.size; have := hk2.size; show ¬ g9 = g5; omega)
             (try simp only [Act.put, List.setIfInBounds_toArray, List.set_cons_zero, List.set_cons_succ]))
          | ((with_reducible refine at_store (t := 80) (p := 4) rfl ?_)
             go_must (refine ev_store (cs' := #[.bool false, .int .i64 0, .int .i64 m, .int .i64 ae]) rfl rfl rfl rfl rfl rfl HI.out.1.1 HI.out.1.2 rfl (hk5.blk (hk4.blk (hk3'.blk (hk2.blk Hb4r.out (by have := Hg.out; show ¬ (g4 = kb ∨ g4 = nb); omega)) id) (by have := Hg.out; have := hst.out.keep.size; have := hk2.size; show ¬ g4 = g9; omega)) (by have := Hg.out; show ¬ g4 = g5; omega)) (Nat.le_of_ble_eq_true rfl) rfl ?_; intro w6 hb6 hk6); (try simp only [Act.put, List.setIfInBounds_toArray, List.set_cons_zero, List.set_cons_succ])))
        have q0 := (blk_cell hb6 0).trans rfl
        have q1 := (blk_cell hb6 1).trans rfl
        have q2 := (blk_cell hb6 2).trans rfl
        have q3 := (blk_cell hb6 3).trans rfl
        refine bodyPost_ret (v := .agg #[.bool false, .int .i64 0, .int .i64 m, .int .i64 ae]) (by rw [results_cell1 rfl]; go_simp) rfl ?_
        have hRR := HRR.out
        (try dsimp only at hRR)
        rw [Hq0.out, Hr.out] at hRR
        simp only [if_pos Hae.out, ← Hc1.out, Hm.out] at hRR
        rw [← hRR]
        have hkw6 : Keeps (fun x => x = kb ∨ x = nb) w w6 := ((((HKw.out.trans hk2 (fun _ _ h => h)).trans hk3' (fun _ _ h => h.elim)).own hk4 (by have := HKw.out.size; have := hk2.size; omega)).own hk5 (by have := Hg.out; omega)).own hk6 (by have := Hg.out; omega)
        exact ⟨⟨false, rfl⟩, hkw6, Hp.out.mix hkw6 Hp2.out ((((hk3'.mono (M' := fun x => x = g5 ∨ x = g4) (fun _ _ h => h.elim)).own hk4 hg9).into hk5 (.inl rfl)).into hk6 (.inr rfl)) (by have := Hg.out; show ¬ (kb = g5 ∨ kb = g4); omega) (by have := Hg.out; show ¬ (nb = g5 ∨ nb = g4); omega)⟩
    · obtain ⟨a, ha, hae, hgot, hca, hn0, hn1⟩ := hex1.out (by omega)
      have hka : k < asks.length := by omega
      have hkz : (0 : Int) < k := by omega
      have hk1 : k = 1 := by omega
      obtain ⟨g6, cap6, rfl, hc6, hg6⟩ : ∃ g cap, u6 = .slice (some ⟨g, 0, none⟩) 1 cap ∧ wr.cell? ⟨g, 0, none⟩ = some (.int .i64 a.n) ∧ w1.heap.size ≤ g := by
        have ho := hst.out.own
        rw [hk1, hgot] at ho
        rcases ho.2 with ⟨_, h0⟩ | ⟨g, cap, cur, hv, hg, hh, hnc, _, hcs, ht⟩
        · exact absurd h0 (by decide)
        · refine ⟨g, cap, hv, ?_, hg⟩
          rw [blk_cell hh, ← Array.getElem?_toList]
          have := congrArg (·[0]?) ht
          simpa using this
      have HG1' := Lib.hid (show w.heap.size ≤ g6 by have := Hg.out; omega)
      obtain ⟨an, ac1, ae⟩ := a
      simp only at hc6 ha hae hca hn0 hn1
      have Ha := Lib.hid ha
      have Hae := Lib.hid hae
      have Hca := Lib.hid hca
      have Hk1 := Lib.hid hk1
      have hpk := (pick_mem (E := E) (v := an) Hr0.out rfl hn0).1
      have hpos : 0 < (asks.length : Int) - 1 := by omega
      have a1 := Int.emod_nonneg an (show (asks.length : Int) - 1 ≠ 0 by omega)
      have a2 := Int.emod_lt_of_pos an hpos
      obtain ⟨j, hj⟩ := Int.eq_ofNat_of_zero_le a1
      have hjl : j + 1 < asks.length := by omega
      have hpe : pickOf ⟨3, N, asks⟩ an = asks.getD (1 + j) 0 := by
        show asks.getD (1 + an % ((asks.length : Int) - 1)).toNat 0 = _
        rw [hj, show (1 + (j : Int)).toNat = 1 + j by omega]
      obtain ⟨q1, Hq1⟩ : ∃ q, Hid (asks.getD (1 + j) 0 = q) := ⟨_, rfl⟩
      rw [hpe, Hq1.out] at hpk
      have Hpe := Lib.hid (hpe.trans Hq1.out)
      have Hj := Lib.hid hj
      have Hpk := Lib.hid hpk
      have fqk := hx1.cellAt (k := k) hka
      obtain ⟨qk, Hqk⟩ : ∃ q, Hid (asks.getD k 0 = q) := ⟨_, rfl⟩
      rw [Hqk.out] at fqk
      have fq1 := hx1.cellAt (k := 1 + j) (by omega)
      rw [Hq1.out] at fq1
      have f2 := (blk_cell hb3r 2).trans rfl
      have hA : IntKind.i64.wrap ((asks.length : Int) - 1) = (asks.length : Int) - 1 := IntWalk.i64_in _ (by omega)
      have hB : an.tmod ((asks.length : Int) - 1) = (j : Int) := by rw [Int.tmod_eq_emod_of_nonneg hn0]; exact Hj.out
      have hC : IntKind.i64.wrap (1 + (j : Int)) = 1 + (j : Int) := IntWalk.i64_in _ (by omega)
      have hD : IntKind.i64.wrap (j : Int) = (j : Int) := IntWalk.i64_in _ (by omega)
      have hE : (1 + (j : Int)).toNat = 1 + j := by omega
      have hF : ¬ (asks.length : Int) - 1 = 0 := by omega
      have hG1 : 1 + (j : Int) < (asks.length : Int) := by omega
      have hG2 : (0 : Int) ≤ 1 + (j : Int) := by omega
      have hrunG : ∀ wx, Keeps Nob wr wx → Calls Tryd.prog 35 #[.pointer (some ⟨pb, 0, none⟩), .int .i64 q1] wx (RAns wx X Y pb kb nb E on (rask sk q1)) := fun wx hkx => HIH.out wx X Y pb kb nb sk q1 (hst.out.pa.keep hkx) hst.out.kn Hpk.out
      have hgood := HG.out sk q1 hst.out.kn Hpk.out
      rcases hr2 : rask sk q1 with ⟨s2, b2⟩
      rw [hr2] at hrunG hgood
      obtain ⟨bn, bc, be⟩ := b2
      simp only at hgood
      obtain ⟨-, ⟨bc0, bc1⟩, -⟩ := hgood
      have Hr2 := Lib.hid hr2
      have HrunG := Lib.hid hrunG
      clear hgot ha hae hca hk1 hpk hpos a1 a2 hj hpe hx1 hb3r hrunG hr2 hlt
      have Hdr := Lib.hid (Keeps.refl Nob wr).drew
      have Fq := Lib.hid fq1
      have hwz : IntKind.i64.wrap (c + bc) = c + bc := IntWalk.i64_in _ (by omega)
      obtain ⟨m2, hm2⟩ : ∃ m, capM (c + bc) = m := ⟨_, rfl⟩
      have Hm2 := Lib.hid hm2
      clear hm2
      go_wp2_with fail
      refine wp_region_tree (.q 0 (.q 1 (.q 2 (.q 3 (.q 4 (.q 5 (.q 6 (.q 7 (.q 8 (.q 9 (.q 10 (.q 11 (.q 12 (.q 13 (.br [14, 15] (fun k => bif Nat.beq k 14 then .br [15] (fun k => .br [16] (fun k => .done)) else .br [14] (fun k => .br [16] (fun k => .done)))))))))))))))))) (fun w' => w'.cell? ⟨g3, 2, none⟩ = some (.slice (some ⟨b, o, none⟩) asks.length ac) ∧ w'.cell? ⟨g6, 0, none⟩ = some (.int .i64 an) ∧ w'.cell? ⟨b, o + (1 + j), none⟩ = some (.int .i64 q1)) rfl (by kernel_rfl) (by kernel_rfl) (fun c a d v w h => by cases d <;> exact h) ⟨f2, hc6, fq1⟩ ?_
      refine tree_q (v := ?v1_16) (some 62) rfl rfl rfl ?q1_16 ?h1_16; (case q1_16 => (intro w' hS; obtain ⟨s1, s2, s3⟩ := hS; first | (go_simp; done) | (go_simp; rfl))); (try simp only [Act.put, List.setIfInBounds_toArray, List.set_cons_zero, List.set_cons_succ])
      refine tree_q (v := ?v1_15) (some 63) rfl rfl rfl ?q1_15 ?h1_15; (case q1_15 => (intro w' hS; obtain ⟨s1, s2, s3⟩ := hS; first | (go_simp; done) | (go_simp; rfl))); (try simp only [Act.put, List.setIfInBounds_toArray, List.set_cons_zero, List.set_cons_succ])
      refine tree_q (v := ?v1_14) (some 64) rfl rfl rfl ?q1_14 ?h1_14; (case q1_14 => (intro w' hS; obtain ⟨s1, s2, s3⟩ := hS; first | (go_simp; done) | (go_simp; rfl))); (try simp only [Act.put, List.setIfInBounds_toArray, List.set_cons_zero, List.set_cons_succ])
      refine tree_q (v := ?v1_13) (some 65) rfl rfl rfl ?q1_13 ?h1_13; (case q1_13 => (intro w' hS; obtain ⟨s1, s2, s3⟩ := hS; first | (go_simp; done) | (go_simp; rfl))); (try simp only [Act.put, List.setIfInBounds_toArray, List.set_cons_zero, List.set_cons_succ])
      refine tree_q (v := ?v1_12) (some 66) rfl rfl rfl ?q1_12 ?h1_12; (case q1_12 => (intro w' hS; obtain ⟨s1, s2, s3⟩ := hS; first | (go_simp; done) | (go_simp; rfl))); (try simp only [Act.put, List.setIfInBounds_toArray, List.set_cons_zero, List.set_cons_succ])
      refine tree_q (v := ?v1_11) (some 67) rfl rfl rfl ?q1_11 ?h1_11; (case q1_11 => (intro w' hS; obtain ⟨s1, s2, s3⟩ := hS; first | (go_simp; done) | (go_simp; rfl))); (try simp only [Act.put, List.setIfInBounds_toArray, List.set_cons_zero, List.set_cons_succ])
      refine tree_q (v := ?v1_10) (some 68) rfl rfl rfl ?q1_10 ?h1_10; (case q1_10 => (intro w' hS; obtain ⟨s1, s2, s3⟩ := hS; first | (go_simp; done) | (go_simp; rfl))); (try simp only [Act.put, List.setIfInBounds_toArray, List.set_cons_zero, List.set_cons_succ])
      refine tree_q (v := ?v1_9) (some 69) rfl rfl rfl ?q1_9 ?h1_9; (case q1_9 => (intro w' hS; obtain ⟨s1, s2, s3⟩ := hS; first | (go_simp; done) | (go_simp; rfl))); (try simp only [Act.put, List.setIfInBounds_toArray, List.set_cons_zero, List.set_cons_succ])
      refine tree_q (v := ?v1_8) (some 70) rfl rfl rfl ?q1_8 ?h1_8; (case q1_8 => (intro w' hS; obtain ⟨s1, s2, s3⟩ := hS; first | (go_simp; done) | (go_simp; rfl))); (try simp only [Act.put, List.setIfInBounds_toArray, List.set_cons_zero, List.set_cons_succ])
      refine tree_q (v := ?v1_7) (some 71) rfl rfl rfl ?q1_7 ?h1_7; (case q1_7 => (intro w' hS; obtain ⟨s1, s2, s3⟩ := hS; first | (go_simp; done) | (go_simp; rfl))); (try simp only [Act.put, List.setIfInBounds_toArray, List.set_cons_zero, List.set_cons_succ])
      refine tree_q (v := ?v1_6) (some 72) rfl rfl rfl ?q1_6 ?h1_6; (case q1_6 => (intro w' hS; obtain ⟨s1, s2, s3⟩ := hS; first | (go_simp; done) | (go_simp; rfl))); (try simp only [Act.put, List.setIfInBounds_toArray, List.set_cons_zero, List.set_cons_succ])
      refine tree_q (v := ?v1_5) (some 73) rfl rfl rfl ?q1_5 ?h1_5; (case q1_5 => (intro w' hS; obtain ⟨s1, s2, s3⟩ := hS; first | (go_simp; done) | (go_simp; rfl))); (try simp only [Act.put, List.setIfInBounds_toArray, List.set_cons_zero, List.set_cons_succ])
      refine tree_q (v := ?v1_4) (some 74) rfl rfl rfl ?q1_4 ?h1_4; (case q1_4 => (intro w' hS; obtain ⟨s1, s2, s3⟩ := hS; first | (go_simp; done) | (go_simp; rfl))); (try simp only [Act.put, List.setIfInBounds_toArray, List.set_cons_zero, List.set_cons_succ])
      refine tree_q (v := ?v1_3) (some 75) rfl rfl rfl ?q1_3 ?h1_3; (case q1_3 => (intro w' hS; obtain ⟨s1, s2, s3⟩ := hS; first | (go_simp; done) | (go_simp; rfl))); (try simp only [Act.put, List.setIfInBounds_toArray, List.set_cons_zero, List.set_cons_succ])
      refine tree_b rfl rfl ?b1_1 ?nb1_1
      case' b1_1 =>   -- 14: call F35(t62, t75)
        go_wp2_with (go_at_call 35; go_must (refine (HrunG.out _ (by first | exact HkB.out | exact Hdr.out)).mono ?_; rintro e w14 ⟨⟨b14, rfl⟩, hk14, hp14⟩))
        have Hp14 := Lib.hid hp14
        clear hp14
        (try simp only [Act.put, List.setIfInBounds_toArray, List.set_cons_zero, List.set_cons_succ])
        have f2 := hk14.cell f2 (by have := Hg.out; show ¬ (g3 = kb ∨ g3 = nb); omega)
        have hc6 := hk14.cell hc6 (by have := Hg.out; have := HG1'.out; show ¬ (g6 = kb ∨ g6 = nb); omega)
        have fq1 := hk14.cell fq1 (fun hm : b = kb ∨ b = nb => hm.elim (fun e => Hp.out.xk (e ▸ HXb.out)) (fun e => Hp.out.xn (e ▸ HXb.out)))
        refine ⟨⟨f2, hc6, fq1⟩, ?_⟩
        refine tree_e rfl rfl ?_   -- 15: alloc 80
        go_must (refine ev_alloc rfl rfl zero80 rfl ?_; intro g10 w15 hg10 hl10 hb10 hk15)
        have Hb10 := Lib.hid hb10
        (try have HkB := Lib.hid (Hdr.out.trans hk15 (fun _ _ h => h)))
        clear hb10
        (try simp only [Act.put, List.setIfInBounds_toArray, List.set_cons_zero, List.set_cons_succ])
        have f2 := hk15.cell f2 id
        have hc6 := hk15.cell hc6 id
        have fq1 := hk15.cell fq1 id
        refine wpList_nil ⟨⟨f2, hc6, fq1⟩, ?_⟩
        refine tree_e rfl rfl ?_   -- 16: store 80 t10 t76
        have Hg10 : Hid (wr.heap.size ≤ g10) := Lib.hid (by first | exact hg10 | (have := hk14.size; exact Nat.le_trans hk14.size hg10))
        have hgr : w.heap.size ≤ wr.heap.size := HKw.out.size
        go_must (refine ev_store (cs' := #[.bool b14, .int .i64 bn, .int .i64 bc, .int .i64 be]) rfl rfl rfl rfl rfl rfl HI.out.1.1 HI.out.1.2 rfl (by first | exact Hb10.out | exact hk14.blk Hb10.out (by have := Hg.out; have := Hg10.out; show ¬ (g10 = kb ∨ g10 = nb); omega)) (Nat.le_of_ble_eq_true rfl) rfl ?_; intro w16 hb16 hk16)
        have f2 := hk16.cell f2 (by have h1 := Hg.out; have h2 := Hg10.out; have h3 := hst.out.keep.size; show ¬ (g3 = g10); omega)
        have hc6 := hk16.cell hc6 (by have h1 := Hg10.out; have h2 : g6 < wr.heap.size := (hst.out.ownFar g6 rfl).2; show ¬ (g6 = g10); omega)
        have fq1 := hk16.cell fq1 (by have h1 := Hg10.out; have h2 : b < wr.heap.size := World.block_lt_of_cell? _ _ Fq.out; show ¬ (b = g10); omega)
        refine wpList_nil ⟨⟨f2, hc6, fq1⟩, ?_⟩
        refine tree_nil ?_
      case' nb1_1 =>
        refine tree_e rfl rfl ?b1_2
        case' b1_2 =>   -- 15: alloc 80
          go_must (refine ev_alloc rfl rfl zero80 rfl ?_; intro g10 w15 hg10 hl10 hb10 hk15)
          have Hb10 := Lib.hid hb10
          (try have HkB := Lib.hid (Hdr.out.trans hk15 (fun _ _ h => h)))
          clear hb10
          (try simp only [Act.put, List.setIfInBounds_toArray, List.set_cons_zero, List.set_cons_succ])
          have f2 := hk15.cell f2 id
          have hc6 := hk15.cell hc6 id
          have fq1 := hk15.cell fq1 id
          refine wpList_nil ⟨⟨f2, hc6, fq1⟩, ?_⟩
          refine tree_e rfl rfl ?_   -- 14: call F35(t62, t75)
          go_wp2_with (go_at_call 35; go_must (refine (HrunG.out _ (by first | exact HkB.out | exact Hdr.out)).mono ?_; rintro e w14 ⟨⟨b14, rfl⟩, hk14, hp14⟩))
          have Hp14 := Lib.hid hp14
          clear hp14
          (try simp only [Act.put, List.setIfInBounds_toArray, List.set_cons_zero, List.set_cons_succ])
          have f2 := hk14.cell f2 (by have := Hg.out; show ¬ (g3 = kb ∨ g3 = nb); omega)
          have hc6 := hk14.cell hc6 (by have := Hg.out; have := HG1'.out; show ¬ (g6 = kb ∨ g6 = nb); omega)
          have fq1 := hk14.cell fq1 (fun hm : b = kb ∨ b = nb => hm.elim (fun e => Hp.out.xk (e ▸ HXb.out)) (fun e => Hp.out.xn (e ▸ HXb.out)))
          refine ⟨⟨f2, hc6, fq1⟩, ?_⟩
          refine tree_e rfl rfl ?_   -- 16: store 80 t10 t76
          have Hg10 : Hid (wr.heap.size ≤ g10) := Lib.hid (by first | exact hg10 | (have := hk14.size; exact Nat.le_trans hk14.size hg10))
          have hgr : w.heap.size ≤ wr.heap.size := HKw.out.size
          go_must (refine ev_store (cs' := #[.bool b14, .int .i64 bn, .int .i64 bc, .int .i64 be]) rfl rfl rfl rfl rfl rfl HI.out.1.1 HI.out.1.2 rfl (by first | exact Hb10.out | exact hk14.blk Hb10.out (by have := Hg.out; have := Hg10.out; show ¬ (g10 = kb ∨ g10 = nb); omega)) (Nat.le_of_ble_eq_true rfl) rfl ?_; intro w16 hb16 hk16)
          have f2 := hk16.cell f2 (by have h1 := Hg.out; have h2 := Hg10.out; have h3 := hst.out.keep.size; show ¬ (g3 = g10); omega)
          have hc6 := hk16.cell hc6 (by have h1 := Hg10.out; have h2 : g6 < wr.heap.size := (hst.out.ownFar g6 rfl).2; show ¬ (g6 = g10); omega)
          have fq1 := hk16.cell fq1 (by have h1 := Hg10.out; have h2 : b < wr.heap.size := World.block_lt_of_cell? _ _ Fq.out; show ¬ (b = g10); omega)
          refine wpList_nil ⟨⟨f2, hc6, fq1⟩, ?_⟩
          refine tree_nil ?_
      all_goals
        have hgr : w.heap.size ≤ wr.heap.size := HKw.out.size
        have hkr : Keeps (fun x => x = kb ∨ x = nb ∨ x = g10) wr w16 := by
          first
          | exact ((Hdr.out.mono (M' := fun x => x = kb ∨ x = nb ∨ x = g10) (fun _ _ h => h.elim)).trans (hk14.trans hk15 (fun _ _ h => h.elim)) (fun _ _ h => h.imp id .inl)).into hk16 (.inr (.inr rfl))
          | exact ((Hdr.out.mono (M' := fun x => x = kb ∨ x = nb ∨ x = g10) (fun _ _ h => h.elim)).trans ((hk15.mono (M' := fun x => x = kb ∨ x = nb) (fun _ _ h => h.elim)).trans hk14 (fun _ _ h => h)) (fun _ _ h => h.imp id .inl)).into hk16 (.inr (.inr rfl))
        have hkz : Keeps (fun x => x = kb ∨ x = nb) w w16 := HKw.out.trans hkr (fun i hi hm => by have h1 := Hg10.out; rcases hm with hm | hm | hm; exact .inl hm; exact .inr hm; omega)
        have h2z : Keeps (· = g10) w14 w16 := by
          first
          | exact hk16
          | exact (hk15.mono (fun _ _ h => h.elim)).trans hk16 (fun _ _ h => h)
        have hpz := Hp.out.mix hkz Hp14.out h2z (by have h1 := Hg.out; have h2 := Hg10.out; show ¬ (kb = g10); omega) (by have h1 := Hg.out; have h2 := Hg10.out; show ¬ (nb = g10); omega)
        have hb5z := hkr.blk hst.out.out (by have h1 := Hg.out; have h2 := Hg10.out; have h3 := hst.out.keep.size; show ¬ (g5 = kb ∨ g5 = nb ∨ g5 = g10); omega)
        have hb4z := hkr.blk Hb4r.out (by have h1 := Hg.out; have h2 := Hg10.out; have h3 := hst.out.keep.size; show ¬ (g4 = kb ∨ g4 = nb ∨ g4 = g10); omega)
        have d2 := (blk_cell hb5z 2).trans rfl
        have e1 := (blk_cell hb16 1).trans rfl
        have e2 := (blk_cell hb16 2).trans rfl
        have e3 := (blk_cell hb16 3).trans rfl
        have Hb4z := Lib.hid hb4z
        have Hkz := Lib.hid hkz
        have Hpz := Lib.hid hpz
        clear hb4z hb5z hb16 hkz hpz h2z hkr
        go_wp2_with (first
          | ((with_reducible refine at_dst (N := 84) rfl ?_); go_must (refine ev_min rfl rfl (p := c + bc) (q := 1048576) rfl rfl (capM_min Hm2.out) ?_); (try simp only [Act.put, List.setIfInBounds_toArray, List.set_cons_zero, List.set_cons_succ]))
          | ((with_reducible refine at_store (t := 80) (p := 4) rfl ?_); go_must (refine ev_store (cs' := #[.bool false, .int .i64 bn, .int .i64 m2, .int .i64 be]) rfl rfl rfl rfl rfl rfl HI.out.1.1 HI.out.1.2 rfl Hb4z.out (Nat.le_of_ble_eq_true rfl) rfl ?_; intro w17 hb17 hk17); (try simp only [Act.put, List.setIfInBounds_toArray, List.set_cons_zero, List.set_cons_succ])))
        have r0 := (blk_cell hb17 0).trans rfl
        have r1 := (blk_cell hb17 1).trans rfl
        have r2 := (blk_cell hb17 2).trans rfl
        have r3 := (blk_cell hb17 3).trans rfl
        refine bodyPost_ret (v := .agg #[.bool false, .int .i64 bn, .int .i64 m2, .int .i64 be]) (by rw [results_cell1 rfl]; go_simp) rfl ?_
        have hRR := HRR.out
        rw [Hq0.out, Ha.out] at hRR
        simp only [Hae.out, ne_eq, not_true_eq_false, if_false, Hpe.out, Hr2.out, ← Hca.out, Hm2.out] at hRR
        rw [← hRR]
        exact ⟨⟨false, rfl⟩, Hkz.out.own hk17 (by have h1 := Hg.out; omega), Hp.out.mix (Hkz.out.own hk17 (by have h1 := Hg.out; omega)) Hpz.out hk17 (by have h1 := Hg.out; show ¬ (kb = g4); omega) (by have h1 := Hg.out; show ¬ (nb = g4); omega)⟩
/-- A RULE, of any kind but an input's. -/
theorem rrule_any {E : Env} {on : List Int} {rask : RAsk} (IH : RAskOK E on rask) (hG : RGood E.rules.length rask) (w : World) (X Y : Nat → Prop) (pb kb nb : Nat) (s : Known) (asv : Value) (r : QRule) (hr : ROk E.rules.length r) (h1 : r.kind ≠ 1)
    (hp : PlainAt w X Y pb kb nb E.rules E.inp on s) (hkb : KB E.rules.length s) (hx : IntsX w X asv r.asks) :
    Calls Tryd.prog 55 #[.pointer (some ⟨pb, 0, none⟩), .agg #[.int .i64 r.kind, .int .i64 r.n, asv]] w (RAns w X Y pb kb nb E on (rRule rask s r)) := by
  by_cases h3 : r.kind = 3
  · exact rrule_pick IH hG w X Y pb kb nb s asv r hr h3 hp hkb hx
  · exact rrule_loop IH hG w X Y pb kb nb s asv r hr h1 h3 hp hkb hx
end Go.Proofs.QW
