/-
  The specification's Plain asks (f35), in memory: it comes to the model's 'rAsk', however deep. Condition: rules and inputs as the model's environment has them.
-/
import Derived.Test.YtohpkolkagddiaaDoorQ31
namespace Go.Proofs.QW
open Go.RowKit Go.Proofs.KL Go.Proofs.QM
set_option maxRecDepth 100000
set_option linter.unusedSimpArgs false
set_option linter.unusedVariables false

theorem infoS4 : ∃ i, Tryd.prog.info? 4 = some i ∧ i.size = 1 := by
  have h : (Tryd.prog.info? 4).map (·.size) = some 1 := by kernel_rfl
  obtain ⟨i, hi, hs⟩ := Option.map_eq_some_iff.1 h
  exact ⟨i, hi, hs⟩
theorem psplice_get {cs : Array Value} {vs : List Value} {off : Nat} (h : off + vs.length ≤ cs.size) (j : Nat) :
    ((cs.toList.take off ++ vs ++ cs.toList.drop (off + vs.length)).toArray)[j]? = if off ≤ j ∧ j < off + vs.length then vs[j - off]? else cs[j]? := by
  have hl : (cs.toList.take off).length = off := by rw [List.length_take, Array.length_toList]; omega
  rw [List.getElem?_toArray, List.append_assoc]
  by_cases h1 : j < off
  · rw [if_neg (by omega), List.getElem?_append_left (by omega), List.getElem?_take, if_pos h1, Array.getElem?_toList]
  · rw [List.getElem?_append_right (by omega), hl]
    by_cases h2 : j < off + vs.length
    · rw [if_pos (by omega), List.getElem?_append_left (by omega)]
    · rw [if_neg (by omega), List.getElem?_append_right (by omega), List.getElem?_drop, Array.getElem?_toList]
      congr 1; omega
theorem pget_size {cs : Array Value} {i : Nat} {v : Value} (h : cs[i]? = some v) : i < cs.size := by
  rcases Nat.lt_or_ge i cs.size with h' | h'
  · exact h'
  · rw [Array.getElem?_eq_none h'] at h; cases h
/-- A question is opened, or shut. -/
theorem OnX.put {w w' : World} {nb n q : Nat} {on on' : List Int} {b : Bool} {cs : Array Value} (h : ∀ i : Nat, i < n → cs[i]? = some (.bool (decide ((i : Int) ∈ on)))) (hq : q < n)
    (hb : w'.heap[nb]? = some (.cells ((cs.toList.take q ++ [Value.bool b] ++ cs.toList.drop (q + [Value.bool b].length)).toArray) 4 (0, 0))) (hon : ∀ i : Nat, i < n → decide ((i : Int) ∈ on') = if i = q then b else decide ((i : Int) ∈ on)) : OnX w' nb n on' := by
  refine ⟨_, hb, fun i hi => ?_⟩
  have hs := pget_size (h q hq)
  rw [psplice_get (by rw [List.length_singleton]; omega), hon i hi]
  simp only [List.length_cons, List.length_nil]
  by_cases e : i = q
  · subst e; rw [if_pos (by omega), if_pos rfl]; simp
  · rw [if_neg (by omega), if_neg e]; exact h i hi
theorem KnownX.put {w w' : World} {kb n q : Nat} {k : Known} {x c : Int} {cs : Array Value} (hl : k.length = n) (h : ∀ i, i < n → cs[i * 4]? = some (.bool (k.getD i none).isSome) ∧ cs[i * 4 + 1]? = some (.int .i64 ((k.getD i none).getD (0, 0)).1) ∧
    cs[i * 4 + 2]? = some (.int .i64 ((k.getD i none).getD (0, 0)).2) ∧ cs[i * 4 + 3]? = some (.int .i64 0)) (hq : q < n)
    {vs : List Value} (hvs : vs = [.bool true, .int .i64 x, .int .i64 c, .int .i64 0])
    (hb : w'.heap[kb]? = some (.cells ((cs.toList.take (q * 4) ++ vs ++ cs.toList.drop (q * 4 + vs.length)).toArray) 80 (0, 0))) : KnownX w' kb n (k.set q (some (x, c))) := by
  refine ⟨_, hb, fun i hi => ?_⟩
  have hs := pget_size (h q hq).2.2.2
  have hv : vs.length = 4 := by rw [hvs]; rfl
  have hsp := fun j => psplice_get (cs := cs) (vs := vs) (off := q * 4) (by omega) j
  rw [hsp, hsp, hsp, hsp, hv]
  by_cases e : i = q
  · subst e
    rw [if_pos (by omega), if_pos (by omega), if_pos (by omega), if_pos (by omega), hvs]
    rw [show i * 4 - i * 4 = 0 by omega, show i * 4 + 1 - i * 4 = 1 by omega, show i * 4 + 2 - i * 4 = 2 by omega, show i * 4 + 3 - i * 4 = 3 by omega]
    rw [List.getD_eq_getElem?_getD, List.getElem?_set, if_pos rfl, if_pos (by omega)]
    exact ⟨rfl, rfl, rfl, rfl⟩
  · rw [if_neg (by omega), if_neg (by omega), if_neg (by omega), if_neg (by omega)]
    rw [List.getD_eq_getElem?_getD, List.getElem?_set, if_neg (fun h => e h.symm), ← List.getD_eq_getElem?_getD]
    exact h i hi

theorem PlainAt.apart {w : World} {X Y : Nat → Prop} {pb kb nb : Nat} {rules : List QRule} {vs on : List Int} {k : Known} (h : PlainAt w X Y pb kb nb rules vs on k) : pb ≠ kb ∧ pb ≠ nb ∧ kb ≠ nb := by
  obtain ⟨⟨rv, iv, hb, _, _⟩, ⟨ck, hk1, _⟩, ⟨cn, hn1, _⟩, _, _, _, _⟩ := h
  refine ⟨fun e => ?_, fun e => ?_, fun e => ?_⟩
  · subst e; have := hb.symm.trans hk1; injection this with this; injection this with _ this _; exact absurd this (by decide)
  · subst e; have := hb.symm.trans hn1; injection this with this; injection this with _ this _; exact absurd this (by decide)
  · subst e; have := hk1.symm.trans hn1; injection this with this; injection this with _ this _; exact absurd this (by decide)
theorem PlainAt.reopen {w w' : World} {X Y : Nat → Prop} {pb kb nb : Nat} {rules : List QRule} {vs on on' : List Int} {k : Known} (h : PlainAt w X Y pb kb nb rules vs on k) (hk : Keeps (· = nb) w w') (ho : OnX w' nb rules.length on') : PlainAt w' X Y pb kb nb rules vs on' k := by
  obtain ⟨_, n2, n3⟩ := h.apart
  obtain ⟨⟨rv, iv, hb, hr, hv⟩, h1, h2, x1, x2, y1, y2⟩ := h
  exact ⟨⟨rv, iv, hk.blk hb n2, hr.keep hk (fun b _ hx e => x2 (e ▸ hx)) (fun _ _ h => h), hv.keep hk (fun b _ hx e => y2 (e ▸ hx)) (fun _ _ h => h)⟩, h1.keep hk n3, ho, x1, x2, y1, y2⟩
theorem PlainAt.learn {w w' : World} {X Y : Nat → Prop} {pb kb nb : Nat} {rules : List QRule} {vs on : List Int} {k k' : Known} (h : PlainAt w X Y pb kb nb rules vs on k) (hk : Keeps (· = kb) w w') (ho : KnownX w' kb rules.length k') : PlainAt w' X Y pb kb nb rules vs on k' := by
  obtain ⟨n1, _, n3⟩ := h.apart
  obtain ⟨⟨rv, iv, hb, hr, hv⟩, h1, h2, x1, x2, y1, y2⟩ := h
  exact ⟨⟨rv, iv, hk.blk hb n1, hr.keep hk (fun b _ hx e => x1 (e ▸ hx)) (fun _ _ h => h), hv.keep hk (fun b _ hx e => y1 (e ▸ hx)) (fun _ _ h => h)⟩, ho, h2.keep hk (fun e => n3 e.symm), x1, x2, y1, y2⟩
set_option maxHeartbeats 4000000 in
/-- One level. -/
theorem plain_ask {E : Env} (hE : EnvOk E) {on : List Int} (f : Nat) (w : World) (X Y : Nat → Prop) (pb kb nb : Nat) (s : Known) (q : Int) (IH : q ∉ on → RAskOK E (q :: on) (rAsk E.rules E.inp f (q :: on)))
    (hp : PlainAt w X Y pb kb nb E.rules E.inp on s) (hkb : KB E.rules.length s) (hq : InQ E q) :
    Calls Tryd.prog 35 #[.pointer (some ⟨pb, 0, none⟩), .int .i64 q] w (RAns w X Y pb kb nb E on (rAsk E.rules E.inp (f + 1) on s q)) := by
  obtain ⟨RR, hRR⟩ : ∃ x, rAsk E.rules E.inp (f + 1) on s q = x := ⟨_, rfl⟩
  rw [hRR]
  unfold rAsk at hRR
  have HRR := Lib.hid hRR
  clear hRR
  obtain ⟨⟨rv, iv, hpb, hrx, hix⟩, ⟨ck, hkbk, hkc⟩, ⟨cn, hnbk, hnc⟩, -, -, -, -⟩ := id hp
  have h200 := hE.len
  have hil := hE.ilen
  have hr := hE.rok _ (rule_mem hq)
  have hG := rAsk_good hE f (q :: on)
  obtain ⟨lkb, lnb⟩ := hp.lts
  obtain ⟨i, rfl⟩ := Int.eq_ofNat_of_zero_le hq.1
  have hin : i < E.rules.length := by have := hq.2; omega
  have hrule : E.rule (i : Int) = E.rules.getD i default := by unfold Env.rule; rw [Int.toNat_natCast]
  obtain ⟨rA, rc, rfl, hrc, hrcell⟩ := id hrx
  obtain ⟨b, o, u, rfl, hb, e0, e1, e2, hu⟩ := hrcell i hin
  obtain ⟨uA, uc, rfl, -, -⟩ := id hu
  rw [hrule] at hr
  have HRR' := HRR.out
  simp only [Int.toNat_natCast] at HRR'
  have HRR := Lib.hid HRR'
  clear HRR'
  generalize hrd : E.rules.getD i default = r at *
  have p0 := (blk_cell hpb 0).trans rfl
  have p1 := (blk_cell hpb 1).trans rfl
  have p2 := (blk_cell hpb 2).trans rfl
  have p3 := (blk_cell hpb 3).trans rfl
  have n0 := (blk_cell hnbk i).trans (hnc i hin)
  obtain ⟨k0, k1, k2, k3⟩ := hkc i hin
  have k0 := (blk_cell hkbk (i * 4)).trans k0
  have k1 := (blk_cell hkbk (i * 4 + 1)).trans k1
  have k2 := (blk_cell hkbk (i * 4 + 2)).trans k2
  have k3 := (blk_cell hkbk (i * 4 + 3)).trans k3
  obtain ⟨i80, hi80, hs80⟩ := info80
  obtain ⟨i4, hi4, hs4⟩ := infoS4
  have HI := Lib.hid (And.intro (And.intro hi80 hs80) (And.intro hi4 hs4))
  have Hp := Lib.hid hp
  have Hix := Lib.hid hix
  have HK := Lib.hid hkb
  have HIH := Lib.hid IH
  have Hr := Lib.hid hr
  have HG := Lib.hid hG
  have Hq := Lib.hid hq
  have Hu := Lib.hid hu
  have Hkc := Lib.hid hkc
  have Hnc := Lib.hid hnc
  have Hkbk := Lib.hid hkbk
  have Hnbk := Lib.hid hnbk
  have Hpb := Lib.hid hpb
  have Hil := Lib.hid hil
  have Hhb := Lib.hid hb
  have Hl := Lib.hid (And.intro lkb lnb)
  clear hp hix hkb IH hr hG hq hu hkc hnc hkbk hnbk hpb hil hrx hrcell hi80 hs80 hi4 hs4 hrule hrd hb
  by_cases hk1 : r.kind = 1
  · have hR := HRR.out
    rw [if_pos hk1] at hR
    have hkb' : (r.kind == 1) = true := by simp [hk1]
    obtain ⟨vA, vc, rfl, -, hvc⟩ := id Hix.out
    obtain ⟨vb, vo, rfl, -, hv⟩ := hvc i (by rw [Hil.out]; exact hin)
    rw [Hil.out] at *
    have HR := Lib.hid hR
    generalize hvv : E.inp.getD i 0 = iv0 at *
    clear hvc hR hk1 hvv
    go_enter Tryd.func35, Tryd.ntmps35
    go_wp2_with (first
      | ((with_reducible refine at_dst (N := 4) rfl ?_); go_must (refine ev_alloc rfl rfl zero80 rfl ?_; intro g4 w4 hg4 hl4 hb4 hk4)
         have Hb4 := Lib.hid hb4
         clear hb4
         have p0 := hk4.cell p0 id
         have p1 := hk4.cell p1 id
         have p2 := hk4.cell p2 id
         have p3 := hk4.cell p3 id
         have e0 := hk4.cell e0 id
         have e1 := hk4.cell e1 id
         have e2 := hk4.cell e2 id
         have n0 := hk4.cell n0 id
         have k0 := hk4.cell k0 id
         (try have k1 := hk4.cell k1 id)
         (try have k2 := hk4.cell k2 id)
         (try have k3 := hk4.cell k3 id)
         (try have hv := hk4.cell hv id)
         (try simp only [Act.put, List.setIfInBounds_toArray, List.set_cons_zero, List.set_cons_succ]))
      | ((with_reducible refine at_store (t := 80) (p := 4) rfl ?_); go_must (refine ev_store (cs' := #[.bool false, .int .i64 iv0, .int .i64 0, .int .i64 0]) rfl rfl rfl rfl rfl rfl HI.out.1.1 HI.out.1.2 rfl Hb4.out (Nat.le_of_ble_eq_true rfl) rfl ?_; intro w5 hb5 hk5); (try simp only [Act.put, List.setIfInBounds_toArray, List.set_cons_zero, List.set_cons_succ])))
    have r0 := (blk_cell hb5 0).trans rfl
    have r1 := (blk_cell hb5 1).trans rfl
    have r2 := (blk_cell hb5 2).trans rfl
    have r3 := (blk_cell hb5 3).trans rfl
    refine bodyPost_ret (v := .agg #[.bool false, .int .i64 iv0, .int .i64 0, .int .i64 0]) (by rw [results_cell1 rfl]; go_simp) rfl ?_
    rw [← HR.out]
    have hkk : Keeps Nob w w5 := hk4.own hk5 hg4
    exact ⟨⟨false, rfl⟩, hkk.mono (fun _ _ h => h.elim), Hp.out.keep hkk⟩
  · have hR := HRR.out
    rw [if_neg hk1] at hR
    have hkb' : (r.kind == 1) = false := by simpa using hk1
    have Hk1 := Lib.hid hk1
    clear hk1
    by_cases hon : (i : Int) ∈ on
    · rw [if_pos hon] at hR
      have HR := Lib.hid hR
      have hnv : decide ((i : Int) ∈ on) = true := decide_eq_true hon
      rw [hnv] at n0
      clear hR hnv hon
      go_enter Tryd.func35, Tryd.ntmps35
      go_wp2_with (first
        | ((with_reducible refine at_dst (N := 4) rfl ?_); go_must (refine ev_alloc rfl rfl zero80 rfl ?_; intro g4 w4 hg4 hl4 hb4 hk4)
           have Hb4 := Lib.hid hb4
           clear hb4
           have p0 := hk4.cell p0 id
           have p1 := hk4.cell p1 id
           have p2 := hk4.cell p2 id
           have p3 := hk4.cell p3 id
           have e0 := hk4.cell e0 id
           have e1 := hk4.cell e1 id
           have e2 := hk4.cell e2 id
           have n0 := hk4.cell n0 id
           have k0 := hk4.cell k0 id
           (try have k1 := hk4.cell k1 id)
           (try have k2 := hk4.cell k2 id)
           (try have k3 := hk4.cell k3 id)
           (try have hv := hk4.cell hv id)
           (try simp only [Act.put, List.setIfInBounds_toArray, List.set_cons_zero, List.set_cons_succ]))
        | ((with_reducible refine at_store (t := 80) (p := 4) rfl ?_); go_must (refine ev_store (cs' := #[.bool false, .int .i64 0, .int .i64 0, .int .i64 8]) rfl rfl rfl rfl rfl rfl HI.out.1.1 HI.out.1.2 rfl Hb4.out (Nat.le_of_ble_eq_true rfl) rfl ?_; intro w5 hb5 hk5); (try simp only [Act.put, List.setIfInBounds_toArray, List.set_cons_zero, List.set_cons_succ])))
      have r0 := (blk_cell hb5 0).trans rfl
      have r1 := (blk_cell hb5 1).trans rfl
      have r2 := (blk_cell hb5 2).trans rfl
      have r3 := (blk_cell hb5 3).trans rfl
      refine bodyPost_ret (v := .agg #[.bool false, .int .i64 0, .int .i64 0, .int .i64 8]) (by rw [results_cell1 rfl]; go_simp) rfl ?_
      rw [← HR.out]
      have hkk : Keeps Nob w w5 := hk4.own hk5 hg4
      exact ⟨⟨false, rfl⟩, hkk.mono (fun _ _ h => h.elim), Hp.out.keep hkk⟩
    · rw [if_neg hon] at hR
      have hnv : decide ((i : Int) ∈ on) = false := decide_eq_false hon
      rw [hnv] at n0
      have Hon := Lib.hid hon
      clear hnv hon
      cases hkn : s.getD i none with
      | some x =>
        obtain ⟨kn, kc⟩ := x
        rw [hkn] at k0 k1 k2 hR
        simp only [Option.isSome_some, Option.getD_some] at k0 k1 k2 hR
        have HR := Lib.hid hR
        clear hR hkn
        go_enter Tryd.func35, Tryd.ntmps35
        go_wp2_with (first
          | ((with_reducible refine at_dst (N := 4) rfl ?_); go_must (refine ev_alloc rfl rfl zero80 rfl ?_; intro g4 w4 hg4 hl4 hb4 hk4)
             have Hb4 := Lib.hid hb4
             clear hb4
             have p0 := hk4.cell p0 id
             have p1 := hk4.cell p1 id
             have p2 := hk4.cell p2 id
             have p3 := hk4.cell p3 id
             have e0 := hk4.cell e0 id
             have e1 := hk4.cell e1 id
             have e2 := hk4.cell e2 id
             have n0 := hk4.cell n0 id
             have k0 := hk4.cell k0 id
             (try have k1 := hk4.cell k1 id)
             (try have k2 := hk4.cell k2 id)
             (try have k3 := hk4.cell k3 id)
             (try have hv := hk4.cell hv id)
             (try simp only [Act.put, List.setIfInBounds_toArray, List.set_cons_zero, List.set_cons_succ]))
          | ((with_reducible refine at_store (t := 80) (p := 4) rfl ?_); go_must (refine ev_store (cs' := #[.bool true, .int .i64 kn, .int .i64 kc, .int .i64 0]) rfl rfl rfl rfl rfl rfl HI.out.1.1 HI.out.1.2 rfl Hb4.out (Nat.le_of_ble_eq_true rfl) rfl ?_; intro w5 hb5 hk5); (try simp only [Act.put, List.setIfInBounds_toArray, List.set_cons_zero, List.set_cons_succ])))
        have r0 := (blk_cell hb5 0).trans rfl
        have r1 := (blk_cell hb5 1).trans rfl
        have r2 := (blk_cell hb5 2).trans rfl
        have r3 := (blk_cell hb5 3).trans rfl
        refine bodyPost_ret (v := .agg #[.bool true, .int .i64 kn, .int .i64 kc, .int .i64 0]) (by rw [results_cell1 rfl]; go_simp) rfl ?_
        rw [← HR.out]
        have hkk : Keeps Nob w w5 := hk4.own hk5 hg4
        exact ⟨⟨true, rfl⟩, hkk.mono (fun _ _ h => h.elim), Hp.out.keep hkk⟩
      | none =>
        rw [hkn] at k0 hR
        simp only [Option.isSome_none] at k0 hR
        clear k1 k2 k3 hkn
        have hgd := rRule_good HG.out Hr.out HK.out
        rcases hrr : rRule (rAsk E.rules E.inp f (↑i :: on)) s r with ⟨s1, a⟩
        rw [hrr] at hR hgd
        obtain ⟨an, ac, ae⟩ := a
        simp only at hR hgd
        obtain ⟨g1, ⟨g2, g2'⟩, g3⟩ := hgd
        have hcall : ∀ wx, PlainAt wx X Y pb kb nb E.rules E.inp (↑i :: on) s → IntsX wx X (.slice uA r.asks.length uc) r.asks → Calls Tryd.prog 55 #[.pointer (some ⟨pb, 0, none⟩), .agg #[.int .i64 r.kind, .int .i64 r.n, .slice uA r.asks.length uc]] wx (RAns wx X Y pb kb nb E (↑i :: on) (s1, ⟨an, ac, ae⟩)) := fun wx h1 h2 => by
          have := rrule_any (HIH.out Hon.out) HG.out wx X Y pb kb nb s _ r Hr.out Hk1.out h1 HK.out h2
          rw [hrr] at this
          exact this
        have Hcall := Lib.hid hcall
        have HR := Lib.hid hR
        have G1 := Lib.hid g1
        have G3 := Lib.hid g3
        obtain ⟨pn1, pn2, kn3⟩ := Hp.out.apart
        have hbn : b ≠ nb := fun e => Hp.out.xn (e ▸ Hhb.out)
        have hbk : b ≠ kb := fun e => Hp.out.xk (e ▸ Hhb.out)
        have hsz := pget_size (Hnc.out i hin)
        have HF := Lib.hid (And.intro (And.intro (And.intro pn1 pn2) kn3) (And.intro hbn hbk))
        have Hsz := Lib.hid hsz
        clear hcall hR g1 g3 hrr pn1 pn2 kn3 hbn hbk hsz
        go_enter Tryd.func35, Tryd.ntmps35
        by_cases hae : ae = 0
        · have haeb : (ae == 0) = true := by simp [hae]
          have Hae := Lib.hid hae
          clear hae
          go_wp2_with (first
            | ((with_reducible refine at_dst (N := 4) rfl ?_); go_must (refine ev_alloc rfl rfl zero80 rfl ?_; intro g4 w4 hg4 hl4 hb4 hk4)
               have Hb4 := Lib.hid hb4
               clear hb4
               have p0 := hk4.cell p0 id
               have p1 := hk4.cell p1 id
               have p2 := hk4.cell p2 id
               have p3 := hk4.cell p3 id
               have e0 := hk4.cell e0 id
               have e1 := hk4.cell e1 id
               have e2 := hk4.cell e2 id
               have n0 := hk4.cell n0 id
               have k0 := hk4.cell k0 id
               (try have k1 := hk4.cell k1 id)
               (try have k2 := hk4.cell k2 id)
               (try have k3 := hk4.cell k3 id)
               (try have hv := hk4.cell hv id)
               (try simp only [Act.put, List.setIfInBounds_toArray, List.set_cons_zero, List.set_cons_succ]))
            | ((with_reducible refine at_store (t := 4) (p := 51) rfl ?_)
               go_must (refine ev_store (x := .bool true) (vs := [.bool true]) (cs' := List.toArray (cn.toList.take i ++ [Value.bool true] ++ cn.toList.drop (i + [Value.bool true].length))) rfl rfl rfl rfl rfl rfl HI.out.2.1 HI.out.2.2 rfl (hk4.blk Hnbk.out id) (by have := Hsz.out; exact this) rfl ?_; intro w7 hb7 hk7)
               have hk07 : Keeps (fun x => x = kb ∨ x = nb) w w7 := (hk4.mono (fun _ _ h => h.elim)).into hk7 (.inr rfl)
               go_must (have hp7 := (Hp.out.keep hk4).reopen hk7 (OnX.put (on' := ↑i :: on) (b := true) (w := w) Hnc.out hin hb7 (fun j hj => by by_cases e : j = i; subst e; simp; rw [if_neg e]; congr 1; simp; intro h; exact absurd (by omega) e)))
               go_must (have hu7 := (Hu.out.keep (X' := X) hk4 (fun _ _ _ => id) (fun _ _ h => h)).keep (X' := X) hk7 (fun b _ hx e => Hp.out.xn (e ▸ hx)) (fun _ _ h => h))
               have Hrun := Lib.hid (Hcall.out w7 hp7 hu7)
               have p0 := hk7.cell p0 HF.out.1.1.2
               have p2 := hk7.cell p2 HF.out.1.1.2
               have p3 := hk7.cell p3 HF.out.1.1.2
               have e0 := hk7.cell e0 HF.out.2.1
               have e1 := hk7.cell e1 HF.out.2.1
               have e2 := hk7.cell e2 HF.out.2.1
               have Hk07 := Lib.hid hk07
               clear hp7 hu7 hk07 hb7 n0
               (try simp only [Act.put, List.setIfInBounds_toArray, List.set_cons_zero, List.set_cons_succ]))
            | (go_at_call 55; go_must (refine Hrun.out.mono ?_; rintro e w8 ⟨⟨b8, rfl⟩, hk8, hp8⟩)
               have Hp8 := Lib.hid hp8
               have Hk08 := Lib.hid (Hk07.out.trans hk8 (fun _ _ h => h))
               have p2 := hk8.cell p2 (fun hm : pb = kb ∨ pb = nb => hm.elim HF.out.1.1.1 HF.out.1.1.2)
               have p3 := hk8.cell p3 (fun hm : pb = kb ∨ pb = nb => hm.elim HF.out.1.1.1 HF.out.1.1.2)
               clear hp8
               (try simp only [Act.put, List.setIfInBounds_toArray, List.set_cons_zero, List.set_cons_succ]))
            | ((with_reducible refine at_dst (N := 5) rfl ?_); go_must (refine ev_alloc rfl rfl zero80 rfl ?_; intro g5 w9 hg5 hl5 hb5 hk9)
               have Hb5 := Lib.hid hb5
               have p2 := hk9.cell p2 id
               have p3 := hk9.cell p3 id
               clear hb5
               (try simp only [Act.put, List.setIfInBounds_toArray, List.set_cons_zero, List.set_cons_succ]))
            | ((with_reducible refine at_store (t := 80) (p := 5) rfl ?_); go_must (refine ev_store (cs' := #[.bool b8, .int .i64 an, .int .i64 ac, .int .i64 ae]) rfl rfl rfl rfl rfl rfl HI.out.1.1 HI.out.1.2 rfl Hb5.out (Nat.le_of_ble_eq_true rfl) rfl ?_; intro w10 hb10 hk10)
               have p2 := hk10.cell p2 (by have h1 := World.block_lt_of_cell? _ _ p2; have h2 := Hk08.out.size; have h3 := blk_lt Hpb.out; show ¬ pb = g5; omega)
               have p3 := hk10.cell p3 (by have h1 := World.block_lt_of_cell? _ _ p3; have h2 := Hk08.out.size; have h3 := blk_lt Hpb.out; show ¬ pb = g5; omega)
               have Hg5 := Lib.hid (show w.heap.size ≤ g5 ∧ w4.heap.size ≤ g5 from ⟨by have h2 := Hk08.out.size; omega, by have h2 := hk7.size; have h3 := hk8.size; omega⟩)
               go_must (have Hk010 := Lib.hid ((Hk08.out.trans hk9 (fun _ _ h => h.elim)).own hk10 Hg5.out.1))
               go_must (have Hp10 := Lib.hid (Hp.out.mix Hk010.out Hp8.out ((hk9.mono (M' := (· = g5)) (fun _ _ h => h.elim)).trans hk10 (fun _ _ h => h)) (by have h1 := Hg5.out; have h2 := Hl.out; show ¬ kb = g5; omega) (by have h1 := Hg5.out; have h2 := Hl.out; show ¬ nb = g5; omega)))
               go_must (have hcn2 : ∃ cs : Array Value, w10.heap[nb]? = some (.cells cs 4 (0, 0)) ∧ Hid (∀ j : Nat, j < E.rules.length → cs[j]? = some (.bool (decide ((j : Int) ∈ (↑i :: on : List Int))))) := Hp10.out.open_; obtain ⟨cn2, hbn2, Hcn2⟩ := hcn2)
               have Hbn2 := Lib.hid hbn2
               have Hb10 := Lib.hid hb10
               have Hsz2 := Lib.hid (pget_size (Hcn2.out i hin))
               have f3 := (blk_cell hb10 3).trans rfl
               clear hbn2 hb10
               (try simp only [Act.put, List.setIfInBounds_toArray, List.set_cons_zero, List.set_cons_succ]))
            | ((with_reducible refine at_store (t := 4) (p := 66) rfl ?_)
               go_must (refine ev_store (x := .bool false) (vs := [.bool false]) (cs' := List.toArray (cn2.toList.take i ++ [Value.bool false] ++ cn2.toList.drop (i + [Value.bool false].length))) rfl rfl rfl rfl rfl rfl HI.out.2.1 HI.out.2.2 rfl Hbn2.out (by have := Hsz2.out; exact this) rfl ?_; intro w11 hb11 hk11)
               have p2 := hk11.cell p2 HF.out.1.1.2
               have f3 := hk11.cell f3 (by have h1 := Hg5.out; have h2 := Hl.out; show ¬ g5 = nb; omega)
               go_must (have Hp11 := Lib.hid (Hp10.out.reopen hk11 (OnX.put (on' := on) (b := false) (w := w) Hcn2.out hin hb11 (fun j hj => by by_cases e : j = i; subst e; rw [if_pos rfl]; exact decide_eq_false Hon.out; rw [if_neg e]; congr 1; simp; intro h; exact absurd (by omega) e))))
               go_must (have Hb511 := Lib.hid (hk11.blk Hb10.out (by have h1 := Hg5.out; have h2 := Hl.out; show ¬ g5 = nb; omega)))
               go_must (have Hk011 := Lib.hid (Hk010.out.into hk11 (.inr rfl)))
               have hg4w := hg4
               go_must (have Hb411 := Lib.hid (hk11.blk (hk10.blk (hk9.blk (hk8.blk (hk7.blk Hb4.out (by have h2 := Hl.out; show ¬ g4 = nb; omega)) (by have h2 := Hl.out; show ¬ (g4 = kb ∨ g4 = nb); omega)) id) (by have h1 := Hg5.out; show ¬ g4 = g5; omega)) (by have h2 := Hl.out; show ¬ g4 = nb; omega)))
               have f0 := (blk_cell Hb511.out 0).trans rfl
               have f1 := (blk_cell Hb511.out 1).trans rfl
               have f2 := (blk_cell Hb511.out 2).trans rfl
               clear hb11 p3
               (try simp only [Act.put, List.setIfInBounds_toArray, List.set_cons_zero, List.set_cons_succ]))
            | ((with_reducible refine at_store (t := 4) (p := 70) rfl ?_)
               go_must (refine ev_store (cs' := #[.bool true, .int .i64 an, .int .i64 ac, .int .i64 ae]) rfl rfl rfl rfl rfl rfl HI.out.2.1 HI.out.2.2 rfl Hb511.out (Nat.le_of_ble_eq_true rfl) rfl ?_; intro w12 hb12 hk12)
               have f0 := (blk_cell hb12 0).trans rfl
               have f1 := (blk_cell hb12 1).trans rfl
               have f2 := (blk_cell hb12 2).trans rfl
               have f3 := (blk_cell hb12 3).trans rfl
               have p2 := hk12.cell p2 (by have h1 := Hg5.out; have h3 := blk_lt Hpb.out; show ¬ pb = g5; omega)
               go_must (have Hk012 := Lib.hid (Hk011.out.own hk12 Hg5.out.1))
               go_must (have Hp12 := Lib.hid (Hp.out.mix Hk012.out Hp11.out hk12 (by have h1 := Hg5.out; have h2 := Hl.out; show ¬ kb = g5; omega) (by have h1 := Hg5.out; have h2 := Hl.out; show ¬ nb = g5; omega)))
               have Hb512 := Lib.hid hb12
               clear hb12
               (try simp only [Act.put, List.setIfInBounds_toArray, List.set_cons_zero, List.set_cons_succ]))
          )
          obtain ⟨ck3, hbk3, hck3⟩ := id Hp12.out.known
          have Hbk3 := Lib.hid hbk3
          have Hck3 := Lib.hid hck3
          have Hsz3 := Lib.hid (pget_size (hck3 i hin).2.2.2)
          clear hbk3 hck3
          refine wp_region_perm [(0, true), (1, true), (2, true), (3, true), (4, true), (5, true), (6, true), (7, false)] (fun w' => w'.cell? ⟨pb, 2, none⟩ = some (.slice (some ⟨kb, 0, none⟩) E.rules.length E.rules.length) ∧ w'.cell? ⟨g5, 0, none⟩ = some (.bool true) ∧ w'.cell? ⟨g5, 1, none⟩ = some (.int .i64 an) ∧ w'.cell? ⟨g5, 2, none⟩ = some (.int .i64 ac) ∧ w'.cell? ⟨g5, 3, none⟩ = some (.int .i64 ae)) rfl (by kernel_rfl) (by kernel_rfl) (by decide) (fun c a d v w h => by cases d <;> exact h) ⟨p2, f0, f1, f2, f3⟩ ?_
          refine perm_q (v := ?v1_0) (some 71) rfl rfl rfl ?q1_0 ?h1_0; (case q1_0 => (intro w' hS; obtain ⟨s1, s2, s3, s4, s5⟩ := hS; first | (go_simp; done) | (go_simp; rfl))); (try simp only [Act.put, List.setIfInBounds_toArray, List.set_cons_zero, List.set_cons_succ])
          refine perm_q (v := ?v1_1) (some 72) rfl rfl rfl ?q1_1 ?h1_1; (case q1_1 => (intro w' hS; obtain ⟨s1, s2, s3, s4, s5⟩ := hS; first | (go_simp; done) | (go_simp; rfl))); (try simp only [Act.put, List.setIfInBounds_toArray, List.set_cons_zero, List.set_cons_succ])
          refine perm_q (v := ?v1_2) (some 73) rfl rfl rfl ?q1_2 ?h1_2; (case q1_2 => (intro w' hS; obtain ⟨s1, s2, s3, s4, s5⟩ := hS; first | (go_simp; done) | (go_simp; rfl))); (try simp only [Act.put, List.setIfInBounds_toArray, List.set_cons_zero, List.set_cons_succ])
          refine perm_q (v := ?v1_3) (some 74) rfl rfl rfl ?q1_3 ?h1_3; (case q1_3 => (intro w' hS; obtain ⟨s1, s2, s3, s4, s5⟩ := hS; first | (go_simp; done) | (go_simp; rfl))); (try simp only [Act.put, List.setIfInBounds_toArray, List.set_cons_zero, List.set_cons_succ])
          refine perm_q (v := ?v1_4) (some 75) rfl rfl rfl ?q1_4 ?h1_4; (case q1_4 => (intro w' hS; obtain ⟨s1, s2, s3, s4, s5⟩ := hS; first | (go_simp; done) | (go_simp; rfl))); (try simp only [Act.put, List.setIfInBounds_toArray, List.set_cons_zero, List.set_cons_succ])
          refine perm_q (v := ?v1_5) (some 76) rfl rfl rfl ?q1_5 ?h1_5; (case q1_5 => (intro w' hS; obtain ⟨s1, s2, s3, s4, s5⟩ := hS; first | (go_simp; done) | (go_simp; rfl))); (try simp only [Act.put, List.setIfInBounds_toArray, List.set_cons_zero, List.set_cons_succ])
          refine perm_q (v := ?v1_6) (some 77) rfl rfl rfl ?q1_6 ?h1_6; (case q1_6 => (intro w' hS; obtain ⟨s1, s2, s3, s4, s5⟩ := hS; first | (go_simp; done) | (go_simp; rfl))); (try simp only [Act.put, List.setIfInBounds_toArray, List.set_cons_zero, List.set_cons_succ])
          refine perm_e rfl ?_   -- 7: store 80 t77 t76
          go_must (refine ev_store (x := .agg #[.bool true, .int .i64 an, .int .i64 ac, .int .i64 ae]) (vs := [.bool true, .int .i64 an, .int .i64 ac, .int .i64 ae]) (off := i * 4) (cs' := List.toArray (ck3.toList.take (i * 4) ++ [Value.bool true, .int .i64 an, .int .i64 ac, .int .i64 ae] ++ ck3.toList.drop (i * 4 + [Value.bool true, .int .i64 an, .int .i64 ac, .int .i64 ae].length))) rfl rfl rfl rfl rfl rfl HI.out.1.1 HI.out.1.2 rfl Hbk3.out (by have := Hsz3.out; exact this) rfl ?_; intro w13 hb13 hk13)
          have hg5k : ¬ g5 = kb := by have h1 := Hg5.out; have h2 := Hl.out; omega
          have f0 := hk13.cell (w := w12.drew) f0 hg5k
          have f1 := hk13.cell (w := w12.drew) f1 hg5k
          have f2 := hk13.cell (w := w12.drew) f2 hg5k
          have f3 := hk13.cell (w := w12.drew) f3 hg5k
          refine wpList_nil ⟨⟨hk13.cell (w := w12.drew) p2 HF.out.1.1.1, f0, f1, f2, f3⟩, ?_⟩
          refine perm_nil ?_
          have hk13' : Keeps (· = kb) w12 w13 := (Keeps.refl (· = kb) w12).drew.trans hk13 (fun _ _ h => h)
          have Hp13 := Lib.hid (Hp12.out.learn hk13' (KnownX.put (w := w) G1.out.1 (n := E.rules.length) (by exact Hck3.out) hin (x := an) (c := ac) rfl (by rw [Hae.out] at hb13; exact hb13)))
          have Hk013 := Lib.hid (Hk012.out.into hk13' (.inl rfl))
          have Hb413 := Lib.hid (hk13'.blk (hk12.blk Hb411.out (by have h1 := Hg5.out; show ¬ g4 = g5; omega)) (by have h2 := Hl.out; show ¬ g4 = kb; omega))
          clear hb13 hk13 p2
          go_wp2_with ((with_reducible refine at_store (t := 80) (p := 4) rfl ?_); go_must (refine ev_store (cs' := #[.bool true, .int .i64 an, .int .i64 ac, .int .i64 ae]) rfl rfl rfl rfl rfl rfl HI.out.1.1 HI.out.1.2 rfl Hb413.out (Nat.le_of_ble_eq_true rfl) rfl ?_; intro w14 hb5 hk14); (try simp only [Act.put, List.setIfInBounds_toArray, List.set_cons_zero, List.set_cons_succ]))
          have r0 := (blk_cell hb5 0).trans rfl
          have r1 := (blk_cell hb5 1).trans rfl
          have r2 := (blk_cell hb5 2).trans rfl
          have r3 := (blk_cell hb5 3).trans rfl
          refine bodyPost_ret (v := .agg #[.bool true, .int .i64 an, .int .i64 ac, .int .i64 ae]) (by rw [results_cell1 rfl]; go_simp) rfl ?_
          have hR := HR.out
          rw [if_pos Hae.out] at hR
          rw [← hR]
          have hkz := Hk013.out.own hk14 hg4w
          exact ⟨⟨true, rfl⟩, hkz, Hp.out.mix hkz Hp13.out hk14 (by have h2 := Hl.out; show ¬ kb = g4; omega) (by have h2 := Hl.out; show ¬ nb = g4; omega)⟩
        · have haeb : (ae == 0) = false := by simp [hae]
          have Hae := Lib.hid hae
          clear hae
          go_wp2_with (first
            | ((with_reducible refine at_dst (N := 4) rfl ?_); go_must (refine ev_alloc rfl rfl zero80 rfl ?_; intro g4 w4 hg4 hl4 hb4 hk4)
               have Hb4 := Lib.hid hb4
               clear hb4
               have p0 := hk4.cell p0 id
               have p1 := hk4.cell p1 id
               have p2 := hk4.cell p2 id
               have p3 := hk4.cell p3 id
               have e0 := hk4.cell e0 id
               have e1 := hk4.cell e1 id
               have e2 := hk4.cell e2 id
               have n0 := hk4.cell n0 id
               have k0 := hk4.cell k0 id
               (try have k1 := hk4.cell k1 id)
               (try have k2 := hk4.cell k2 id)
               (try have k3 := hk4.cell k3 id)
               (try have hv := hk4.cell hv id)
               (try simp only [Act.put, List.setIfInBounds_toArray, List.set_cons_zero, List.set_cons_succ]))
            | ((with_reducible refine at_store (t := 4) (p := 51) rfl ?_)
               go_must (refine ev_store (x := .bool true) (vs := [.bool true]) (cs' := List.toArray (cn.toList.take i ++ [Value.bool true] ++ cn.toList.drop (i + [Value.bool true].length))) rfl rfl rfl rfl rfl rfl HI.out.2.1 HI.out.2.2 rfl (hk4.blk Hnbk.out id) (by have := Hsz.out; exact this) rfl ?_; intro w7 hb7 hk7)
               have hk07 : Keeps (fun x => x = kb ∨ x = nb) w w7 := (hk4.mono (fun _ _ h => h.elim)).into hk7 (.inr rfl)
               go_must (have hp7 := (Hp.out.keep hk4).reopen hk7 (OnX.put (on' := ↑i :: on) (b := true) (w := w) Hnc.out hin hb7 (fun j hj => by by_cases e : j = i; subst e; simp; rw [if_neg e]; congr 1; simp; intro h; exact absurd (by omega) e)))
               go_must (have hu7 := (Hu.out.keep (X' := X) hk4 (fun _ _ _ => id) (fun _ _ h => h)).keep (X' := X) hk7 (fun b _ hx e => Hp.out.xn (e ▸ hx)) (fun _ _ h => h))
               have Hrun := Lib.hid (Hcall.out w7 hp7 hu7)
               have p0 := hk7.cell p0 HF.out.1.1.2
               have p2 := hk7.cell p2 HF.out.1.1.2
               have p3 := hk7.cell p3 HF.out.1.1.2
               have e0 := hk7.cell e0 HF.out.2.1
               have e1 := hk7.cell e1 HF.out.2.1
               have e2 := hk7.cell e2 HF.out.2.1
               have Hk07 := Lib.hid hk07
               clear hp7 hu7 hk07 hb7 n0
               (try simp only [Act.put, List.setIfInBounds_toArray, List.set_cons_zero, List.set_cons_succ]))
            | (go_at_call 55; go_must (refine Hrun.out.mono ?_; rintro e w8 ⟨⟨b8, rfl⟩, hk8, hp8⟩)
               have Hp8 := Lib.hid hp8
               have Hk08 := Lib.hid (Hk07.out.trans hk8 (fun _ _ h => h))
               have p2 := hk8.cell p2 (fun hm : pb = kb ∨ pb = nb => hm.elim HF.out.1.1.1 HF.out.1.1.2)
               have p3 := hk8.cell p3 (fun hm : pb = kb ∨ pb = nb => hm.elim HF.out.1.1.1 HF.out.1.1.2)
               clear hp8
               (try simp only [Act.put, List.setIfInBounds_toArray, List.set_cons_zero, List.set_cons_succ]))
            | ((with_reducible refine at_dst (N := 5) rfl ?_); go_must (refine ev_alloc rfl rfl zero80 rfl ?_; intro g5 w9 hg5 hl5 hb5 hk9)
               have Hb5 := Lib.hid hb5
               have p2 := hk9.cell p2 id
               have p3 := hk9.cell p3 id
               clear hb5
               (try simp only [Act.put, List.setIfInBounds_toArray, List.set_cons_zero, List.set_cons_succ]))
            | ((with_reducible refine at_store (t := 80) (p := 5) rfl ?_); go_must (refine ev_store (cs' := #[.bool b8, .int .i64 an, .int .i64 ac, .int .i64 ae]) rfl rfl rfl rfl rfl rfl HI.out.1.1 HI.out.1.2 rfl Hb5.out (Nat.le_of_ble_eq_true rfl) rfl ?_; intro w10 hb10 hk10)
               have p2 := hk10.cell p2 (by have h1 := World.block_lt_of_cell? _ _ p2; have h2 := Hk08.out.size; have h3 := blk_lt Hpb.out; show ¬ pb = g5; omega)
               have p3 := hk10.cell p3 (by have h1 := World.block_lt_of_cell? _ _ p3; have h2 := Hk08.out.size; have h3 := blk_lt Hpb.out; show ¬ pb = g5; omega)
               have Hg5 := Lib.hid (show w.heap.size ≤ g5 ∧ w4.heap.size ≤ g5 from ⟨by have h2 := Hk08.out.size; omega, by have h2 := hk7.size; have h3 := hk8.size; omega⟩)
               go_must (have Hk010 := Lib.hid ((Hk08.out.trans hk9 (fun _ _ h => h.elim)).own hk10 Hg5.out.1))
               go_must (have Hp10 := Lib.hid (Hp.out.mix Hk010.out Hp8.out ((hk9.mono (M' := (· = g5)) (fun _ _ h => h.elim)).trans hk10 (fun _ _ h => h)) (by have h1 := Hg5.out; have h2 := Hl.out; show ¬ kb = g5; omega) (by have h1 := Hg5.out; have h2 := Hl.out; show ¬ nb = g5; omega)))
               go_must (have hcn2 : ∃ cs : Array Value, w10.heap[nb]? = some (.cells cs 4 (0, 0)) ∧ Hid (∀ j : Nat, j < E.rules.length → cs[j]? = some (.bool (decide ((j : Int) ∈ (↑i :: on : List Int))))) := Hp10.out.open_; obtain ⟨cn2, hbn2, Hcn2⟩ := hcn2)
               have Hbn2 := Lib.hid hbn2
               have Hb10 := Lib.hid hb10
               have Hsz2 := Lib.hid (pget_size (Hcn2.out i hin))
               have f3 := (blk_cell hb10 3).trans rfl
               clear hbn2 hb10
               (try simp only [Act.put, List.setIfInBounds_toArray, List.set_cons_zero, List.set_cons_succ]))
            | ((with_reducible refine at_store (t := 4) (p := 66) rfl ?_)
               go_must (refine ev_store (x := .bool false) (vs := [.bool false]) (cs' := List.toArray (cn2.toList.take i ++ [Value.bool false] ++ cn2.toList.drop (i + [Value.bool false].length))) rfl rfl rfl rfl rfl rfl HI.out.2.1 HI.out.2.2 rfl Hbn2.out (by have := Hsz2.out; exact this) rfl ?_; intro w11 hb11 hk11)
               have p2 := hk11.cell p2 HF.out.1.1.2
               have f3 := hk11.cell f3 (by have h1 := Hg5.out; have h2 := Hl.out; show ¬ g5 = nb; omega)
               go_must (have Hp11 := Lib.hid (Hp10.out.reopen hk11 (OnX.put (on' := on) (b := false) (w := w) Hcn2.out hin hb11 (fun j hj => by by_cases e : j = i; subst e; rw [if_pos rfl]; exact decide_eq_false Hon.out; rw [if_neg e]; congr 1; simp; intro h; exact absurd (by omega) e))))
               go_must (have Hb511 := Lib.hid (hk11.blk Hb10.out (by have h1 := Hg5.out; have h2 := Hl.out; show ¬ g5 = nb; omega)))
               go_must (have Hk011 := Lib.hid (Hk010.out.into hk11 (.inr rfl)))
               have hg4w := hg4
               go_must (have Hb411 := Lib.hid (hk11.blk (hk10.blk (hk9.blk (hk8.blk (hk7.blk Hb4.out (by have h2 := Hl.out; show ¬ g4 = nb; omega)) (by have h2 := Hl.out; show ¬ (g4 = kb ∨ g4 = nb); omega)) id) (by have h1 := Hg5.out; show ¬ g4 = g5; omega)) (by have h2 := Hl.out; show ¬ g4 = nb; omega)))
               have f0 := (blk_cell Hb511.out 0).trans rfl
               have f1 := (blk_cell Hb511.out 1).trans rfl
               have f2 := (blk_cell Hb511.out 2).trans rfl
               clear hb11 p3
               (try simp only [Act.put, List.setIfInBounds_toArray, List.set_cons_zero, List.set_cons_succ]))
            | ((with_reducible refine at_store (t := 80) (p := 4) rfl ?_); go_must (refine ev_store (cs' := #[.bool b8, .int .i64 an, .int .i64 ac, .int .i64 ae]) rfl rfl rfl rfl rfl rfl HI.out.1.1 HI.out.1.2 rfl Hb411.out (Nat.le_of_ble_eq_true rfl) rfl ?_; intro w14 hb5 hk14); (try simp only [Act.put, List.setIfInBounds_toArray, List.set_cons_zero, List.set_cons_succ]))
          )
          have r0 := (blk_cell hb5 0).trans rfl
          have r1 := (blk_cell hb5 1).trans rfl
          have r2 := (blk_cell hb5 2).trans rfl
          have r3 := (blk_cell hb5 3).trans rfl
          refine bodyPost_ret (v := .agg #[.bool b8, .int .i64 an, .int .i64 ac, .int .i64 ae]) (by rw [results_cell1 rfl]; go_simp) rfl ?_
          have hR := HR.out
          rw [if_neg Hae.out] at hR
          rw [← hR]
          have hkz := Hk011.out.own hk14 hg4w
          exact ⟨⟨b8, rfl⟩, hkz, Hp.out.mix hkz Hp11.out hk14 (by have h2 := Hl.out; show ¬ kb = g4; omega) (by have h2 := Hl.out; show ¬ nb = g4; omega)⟩
/-- THE SPECIFICATION'S ASKING comes to the model's, however deep. -/
theorem plain_ask_all {E : Env} (hE : EnvOk E) : ∀ (f : Nat) (on : List Int), on.Nodup → (∀ q ∈ on, InQ E q) → E.rules.length + 1 ≤ f + on.length → RAskOK E on (rAsk E.rules E.inp f on)
  | 0, on, h1, h2, h => fun w X Y pb kb nb s q hp hkb hq => by
    have := nodup_length h1 h2
    omega
  | f + 1, on, h1, h2, h => fun w X Y pb kb nb s q hp hkb hq =>
    plain_ask hE f w X Y pb kb nb s q (fun hn => plain_ask_all hE f (q :: on) (List.nodup_cons.2 ⟨hn, h1⟩) (fun p hp => (List.mem_cons.1 hp).elim (fun e => e ▸ hq) (h2 p)) (by simp; omega)) hp hkb hq
end Go.Proofs.QW
