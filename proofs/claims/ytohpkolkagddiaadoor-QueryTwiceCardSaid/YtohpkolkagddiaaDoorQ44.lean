/-
  An engine behind calls (played), in memory: it comes to the model. Condition: rules and calls lie, and the table of kinds is as laid.
-/
import Derived.Test.YtohpkolkagddiaaDoorQ43
namespace Go.Proofs.QW
open Go.RowKit Go.Proofs.KL Go.Proofs.QM
set_option maxRecDepth 100000
set_option linter.unusedSimpArgs false
set_option linter.unusedVariables false

/-- A slice of calls. -/
def ActsX (w : World) (X : Nat → Prop) (v : Value) (acts : List ActR) : Prop :=
  ∃ A c, v = .slice A acts.length c ∧ acts.length ≤ c ∧ ∀ i, i < acts.length → ∃ b o, A = some ⟨b, o, none⟩ ∧ X b ∧ w.cell? ⟨b, o + i * 3, none⟩ = some (.int .u8 (acts.getD i default).kind) ∧
    w.cell? ⟨b, o + i * 3 + 1, none⟩ = some (.int .i64 (acts.getD i default).q) ∧ w.cell? ⟨b, o + i * 3 + 2, none⟩ = some (.int .i64 (acts.getD i default).v) ∧
    (0 ≤ (acts.getD i default).kind ∧ (acts.getD i default).kind ≤ 255) ∧ (acts.getD i default).v ≤ 9223372036854775807
theorem ActsX.keep {M X X' : Nat → Prop} {w w' : World} {v : Value} {acts : List ActR} (h : ActsX w X v acts) (hk : Keeps M w w') (hX : ∀ b, b < w.heap.size → X b → ¬ M b) (hX' : ∀ b, b < w.heap.size → X b → X' b) : ActsX w' X' v acts := by
  obtain ⟨A, c, rfl, hc, hx⟩ := h
  refine ⟨A, c, rfl, hc, fun i hi => ?_⟩
  obtain ⟨b, o, rfl, hb, h0, h1, h2, h3⟩ := hx i hi
  have hlt := World.block_lt_of_cell? _ _ h0
  have hn := hX b hlt hb
  exact ⟨b, o, rfl, hX' b hlt hb, hk.cell h0 hn, hk.cell h1 hn, hk.cell h2 hn, h3⟩
def playedTo (rs : List QRule) (acts : List ActR) (k : Nat) : State := (acts.take k).foldl stepA (fresh rs 0, List.replicate rs.length none)
def playedF (rs : List QRule) (acts : List ActR) : State := playedTo rs acts 60
theorem playedTo_succ {rs : List QRule} {acts : List ActR} {k : Nat} (h : k < acts.length) : playedTo rs acts (k + 1) = stepA (playedTo rs acts k) (acts.getD k default) := by
  unfold playedTo
  rw [List.take_succ_eq_append_getElem h, List.foldl_append]
  simp [List.getD_eq_getElem?_getD, h]
theorem playedTo_inv {rs : List QRule} {acts : List ActR} (hc : (check rs).2 = 0) (hv : ∀ a ∈ acts, a.v ≤ 9223372036854775807) : ∀ k : Nat, k ≤ 1000000 → SInv rs k (playedTo rs acts k)
  | 0, _ => by have := SInv.start hc; unfold playedTo; simpa using this
  | k + 1, h => by
    have ih := playedTo_inv hc hv k (by omega)
    rcases Nat.lt_or_ge k acts.length with hk | hk
    · rw [playedTo_succ hk]
      have hm : acts.getD k default ∈ acts := by rw [List.getD_eq_getElem?_getD, List.getElem?_eq_getElem hk]; exact List.getElem_mem hk
      have := ih.step (acts.getD k default) (by omega) (hv _ hm)
      rwa [show ((k + 1 : Nat) : Int) = (k : Int) + 1 by omega]
    · have : playedTo rs acts (k + 1) = playedTo rs acts k := by unfold playedTo; rw [List.take_of_length_le (by omega), List.take_of_length_le hk]
      rw [this]
      exact ⟨ih.rules, ih.ok, by have := ih.rev; omega, ih.inv, ih.his⟩
theorem playedTo_end {rs : List QRule} {acts : List ActR} : playedTo rs acts acts.length = playedTo rs acts 60 ∨ 60 < acts.length := by
  rcases Nat.lt_or_ge 60 acts.length with h | h
  · exact .inr h
  · left; unfold playedTo; rw [List.take_of_length_le (Nat.le_refl _), List.take_of_length_le h]
theorem zero56 : (Tryd.prog.info? 56).map (·.zero) = some (some (.agg #[.int .u8 0, .int .i64 0, .int .i64 0])) := by kernel_rfl
theorem info56 : ∃ i, Tryd.prog.info? 56 = some i ∧ i.size = 3 := by
  have h : (Tryd.prog.info? 56).map (·.size) = some 3 := by kernel_rfl
  obtain ⟨i, hi, hs⟩ := Option.map_eq_some_iff.1 h
  exact ⟨i, hi, hs⟩
/-- The state of the loop. -/
structure Played (w wr : World) (X : Nat → Prop) (eb ib mb : Nat) (rs : List QRule) (acts : List ActR) (k : Nat) : Prop where
  keep : Keeps Nob w wr
  eng : EngAt wr X eb ib mb (playedTo rs acts k).1 (playedTo rs acts k).2
  xx : ∀ b, X b → w.heap.size ≤ b ∧ b < wr.heap.size
  be : w.heap.size ≤ eb ∧ w.heap.size ≤ ib ∧ w.heap.size ≤ mb
theorem Played.wrote {w wr w2 w3 : World} {X X' : Nat → Prop} {eb ib mb : Nat} {rs : List QRule} {acts : List ActR} {k : Nat} {M : Nat → Prop} (h : Played w wr X eb ib mb rs acts k) (h2 : Keeps Nob wr w2) (h3 : Keeps M w2 w3) (hM : ∀ i, M i → i = eb ∨ i = ib ∨ i = mb) (hX : ∀ b, b < w2.heap.size → (X' b ↔ X b)) (hX' : ∀ b, X' b → b < w3.heap.size) {S : State}
    (hs : playedTo rs acts (k + 1) = S) (he : EngAt w3 X' eb ib mb S.1 S.2) : Played w w3 X' eb ib mb rs acts (k + 1) := by
  have z0 := h.keep.size
  have z2 := h2.size
  refine ⟨(h.keep.trans h2 (fun _ _ h => h)).trans h3 (fun i hi hm => ?_), by rw [hs]; exact he, fun b hb => ⟨?_, hX' b hb⟩, h.be⟩
  · obtain ⟨b1, b2, b3⟩ := h.be
    rcases hM i hm with rfl | rfl | rfl <;> omega
  · rcases Nat.lt_or_ge b w2.heap.size with hl | hl
    · exact (h.xx b ((hX b hl).1 hb)).1
    · omega
set_option maxHeartbeats 8000000 in
/-- PLAYED. -/
theorem played_any (rs : List QRule) (acts : List ActR) (w : World) (X Y : Nat → Prop) (rv av : Value) (hr : RulesX w X rv rs) (ha : ActsX w Y av acts) (ht : rs.length ≤ 200 → Tab w) :
    Calls Tryd.prog 16 #[rv, av] w fun e w' => Keeps Nob w w' ∧ ((check rs).2 ≠ 0 → e = .returned (.pointer none)) ∧
      ((check rs).2 = 0 → ∃ eb ib mb X', e = .returned (.pointer (some ⟨eb, 0, none⟩)) ∧ EngAt w' X' eb ib mb (playedF rs acts).1 (playedF rs acts).2 ∧ (∀ k, X' k → w.heap.size ≤ k ∧ k < w'.heap.size) ∧ w.heap.size ≤ eb ∧ w.heap.size ≤ ib ∧ w.heap.size ≤ mb) := by
  have hnew := Lib.hid (New_any rs w X rv hr ht)
  obtain ⟨rA, rc, rfl, -, -⟩ := id hr
  obtain ⟨A, c, rfl, hcc, hcell⟩ := id ha
  have hpn : ∀ (n : Nat) (w : World), (binOp .eql 35 (.pointer (some ⟨n, 0, none⟩)) (.pointer none)).run Tryd.prog w = .ok (.bool false) w := fun _ _ => by kernel_rfl
  have Hcell := Lib.hid hcell
  obtain ⟨i56, hi56, hs56⟩ := info56
  have HI := Lib.hid (And.intro hi56 hs56)
  clear hr ha hcell ht hi56 hs56
  by_cases hc : (check rs).2 = 0
  · have Hc := Lib.hid hc
    have hv : ∀ a ∈ acts, a.v ≤ 9223372036854775807 := fun a ham => by
      obtain ⟨i, hi, rfl⟩ := List.mem_iff_getElem.1 ham
      obtain ⟨_, _, _, _, _, _, _, _, h⟩ := Hcell.out i hi
      rwa [List.getD_eq_getElem?_getD, List.getElem?_eq_getElem hi] at h
    have Hinv := Lib.hid (playedTo_inv hc hv)
    obtain ⟨al, hal⟩ : ∃ x, acts.length = x := ⟨_, rfl⟩
    have Hal := Lib.hid hal
    rw [hal] at hcc ⊢
    clear hc hv hal
    go_enter Tryd.func16, Tryd.ntmps16
    go_wp2_with (go_at_call 23; go_must (refine hnew.out.mono ?_; rintro e w1 ⟨hk1, -, hx⟩; obtain ⟨eb, ib, mb, X0, rfl, heng, hxl, he1, he2, he3⟩ := hx Hc.out))
    have H0 := Lib.hid (show Played w w1 X0 eb ib mb rs acts 0 from ⟨hk1, heng 0, hxl, he1, he2, he3⟩)
    clear heng hxl he1 he2 he3
    go_loopw [7] (fun v wr => ∃ (k : Nat) (X : Nat → Prop), v = .int .i64 k ∧ k ≤ al ∧ k ≤ 60 ∧ Hid (Played w wr X eb ib mb rs acts k))
      (fun v _ => al - (intOf v).toNat)
    case atStart => exact ⟨0, X0, rfl, Nat.zero_le _, Nat.zero_le _, H0⟩
    case round =>
      obtain ⟨k, Xk, rfl, hk, hk60, hst⟩ := hrel
      by_cases hlt : k < al
      · by_cases hlt2 : k < 60
        · obtain ⟨b, o, rfl, -, c0, c1, c2, ⟨kd0, kd1⟩, vmax⟩ := Hcell.out k (by rw [Hal.out]; exact hlt)
          have c0 := hst.out.keep.cell c0 id
          have c1 := hst.out.keep.cell c1 id
          have c2 := hst.out.keep.cell c2 id
          have hsucc := playedTo_succ (rs := rs) (acts := acts) (k := k) (by rw [Hal.out]; exact hlt)
          have hinv := Hinv.out k (by omega)
          have heng := hst.out.eng
          generalize acts.getD k default = a at *
          obtain ⟨d, aq, av⟩ := a
          simp only at c0 c1 c2 kd0 kd1 vmax
          rcases hS : playedTo rs acts k with ⟨E, ans⟩
          rw [hS] at hsucc hinv heng
          simp only at heng
          obtain ⟨m, hm⟩ : ∃ m, d % 8 = m := ⟨_, rfl⟩
          have hmr : d.tmod 8 = m := by rw [Int.tmod_eq_emod_of_nonneg kd0]; exact hm
          have hm0 : 0 ≤ m := by omega
          have hm8 : m < 8 := by omega
          have hmw : IntKind.u8.wrap m = m := IntWalk.u8_in _ (by omega)
          have hcase : m = 0 ∨ m = 1 ∨ m = 2 ∨ m = 3 ∨ m = 4 ∨ m = 5 ∨ m = 6 ∨ m = 7 := by omega
          have Heng := Lib.hid heng
          have Hsinv := Lib.hid hinv
          have Hsucc := Lib.hid hsucc
          have Hm := Lib.hid hm
          have h200 : E.rules.length ≤ 200 := hinv.ok.len
          clear hsucc hinv heng hS hm
          rcases hcase with rfl | rfl | rfl | rfl | rfl | rfl | rfl | rfl
          · skip
            go_wp2_with (first
              | ((with_reducible refine at_dst (N := 8) rfl ?_); go_must (refine ev_alloc rfl rfl zero56 rfl ?_; intro g8 w1 hg8 hl8 hb8 hk1); have Hb8 := Lib.hid hb8; clear hb8; (try simp only [Act.put, List.setIfInBounds_toArray, List.set_cons_zero, List.set_cons_succ]))
              | ((with_reducible refine at_store (t := 56) rfl ?_); go_must (refine ev_store (cs' := #[.int .u8 d, .int .i64 aq, .int .i64 av]) rfl rfl rfl rfl rfl rfl HI.out.1 HI.out.2 rfl Hb8.out (Nat.le_of_ble_eq_true rfl) rfl ?_; intro w2 hb2 hk2)
                 have f0 := (blk_cell hb2 0).trans rfl
                 have f1 := (blk_cell hb2 1).trans rfl
                 have f2 := (blk_cell hb2 2).trans rfl
                 have HK2 := Lib.hid (show Keeps Nob wr w2 from hk1.own hk2 hg8)
                 clear hb2
                 (try simp only [Act.put, List.setIfInBounds_toArray, List.set_cons_zero, List.set_cons_succ]))
              | (go_at_call 29; go_must (refine (Set_any (Hsinv.out.env (m := 0) (Int.le_refl 0) (by decide)) w2 Xk eb ib mb ans aq av ((Heng.out.after HK2.out).bound 0)).mono ?_; rintro e w3 ⟨rfl, hk3, he3⟩); (try simp only [Act.put, List.setIfInBounds_toArray, List.set_cons_zero, List.set_cons_succ]))
            )
            rw [setF_bound] at he3
            refine ⟨⟨k + 1, Xk, by go_num, by omega, by omega, Lib.hid (hst.out.wrote HK2.out hk3 (fun i hi => hi.elim .inl (fun h => .inr (.inl h))) (fun _ _ => Iff.rfl) (fun b hb => by have h1 := (hst.out.xx b hb).2; have h2 := HK2.out.size; have h3 := hk3.size; omega) (S := ((setF E aq av).1, ans)) (by rw [Hsucc.out]; unfold stepA; rw [if_pos (by show d % 8 < 3; rw [Hm.out]; decide)]) he3.unbound)⟩, by simp [intOf]; omega⟩
          · skip
            go_wp2_with (first
              | ((with_reducible refine at_dst (N := 8) rfl ?_); go_must (refine ev_alloc rfl rfl zero56 rfl ?_; intro g8 w1 hg8 hl8 hb8 hk1); have Hb8 := Lib.hid hb8; clear hb8; (try simp only [Act.put, List.setIfInBounds_toArray, List.set_cons_zero, List.set_cons_succ]))
              | ((with_reducible refine at_store (t := 56) rfl ?_); go_must (refine ev_store (cs' := #[.int .u8 d, .int .i64 aq, .int .i64 av]) rfl rfl rfl rfl rfl rfl HI.out.1 HI.out.2 rfl Hb8.out (Nat.le_of_ble_eq_true rfl) rfl ?_; intro w2 hb2 hk2)
                 have f0 := (blk_cell hb2 0).trans rfl
                 have f1 := (blk_cell hb2 1).trans rfl
                 have f2 := (blk_cell hb2 2).trans rfl
                 have HK2 := Lib.hid (show Keeps Nob wr w2 from hk1.own hk2 hg8)
                 clear hb2
                 (try simp only [Act.put, List.setIfInBounds_toArray, List.set_cons_zero, List.set_cons_succ]))
              | (go_at_call 29; go_must (refine (Set_any (Hsinv.out.env (m := 0) (Int.le_refl 0) (by decide)) w2 Xk eb ib mb ans aq av ((Heng.out.after HK2.out).bound 0)).mono ?_; rintro e w3 ⟨rfl, hk3, he3⟩); (try simp only [Act.put, List.setIfInBounds_toArray, List.set_cons_zero, List.set_cons_succ]))
            )
            rw [setF_bound] at he3
            refine ⟨⟨k + 1, Xk, by go_num, by omega, by omega, Lib.hid (hst.out.wrote HK2.out hk3 (fun i hi => hi.elim .inl (fun h => .inr (.inl h))) (fun _ _ => Iff.rfl) (fun b hb => by have h1 := (hst.out.xx b hb).2; have h2 := HK2.out.size; have h3 := hk3.size; omega) (S := ((setF E aq av).1, ans)) (by rw [Hsucc.out]; unfold stepA; rw [if_pos (by show d % 8 < 3; rw [Hm.out]; decide)]) he3.unbound)⟩, by simp [intOf]; omega⟩
          · skip
            go_wp2_with (first
              | ((with_reducible refine at_dst (N := 8) rfl ?_); go_must (refine ev_alloc rfl rfl zero56 rfl ?_; intro g8 w1 hg8 hl8 hb8 hk1); have Hb8 := Lib.hid hb8; clear hb8; (try simp only [Act.put, List.setIfInBounds_toArray, List.set_cons_zero, List.set_cons_succ]))
              | ((with_reducible refine at_store (t := 56) rfl ?_); go_must (refine ev_store (cs' := #[.int .u8 d, .int .i64 aq, .int .i64 av]) rfl rfl rfl rfl rfl rfl HI.out.1 HI.out.2 rfl Hb8.out (Nat.le_of_ble_eq_true rfl) rfl ?_; intro w2 hb2 hk2)
                 have f0 := (blk_cell hb2 0).trans rfl
                 have f1 := (blk_cell hb2 1).trans rfl
                 have f2 := (blk_cell hb2 2).trans rfl
                 have HK2 := Lib.hid (show Keeps Nob wr w2 from hk1.own hk2 hg8)
                 clear hb2
                 (try simp only [Act.put, List.setIfInBounds_toArray, List.set_cons_zero, List.set_cons_succ]))
              | (go_at_call 29; go_must (refine (Set_any (Hsinv.out.env (m := 0) (Int.le_refl 0) (by decide)) w2 Xk eb ib mb ans aq av ((Heng.out.after HK2.out).bound 0)).mono ?_; rintro e w3 ⟨rfl, hk3, he3⟩); (try simp only [Act.put, List.setIfInBounds_toArray, List.set_cons_zero, List.set_cons_succ]))
            )
            rw [setF_bound] at he3
            refine ⟨⟨k + 1, Xk, by go_num, by omega, by omega, Lib.hid (hst.out.wrote HK2.out hk3 (fun i hi => hi.elim .inl (fun h => .inr (.inl h))) (fun _ _ => Iff.rfl) (fun b hb => by have h1 := (hst.out.xx b hb).2; have h2 := HK2.out.size; have h3 := hk3.size; omega) (S := ((setF E aq av).1, ans)) (by rw [Hsucc.out]; unfold stepA; rw [if_pos (by show d % 8 < 3; rw [Hm.out]; decide)]) he3.unbound)⟩, by simp [intOf]; omega⟩
          · skip
            go_wp2_with (first
              | ((with_reducible refine at_dst (N := 8) rfl ?_); go_must (refine ev_alloc rfl rfl zero56 rfl ?_; intro g8 w1 hg8 hl8 hb8 hk1); have Hb8 := Lib.hid hb8; clear hb8; (try simp only [Act.put, List.setIfInBounds_toArray, List.set_cons_zero, List.set_cons_succ]))
              | ((with_reducible refine at_store (t := 56) rfl ?_); go_must (refine ev_store (cs' := #[.int .u8 d, .int .i64 aq, .int .i64 av]) rfl rfl rfl rfl rfl rfl HI.out.1 HI.out.2 rfl Hb8.out (Nat.le_of_ble_eq_true rfl) rfl ?_; intro w2 hb2 hk2)
                 have f0 := (blk_cell hb2 0).trans rfl
                 have f1 := (blk_cell hb2 1).trans rfl
                 have f2 := (blk_cell hb2 2).trans rfl
                 have HK2 := Lib.hid (show Keeps Nob wr w2 from hk1.own hk2 hg8)
                 clear hb2
                 (try simp only [Act.put, List.setIfInBounds_toArray, List.set_cons_zero, List.set_cons_succ]))
              | (go_at_call 30; go_must (refine (Forget_any Xk eb ib mb E ans aq w2 (Heng.out.after HK2.out) h200).mono ?_; rintro e w3 ⟨rfl, hk3, he3⟩); (try simp only [Act.put, List.setIfInBounds_toArray, List.set_cons_zero, List.set_cons_succ]))
            )
            refine ⟨⟨k + 1, Xk, by go_num, by omega, by omega, Lib.hid (hst.out.wrote HK2.out hk3 (fun i hi => .inr (.inr hi)) (fun _ _ => Iff.rfl) (fun b hb => by have h1 := (hst.out.xx b hb).2; have h2 := HK2.out.size; have h3 := hk3.size; omega) (S := (E, (forgetF E ans aq).1)) (by rw [Hsucc.out]; unfold stepA; rw [if_neg (by show ¬ d % 8 < 3; rw [Hm.out]; decide), if_pos (by show d % 8 = 3; rw [Hm.out])]) he3)⟩, by simp [intOf]; omega⟩
          · skip
            go_wp2_with (first
              | ((with_reducible refine at_dst (N := 8) rfl ?_); go_must (refine ev_alloc rfl rfl zero56 rfl ?_; intro g8 w1 hg8 hl8 hb8 hk1); have Hb8 := Lib.hid hb8; clear hb8; (try simp only [Act.put, List.setIfInBounds_toArray, List.set_cons_zero, List.set_cons_succ]))
              | ((with_reducible refine at_store (t := 56) rfl ?_); go_must (refine ev_store (cs' := #[.int .u8 d, .int .i64 aq, .int .i64 av]) rfl rfl rfl rfl rfl rfl HI.out.1 HI.out.2 rfl Hb8.out (Nat.le_of_ble_eq_true rfl) rfl ?_; intro w2 hb2 hk2)
                 have f0 := (blk_cell hb2 0).trans rfl
                 have f1 := (blk_cell hb2 1).trans rfl
                 have f2 := (blk_cell hb2 2).trans rfl
                 have HK2 := Lib.hid (show Keeps Nob wr w2 from hk1.own hk2 hg8)
                 clear hb2
                 (try simp only [Act.put, List.setIfInBounds_toArray, List.set_cons_zero, List.set_cons_succ]))
              | (go_at_call 18; go_must (refine (AskR_any Hsinv.out w2 Xk eb ib mb aq av vmax (Heng.out.after HK2.out) (fun b hb => Nat.lt_of_lt_of_le (hst.out.xx b hb).2 HK2.out.size)).mono ?_; rintro e w3 ⟨X3, wl3, rfl, hx3, hxl3, hk3, he3, -, -⟩); (try simp only [Act.put, List.setIfInBounds_toArray, List.set_cons_zero, List.set_cons_succ]))
            )
            rw [askR_ans] at he3
            refine ⟨⟨k + 1, X3, by go_num, by omega, by omega, Lib.hid (hst.out.wrote HK2.out hk3 (fun i hi => .inr (.inr hi)) hx3 hxl3 (S := (E, askS E ans aq av)) (by rw [Hsucc.out]; unfold stepA; rw [if_neg (by show ¬ d % 8 < 3; rw [Hm.out]; decide), if_neg (by show ¬ d % 8 = 3; rw [Hm.out]; decide)]; first | (rw [if_pos (by show d % 8 = 4; rw [Hm.out])]; done) | rw [if_neg (by show ¬ d % 8 = 4; rw [Hm.out]; decide)]) he3)⟩, by simp [intOf]; omega⟩
          · skip
            go_wp2_with (first
              | ((with_reducible refine at_dst (N := 8) rfl ?_); go_must (refine ev_alloc rfl rfl zero56 rfl ?_; intro g8 w1 hg8 hl8 hb8 hk1); have Hb8 := Lib.hid hb8; clear hb8; (try simp only [Act.put, List.setIfInBounds_toArray, List.set_cons_zero, List.set_cons_succ]))
              | ((with_reducible refine at_store (t := 56) rfl ?_); go_must (refine ev_store (cs' := #[.int .u8 d, .int .i64 aq, .int .i64 av]) rfl rfl rfl rfl rfl rfl HI.out.1 HI.out.2 rfl Hb8.out (Nat.le_of_ble_eq_true rfl) rfl ?_; intro w2 hb2 hk2)
                 have f0 := (blk_cell hb2 0).trans rfl
                 have f1 := (blk_cell hb2 1).trans rfl
                 have f2 := (blk_cell hb2 2).trans rfl
                 have HK2 := Lib.hid (show Keeps Nob wr w2 from hk1.own hk2 hg8)
                 clear hb2
                 (try simp only [Act.put, List.setIfInBounds_toArray, List.set_cons_zero, List.set_cons_succ]))
              | (go_at_call 18; go_must (refine (AskR_any Hsinv.out w2 Xk eb ib mb aq 1073741824 (by decide) (Heng.out.after HK2.out) (fun b hb => Nat.lt_of_lt_of_le (hst.out.xx b hb).2 HK2.out.size)).mono ?_; rintro e w3 ⟨X3, wl3, rfl, hx3, hxl3, hk3, he3, -, -⟩); (try simp only [Act.put, List.setIfInBounds_toArray, List.set_cons_zero, List.set_cons_succ]))
            )
            rw [askR_ans] at he3
            refine ⟨⟨k + 1, X3, by go_num, by omega, by omega, Lib.hid (hst.out.wrote HK2.out hk3 (fun i hi => .inr (.inr hi)) hx3 hxl3 (S := (E, askS E ans aq 1073741824)) (by rw [Hsucc.out]; unfold stepA; rw [if_neg (by show ¬ d % 8 < 3; rw [Hm.out]; decide), if_neg (by show ¬ d % 8 = 3; rw [Hm.out]; decide)]; first | (rw [if_pos (by show d % 8 = 4; rw [Hm.out])]; done) | rw [if_neg (by show ¬ d % 8 = 4; rw [Hm.out]; decide)]) he3)⟩, by simp [intOf]; omega⟩
          · skip
            go_wp2_with (first
              | ((with_reducible refine at_dst (N := 8) rfl ?_); go_must (refine ev_alloc rfl rfl zero56 rfl ?_; intro g8 w1 hg8 hl8 hb8 hk1); have Hb8 := Lib.hid hb8; clear hb8; (try simp only [Act.put, List.setIfInBounds_toArray, List.set_cons_zero, List.set_cons_succ]))
              | ((with_reducible refine at_store (t := 56) rfl ?_); go_must (refine ev_store (cs' := #[.int .u8 d, .int .i64 aq, .int .i64 av]) rfl rfl rfl rfl rfl rfl HI.out.1 HI.out.2 rfl Hb8.out (Nat.le_of_ble_eq_true rfl) rfl ?_; intro w2 hb2 hk2)
                 have f0 := (blk_cell hb2 0).trans rfl
                 have f1 := (blk_cell hb2 1).trans rfl
                 have f2 := (blk_cell hb2 2).trans rfl
                 have HK2 := Lib.hid (show Keeps Nob wr w2 from hk1.own hk2 hg8)
                 clear hb2
                 (try simp only [Act.put, List.setIfInBounds_toArray, List.set_cons_zero, List.set_cons_succ]))
              | (go_at_call 18; go_must (refine (AskR_any Hsinv.out w2 Xk eb ib mb aq 1073741824 (by decide) (Heng.out.after HK2.out) (fun b hb => Nat.lt_of_lt_of_le (hst.out.xx b hb).2 HK2.out.size)).mono ?_; rintro e w3 ⟨X3, wl3, rfl, hx3, hxl3, hk3, he3, -, -⟩); (try simp only [Act.put, List.setIfInBounds_toArray, List.set_cons_zero, List.set_cons_succ]))
            )
            rw [askR_ans] at he3
            refine ⟨⟨k + 1, X3, by go_num, by omega, by omega, Lib.hid (hst.out.wrote HK2.out hk3 (fun i hi => .inr (.inr hi)) hx3 hxl3 (S := (E, askS E ans aq 1073741824)) (by rw [Hsucc.out]; unfold stepA; rw [if_neg (by show ¬ d % 8 < 3; rw [Hm.out]; decide), if_neg (by show ¬ d % 8 = 3; rw [Hm.out]; decide)]; first | (rw [if_pos (by show d % 8 = 4; rw [Hm.out])]; done) | rw [if_neg (by show ¬ d % 8 = 4; rw [Hm.out]; decide)]) he3)⟩, by simp [intOf]; omega⟩
          · skip
            go_wp2_with (first
              | ((with_reducible refine at_dst (N := 8) rfl ?_); go_must (refine ev_alloc rfl rfl zero56 rfl ?_; intro g8 w1 hg8 hl8 hb8 hk1); have Hb8 := Lib.hid hb8; clear hb8; (try simp only [Act.put, List.setIfInBounds_toArray, List.set_cons_zero, List.set_cons_succ]))
              | ((with_reducible refine at_store (t := 56) rfl ?_); go_must (refine ev_store (cs' := #[.int .u8 d, .int .i64 aq, .int .i64 av]) rfl rfl rfl rfl rfl rfl HI.out.1 HI.out.2 rfl Hb8.out (Nat.le_of_ble_eq_true rfl) rfl ?_; intro w2 hb2 hk2)
                 have f0 := (blk_cell hb2 0).trans rfl
                 have f1 := (blk_cell hb2 1).trans rfl
                 have f2 := (blk_cell hb2 2).trans rfl
                 have HK2 := Lib.hid (show Keeps Nob wr w2 from hk1.own hk2 hg8)
                 clear hb2
                 (try simp only [Act.put, List.setIfInBounds_toArray, List.set_cons_zero, List.set_cons_succ]))
              | (go_at_call 18; go_must (refine (AskR_any Hsinv.out w2 Xk eb ib mb aq 1073741824 (by decide) (Heng.out.after HK2.out) (fun b hb => Nat.lt_of_lt_of_le (hst.out.xx b hb).2 HK2.out.size)).mono ?_; rintro e w3 ⟨X3, wl3, rfl, hx3, hxl3, hk3, he3, -, -⟩); (try simp only [Act.put, List.setIfInBounds_toArray, List.set_cons_zero, List.set_cons_succ]))
            )
            rw [askR_ans] at he3
            refine ⟨⟨k + 1, X3, by go_num, by omega, by omega, Lib.hid (hst.out.wrote HK2.out hk3 (fun i hi => .inr (.inr hi)) hx3 hxl3 (S := (E, askS E ans aq 1073741824)) (by rw [Hsucc.out]; unfold stepA; rw [if_neg (by show ¬ d % 8 < 3; rw [Hm.out]; decide), if_neg (by show ¬ d % 8 = 3; rw [Hm.out]; decide)]; first | (rw [if_pos (by show d % 8 = 4; rw [Hm.out])]; done) | rw [if_neg (by show ¬ d % 8 = 4; rw [Hm.out]; decide)]) he3)⟩, by simp [intOf]; omega⟩
        · have hk' : k = 60 := by omega
          subst hk'
          go_wp2
          go_ret
          exact ⟨hst.out.keep, fun h => absurd Hc.out h, fun _ => ⟨eb, ib, mb, Xk, rfl, hst.out.eng, hst.out.xx, hst.out.be.1, hst.out.be.2.1, hst.out.be.2.2⟩⟩
      · have hk' : k = al := by omega
        subst hk'
        have Hend := Lib.hid (show playedTo rs acts k = playedF rs acts by rw [← Hal.out]; rcases playedTo_end (rs := rs) (acts := acts) with h | h; exact h; exact absurd h (by have := Hal.out; omega))
        go_wp2
        go_ret
        refine ⟨hst.out.keep, fun h => absurd Hc.out h, fun _ => ⟨eb, ib, mb, Xk, rfl, ?_, hst.out.xx, hst.out.be.1, hst.out.be.2.1, hst.out.be.2.2⟩⟩
        rw [← Hend.out]
        exact hst.out.eng
  · have hne : ((check rs).2 != 0) = true := by simpa using hc
    have Hc := Lib.hid hc
    clear hc
    go_enter Tryd.func16, Tryd.ntmps16
    go_wp2_with (go_at_call 23; go_must (refine hnew.out.mono ?_; rintro e w1 ⟨hk1, hx, -⟩; obtain rfl := hx Hc.out))
    go_ret
    exact ⟨hk1, fun _ => rfl, fun h => absurd h Hc.out⟩
end Go.Proofs.QW
