/-
  Plain, in memory: the model's asking of a new engine. Condition: the table of kinds lies as it is laid.
-/
import Derived.Test.YtohpkolkagddiaaDoorQ14
namespace Go.Proofs.QW
open Go.RowKit Go.Proofs.KL Go.Proofs.QM
set_option maxRecDepth 100000
set_option linter.unusedSimpArgs false
set_option linter.unusedVariables false

set_option maxHeartbeats 2000000 in
/-- Ask of a question that there is not. -/
theorem Ask_none {E : Env} (w : World) (X : Nat → Prop) (eb ib mb : Nat) (ans : List (Option KeptR)) (q most : Int) (he : EngAt w X eb ib mb E ans) (h200 : E.rules.length ≤ 200) (hq : q < 0 ∨ (E.rules.length : Int) ≤ q) :
    Calls Tryd.prog 18 #[.pointer (some ⟨eb, 0, none⟩), .int .i64 q, .int .i64 most] w fun e w' => e = .returned (.tuple #[.int .i64 0, .slice none 0 0, .int .i64 5]) ∧ Keeps Nob w w' := by
  obtain ⟨A, cc, cc', b0, b1, b2, b3, hrx⟩ := he.cells
  obtain ⟨i3, hi3, hs3⟩ := infoS3
  obtain ⟨i23, hi23, hs23⟩ := info23
  obtain ⟨i25, hi25, hs25⟩ := info25
  have HI := Lib.hid (And.intro (And.intro hi3 hs3) (And.intro (And.intro hi23 hs23) (And.intro hi25 hs25)))
  have hE0 : isErr E.rules.length q = 5 := if_pos hq
  have HE0 := Lib.hid hE0
  have hmf : ∀ (fn : Fn) (first cap : Array Value) (w : World), (Instr.makeFunc fn first cap).run Tryd.prog w = .ok (.func fn first cap) w := fun _ _ _ _ => rfl
  clear hi3 hs3 hi23 hs23 hi25 hs25 hE0 hrx he b1 b3 hq
  go_enter_defers Tryd.func18, Tryd.ntmps18
  go_wp2_with (first
    | ((with_reducible refine at_dst (N := 6) rfl ?_); go_must (refine ev_alloc rfl rfl zero3 rfl ?_; intro g6 w1 hg6 hl6 hb6 hk1); have Hb6 := Lib.hid hb6; clear hb6; (try simp only [Act.put, List.setIfInBounds_toArray, List.set_cons_zero, List.set_cons_succ]))
    | ((with_reducible refine at_dst (N := 7) rfl ?_); go_must (refine ev_alloc rfl rfl zero23 rfl ?_; intro g7 w2 hg7 hl7 hb7 hk2); have Hb7 := Lib.hid hb7; clear hb7; (try simp only [Act.put, List.setIfInBounds_toArray, List.set_cons_zero, List.set_cons_succ]))
    | ((with_reducible refine at_dst (N := 8) rfl ?_); go_must (refine ev_alloc rfl rfl zero25 rfl ?_; intro g8 w3 hg8 hl8 hb8 hk3); have Hb8 := Lib.hid hb8; clear hb8
       have b0 := hk3.cell (hk2.cell (hk1.cell b0 id) id) id
       have b2 := hk3.cell (hk2.cell (hk1.cell b2 id) id) id
       (try simp only [Act.put, List.setIfInBounds_toArray, List.set_cons_zero, List.set_cons_succ]))
    | (go_at_call 38; go_must (refine (is_some eb mb q A E.rules.length cc w3 b2 b0 h200).mono ?_; rintro e w' ⟨rfl, rfl⟩; rw [HE0.out]))
    | ((with_reducible refine at_store (t := 3) rfl ?_); go_must (refine ev_store (cs' := #[.int .i64 0]) rfl rfl rfl rfl rfl rfl HI.out.1.1 HI.out.1.2 rfl (hk3.blk (hk2.blk Hb6.out id) id) (Nat.le_of_ble_eq_true rfl) rfl ?_; intro w4 hb4 hk4); (try simp only [Act.put, List.setIfInBounds_toArray, List.set_cons_zero, List.set_cons_succ]))
    | ((with_reducible refine at_store (t := 23) rfl ?_); go_must (refine ev_store (cs' := #[.slice none 0 0]) rfl rfl rfl rfl rfl rfl HI.out.2.1.1 HI.out.2.1.2 rfl (hk4.blk (hk3.blk Hb7.out id) (by show g7 ≠ g6; omega)) (Nat.le_of_ble_eq_true rfl) rfl ?_; intro w5 hb5 hk5); (try simp only [Act.put, List.setIfInBounds_toArray, List.set_cons_zero, List.set_cons_succ]))
    | ((with_reducible refine at_store (t := 25) rfl ?_); go_must (refine ev_store (cs' := #[.int .i64 5]) rfl rfl rfl rfl rfl rfl HI.out.2.2.1 HI.out.2.2.2 rfl (hk5.blk (hk4.blk Hb8.out (by show g8 ≠ g6; have := hk2.size; omega)) (by show g8 ≠ g7; omega)) (Nat.le_of_ble_eq_true rfl) rfl ?_; intro w6 hb6' hk6); (try simp only [Act.put, List.setIfInBounds_toArray, List.set_cons_zero, List.set_cons_succ])))
  have z1 := hk1.size
  have z2 := hk2.size
  have z3 := hk3.size
  have r6 : w6.cell? ⟨g6, 0, none⟩ = some (.int .i64 0) := (blk_cell (hk6.blk (hk5.blk hb4 (by show g6 ≠ g7; omega)) (by show g6 ≠ g8; omega)) 0).trans rfl
  have r7 : w6.cell? ⟨g7, 0, none⟩ = some (.slice none 0 0) := (blk_cell (hk6.blk hb5 (by show g7 ≠ g8; omega)) 0).trans rfl
  have r8 : w6.cell? ⟨g8, 0, none⟩ = some (.int .i64 5) := (blk_cell hb6' 0).trans rfl
  (try simp only [Exit.inBlock, Exit.then])
  refine ⟨_, results_cells3 (x := .int .i64 0) (y := .slice none 0 0) (z := .int .i64 5) rfl _ _ rfl rfl rfl (by go_simp) (by go_simp) (by go_simp), rfl, ?_⟩
  exact (((((hk1.trans hk2 (fun _ _ h => h)).trans hk3 (fun _ _ h => h)).own hk4 (by omega)).own hk5 (by omega)).own hk6 (by omega))

def badAt (rs : List QRule) (vs : List Int) (i : Nat) : Bool := (rs.getD i default).kind == 1 && (decide (vs.getD i 0 < 0) || decide (1048576 < vs.getD i 0))
def badV (rs : List QRule) (vs : List Int) : Bool := (List.range rs.length).any (badAt rs vs)
def envP (rs : List QRule) (vs : List Int) (most : Int) : Env := ⟨rs, vs, List.replicate rs.length 0, 0, most⟩
def endOf (r : PS × Except Int (Int × Int)) : Int × Int := (match r.2 with | .ok x => x.1 | .error _ => 0, match r.2 with | .ok _ => 0 | .error c => c)
/-- Plain, as a model. -/
def plainF (rs : List QRule) (vs : List Int) (q : Int) : Int × Int :=
  if (check rs).2 ≠ 0 then (0, (check rs).2)
  else if vs.length ≠ rs.length then (0, 2)
  else if badV rs vs = true then (0, 2)
  else if q < 0 ∨ (rs.length : Int) ≤ q then (0, 5)
  else endOf (askF (envP rs vs rs.length) (rs.length + 1) [] ⟨List.replicate rs.length none, []⟩ q)
def ldF (vs : List Int) (n : Nat) : Nat → List Int
  | 0 => List.replicate n 0
  | k + 1 => (ldF vs n k).set k (vs.getD k 0)
theorem ldF_length (vs : List Int) (n : Nat) : ∀ k, (ldF vs n k).length = n
  | 0 => by simp [ldF]
  | k + 1 => by simp [ldF, ldF_length vs n k]
theorem ldF_get (vs : List Int) (n : Nat) : ∀ k i, k ≤ n → i < n → (ldF vs n k).getD i 0 = if i < k then vs.getD i 0 else 0
  | 0, i, _, hi => by rw [ldF, getD_replicate]; simp
  | k + 1, i, hk, hi => by
    rw [ldF, getD_set (by rw [ldF_length]; omega), ldF_get vs n k i (by omega) hi]
    by_cases e : i = k
    · subst e; rw [if_pos rfl, if_pos (by omega)]
    · rw [if_neg e]
      by_cases h : i < k
      · rw [if_pos h, if_pos (by omega)]
      · rw [if_neg h, if_neg (by omega)]
theorem ldF_all {vs : List Int} {n : Nat} (h : vs.length = n) : ldF vs n n = vs := by
  apply List.ext_getElem (by rw [ldF_length, h])
  intro i h1 h2
  have := ldF_get vs n n i (Nat.le_refl _) (by omega)
  rw [if_pos (by omega), List.getD_eq_getElem?_getD, List.getElem?_eq_getElem h1, List.getD_eq_getElem?_getD, List.getElem?_eq_getElem h2] at this
  exact this
theorem envP_ok {rs : List QRule} {vs : List Int} (hc : (check rs).2 = 0) (hl : vs.length = rs.length) (hb : ∀ i, i < rs.length → badAt rs vs i = false) (most : Int) (h0 : 0 ≤ most) (h1 : most ≤ 9223372036854775807) : EnvOk (envP rs vs most) := by
  obtain ⟨h200, hrok⟩ := check_ok hc
  refine ⟨h200, hrok, hl, by simp [envP], fun q h0 h1 hk => ?_, Int.le_refl _, by simp [envP], h0, h1⟩
  have hq : q.toNat < rs.length := by simp only [envP] at h1; omega
  have hb := hb q.toNat hq
  have hk' : (rs.getD q.toNat default).kind = 1 := hk
  unfold badAt at hb
  rw [hk'] at hb
  simp only [envP, List.getD_eq_getElem?_getD]
  simp at hb
  omega
theorem EngAt.input {w w' : World} {X : Nat → Prop} {eb ib mb : Nat} {E : Env} {ans : List (Option KeptR)} {cs : Array Value} {k : Nat} {v : Int} (he : EngAt w X eb ib mb E ans) (hk : Keeps (· = ib) w w') (hib : w.heap[ib]? = some (.cells cs 85 (0, 0))) (hb : w'.heap[ib]? = some (.cells (splice cs (k * 4) (.int .i64 v)) 85 (0, 0)))
    (hkn : k < E.rules.length) (hl : E.inp.length = E.rules.length) : EngAt w' X eb ib mb { E with inp := E.inp.set k v } ans := by
  obtain ⟨⟨rv, c, heb, hrx⟩, ⟨cs0, hib0, hci⟩, hans, xe, xi, xm⟩ := he
  obtain rfl : cs0 = cs := by have := hib0.symm.trans hib; injection this with this; injection this
  obtain ⟨es, cl, hmb, _⟩ := id hans
  have nei : eb ≠ ib := fun e => by subst e; have := heb.symm.trans hib; injection this with this; injection this with _ h2 _; exact absurd h2 (by decide)
  have nmi : mb ≠ ib := fun e => by rw [e] at hmb; have := hmb.symm.trans hib; injection this with this; cases this
  have hX : ∀ b, b < w.heap.size → X b → ¬ b = ib := fun b _ hx e => xi (e ▸ hx)
  exact ⟨⟨rv, c, hk.blk heb nei, hrx.keep hk hX (fun _ _ h => h)⟩, ⟨_, hb, InpC.value (n := E.rules.length) hci hkn hl v⟩, hans.keep hk nmi hX (fun _ _ h => h), xe, xi, xm⟩
theorem PInv.fresh (rs : List QRule) (vs : List Int) (most : Int) (h0 : 0 ≤ most) : PInv (envP rs vs most) [] ⟨List.replicate rs.length none, []⟩ := by
  refine ⟨by simp [envP], fun q k hq hk => ?_, List.nodup_nil, fun q h => (by cases h), h0, fun q h => (by cases h), List.nodup_nil, fun q h => (by cases h)⟩
  unfold PS.get at hk
  rw [getD_replicate] at hk
  cases hk
set_option maxHeartbeats 4000000 in
/-- PLAIN. -/
theorem Plain_any (rs : List QRule) (vs : List Int) (q : Int) (w : World) (X X' : Nat → Prop) (rv iv : Value) (hr : RulesX w X rv rs) (hv : IntsX w X' iv vs) (ht : rs.length ≤ 200 → Tab w) :
    Calls Tryd.prog 15 #[rv, iv, .int .i64 q] w fun e w' => e = .returned (.tuple #[.int .i64 (plainF rs vs q).1, .int .i64 (plainF rs vs q).2]) ∧ Keeps Nob w w' := by
  have hrun := Lib.hid (Check_any rs w X rv hr ht)
  obtain ⟨R, hR⟩ : ∃ r, plainF rs vs q = r := ⟨_, rfl⟩
  obtain ⟨i3, hi3, hs3⟩ := infoS3
  have HI := Lib.hid (And.intro hi3 hs3)
  clear hi3 hs3
  rw [hR]
  unfold plainF at hR
  have HR := Lib.hid hr
  have HV := Lib.hid hv
  have HT := Lib.hid ht
  obtain ⟨rA, rc, rfl, -, -⟩ := id hr
  obtain ⟨vA, vc, rfl, -, hvc⟩ := id hv
  have Hvc := Lib.hid hvc
  have hcc := Lib.hid (@check_ok rs)
  have hcf := Lib.hid (@envP_ok rs vs)
  have hnew := Lib.hid (fun w hr ht => New_any rs w X (.slice rA rs.length rc) hr ht)
  rcases hc : check rs with ⟨c1, c2⟩
  rw [hc] at hrun hR hcc hcf
  simp only [hc] at hnew
  dsimp only at hR hcc hcf
  have HRR := Lib.hid hR
  clear hr hv ht hR hc hvc
  by_cases h0 : c2 = 0
  · subst h0
    have hr := HRR.out
    rw [if_neg (by decide)] at hr
    have h200 : rs.length ≤ 200 := (hcc.out rfl).1
    by_cases hl : vs.length = rs.length
    · rw [if_neg (by simp [hl])] at hr
      have HR2 := Lib.hid hr
      have Hl := Lib.hid hl
      have hlb : ((vs.length : Int) != (rs.length : Int)) = false := by simp [hl]
      clear hr HRR hl
      go_enter Tryd.func15, Tryd.ntmps15
      go_wp2_with (first
        | (go_at_call 22; go_must (refine hrun.out.mono ?_; rintro e w1 ⟨rfl, hk1⟩))
        | (go_at_call 23; go_must (refine (hnew.out w1 (HR.out.keep hk1 (fun _ _ _ => id) (fun _ _ h => h)) (fun h => (HT.out h).keep hk1 id)).mono ?_; rintro e w2 ⟨hk2, -, hok⟩; obtain ⟨eb, ib, mb, Y, rfl, heng, hY, neb, nib, nmb⟩ := hok trivial); clear hok))
      have Heng := Lib.hid (heng rs.length)
      have HY := Lib.hid hY
      have z1 := hk1.size
      have HKw := Lib.hid (hk1.trans hk2 (fun _ _ h => h))
      clear heng hY hk1 hk2 hnew hrun HR HT hlb
      go_loopw [38] (fun v wr => ∃ k : Nat, v = .int .i64 k ∧ k ≤ rs.length ∧ Hid (Keeps (fun b => b = ib) w2 wr) ∧ Hid (EngAt wr Y eb ib mb (envP rs (ldF vs rs.length k) rs.length) (List.replicate rs.length none)) ∧ Hid (∀ i, i < k → badAt rs vs i = false))
        (fun v _ => rs.length - (intOf v).toNat)
      case atStart => exact ⟨0, rfl, Nat.zero_le _, Lib.hid (Keeps.refl _ _), Heng, Lib.hid (fun i h => absurd h (by omega))⟩
      case round =>
        obtain ⟨k, rfl, hk, hkeep, he, hgood⟩ := hrel
        by_cases hlt : k < rs.length
        · obtain ⟨b, o, rfl, _, hcw⟩ := Hvc.out k (by rw [Hl.out]; exact hlt)
          have lb := World.block_lt_of_cell? _ _ hcw
          dsimp only at lb
          have hcw := hkeep.out.cell (HKw.out.cell hcw id) (by show b ≠ ib; omega)
          obtain ⟨A, cc, cc', b0, b1, b2, b3, hrx⟩ := he.out.cells
          have hinp := Lib.hid (input_any eb k rs Y _ wr b0 hrx (by omega) (by omega) h200)
          have hlv : (k : Int) < vs.length := by have := Hl.out; omega
          have hli : (k : Int) < (envP rs (ldF vs rs.length k) rs.length).rules.length := by show (k : Int) < rs.length; omega
          simp only [Int.toNat_natCast] at hinp
          have hbk := Lib.hid (show badAt rs vs k = ((rs.getD k default).kind == 1 && (decide (vs.getD k 0 < 0) || decide (1048576 < vs.getD k 0))) from rfl)
          obtain ⟨kb, hkb⟩ : ∃ x, ((rs.getD k default).kind == 1) = x := ⟨_, rfl⟩
          obtain ⟨v, hv⟩ : ∃ x, vs.getD k 0 = x := ⟨_, rfl⟩
          have hb2 := hbk.out
          rw [hkb, hv] at hb2
          rw [hkb] at hinp
          rw [hv] at hcw
          have Hv := Lib.hid hv
          clear hbk hkb hv hrx b2 b3
          by_cases hbad : kb = true ∧ (v < 0 ∨ 1048576 < v)
          · obtain ⟨rfl, hbv⟩ := hbad
            have hbk := Lib.hid (show badAt rs vs k = true by rw [hb2]; simp; omega)
            clear hb2
            by_cases h1 : v < 0
            · clear hbv
              go_wp2_with (go_at_call 37; go_must (refine hinp.out.mono ?_; rintro e w' ⟨rfl, rfl⟩))
              go_ret2
              have hbad : badV rs vs = true := List.any_eq_true.2 ⟨k, List.mem_range.2 hlt, by rw [hbk.out]⟩
              have hr := HR2.out
              rw [if_pos hbad] at hr
              exact ⟨by rw [← hr]; rfl, HKw.out.trans hkeep.out (fun i hi e => by omega)⟩
            · have h2 : 1048576 < v := by omega
              clear hbv
              go_wp2_with (go_at_call 37; go_must (refine hinp.out.mono ?_; rintro e w' ⟨rfl, rfl⟩))
              go_ret2
              have hbad : badV rs vs = true := List.any_eq_true.2 ⟨k, List.mem_range.2 hlt, by rw [hbk.out]⟩
              have hr := HR2.out
              rw [if_pos hbad] at hr
              exact ⟨by rw [← hr]; rfl, HKw.out.trans hkeep.out (fun i hi e => by omega)⟩
          · have hgk := Lib.hid (show badAt rs vs k = false by
              rw [hb2]
              cases kb with
              | false => rfl
              | true => simp at hbad ⊢; omega)
            clear hb2
            obtain ⟨cs, hib, hci⟩ := id he.out.inp
            have lsz := InpC.lt (n := rs.length) hci hlt
            have hib := Lib.hid hib
            have hld := Lib.hid (show envP rs (ldF vs rs.length (k + 1)) rs.length = { envP rs (ldF vs rs.length k) rs.length with inp := (envP rs (ldF vs rs.length k) rs.length).inp.set k v } by simp only [envP, ldF, Hv.out])
            clear hci
            cases kb with
            | false =>
              go_wp2_with (first
                | (go_at_call 37; go_must (refine hinp.out.mono ?_; rintro e w' ⟨rfl, rfl⟩))
                | ((with_reducible refine at_store (t := 3) rfl ?_); go_must (refine ev_store (cs' := splice cs (k * 4) (.int .i64 v)) (vs := [.int .i64 v]) rfl rfl rfl rfl rfl rfl HI.out.1 HI.out.2 rfl hib.out (by show k * 4 + 1 ≤ _; omega) rfl ?_; intro w5 hb5 hk5); (try simp only [Act.put, List.setIfInBounds_toArray, List.set_cons_zero, List.set_cons_succ])))
              go_roundw
              case rel => exact ⟨k + 1, by go_num, by omega, Lib.hid (hkeep.out.trans hk5 (fun _ _ e => e)), Lib.hid (by rw [hld.out]; exact EngAt.input he.out hk5 hib.out hb5 hlt (by show (ldF vs rs.length k).length = rs.length; exact ldF_length _ _ _)), Lib.hid (fun i hi => by
                by_cases e : i = k
                · rw [e]; exact hgk.out
                · exact hgood.out i (by omega))⟩
              case measure => simp [intOf]; omega
            | true =>
              have v0 : ¬ v < 0 := fun h => hbad ⟨rfl, .inl h⟩
              have v1 : ¬ 1048576 < v := fun h => hbad ⟨rfl, .inr h⟩
              clear hbad
              go_wp2_with (first
                | (go_at_call 37; go_must (refine hinp.out.mono ?_; rintro e w' ⟨rfl, rfl⟩))
                | ((with_reducible refine at_store (t := 3) rfl ?_); go_must (refine ev_store (cs' := splice cs (k * 4) (.int .i64 v)) (vs := [.int .i64 v]) rfl rfl rfl rfl rfl rfl HI.out.1 HI.out.2 rfl hib.out (by show k * 4 + 1 ≤ _; omega) rfl ?_; intro w5 hb5 hk5); (try simp only [Act.put, List.setIfInBounds_toArray, List.set_cons_zero, List.set_cons_succ])))
              go_roundw
              case rel => exact ⟨k + 1, by go_num, by omega, Lib.hid (hkeep.out.trans hk5 (fun _ _ e => e)), Lib.hid (by rw [hld.out]; exact EngAt.input he.out hk5 hib.out hb5 hlt (by show (ldF vs rs.length k).length = rs.length; exact ldF_length _ _ _)), Lib.hid (fun i hi => by
                by_cases e : i = k
                · rw [e]; exact hgk.out
                · exact hgood.out i (by omega))⟩
              case measure => simp [intOf]; omega
        · have hk' : k = rs.length := by omega
          subst hk'
          have hnl : ¬ (rs.length : Int) < vs.length := by have := Hl.out; omega
          have hbf : badV rs vs = false := by
            unfold badV
            rw [List.any_eq_false]
            intro i hi
            rw [hgood.out i (List.mem_range.1 hi)]
            decide
          have hr := HR2.out
          rw [hbf, if_neg (by decide)] at hr
          have he' := he.out
          rw [ldF_all Hl.out] at he'
          by_cases hq : q < 0 ∨ (rs.length : Int) ≤ q
          · rw [if_pos hq] at hr
            have hask := Lib.hid (Ask_none wr Y eb ib mb _ q rs.length he' h200 hq)
            have HR3 := Lib.hid hr
            clear hr hq he' hbf
            go_wp2_with (go_at_call 18; go_must (refine hask.out.mono ?_; rintro e w4 ⟨rfl, hk4⟩))
            go_ret2
            exact ⟨by rw [← HR3.out]; rfl, (HKw.out.trans hkeep.out (fun i hi e => by omega)).trans hk4 (fun _ _ h => h)⟩
          · rw [if_neg hq] at hr
            have hE := hcf.out trivial Hl.out (fun i hi => hgood.out i hi) rs.length (by omega) (by omega)
            have hiq : InQ (envP rs vs rs.length) q := ⟨by omega, by show q < (rs.length : Int); omega⟩
            have hask0 := Ask_any hE wr Y eb ib mb (List.replicate rs.length none) q he' (fun k hk => by have := HY.out k hk; have := hkeep.out.size; omega) (PInv.fresh rs vs _ (by omega)) hiq
            have hask : Hid (Calls Tryd.prog 18 #[.pointer (some ⟨eb, 0, none⟩), .int .i64 q, .int .i64 rs.length] wr fun e w' => ∃ wl, e = .returned (.tuple #[.int .i64 R.1, wl, .int .i64 R.2]) ∧ Keeps (· = mb) wr w') := Lib.hid (hask0.mono (fun e w' h => by
              obtain ⟨X'', wl, he, _, _, hk, _⟩ := h
              exact ⟨wl, by rw [← hr]; exact he, hk⟩))
            clear hr hq he' hbf hE hiq hask0
            go_wp2_with (go_at_call 18; go_must (refine hask.out.mono ?_; rintro e w4 ⟨wl, rfl, hk4⟩))
            go_ret2
            exact ⟨rfl, (HKw.out.trans hkeep.out (fun i hi e => by omega)).trans hk4 (fun i hi e => by omega)⟩
    · rw [if_pos hl] at hr
      have HR2 := Lib.hid hr
      have hlb : ((vs.length : Int) != (rs.length : Int)) = true := by simp; omega
      clear hr HRR hl
      go_enter Tryd.func15, Tryd.ntmps15
      go_wp2_with (go_at_call 22; go_must (refine hrun.out.mono ?_; rintro e w1 ⟨rfl, hk1⟩))
      go_ret2
      exact ⟨by rw [← HR2.out]; rfl, hk1⟩
  · have hr := HRR.out
    rw [if_pos h0] at hr
    have HR2 := Lib.hid hr
    clear hr
    have h0' : (c2 != 0) = true := by simpa using h0
    go_enter Tryd.func15, Tryd.ntmps15
    go_wp2_with (go_at_call 22; go_must (refine hrun.out.mono ?_; rintro e w1 ⟨rfl, hk1⟩))
    go_ret2
    exact ⟨by rw [← HR2.out]; rfl, hk1⟩
end Go.Proofs.QW
