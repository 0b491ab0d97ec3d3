/-
  Setting an input (Set) and the revision (Revision), in memory. No condition.
-/
import Derived.Test.YtohpkolkagddiaaDoorQ13
namespace Go.Proofs.QW
open Go.RowKit Go.Proofs.KL Go.Proofs.QM
set_option maxRecDepth 100000
set_option linter.unusedSimpArgs false
set_option linter.unusedVariables false

def splice (cs : Array Value) (off : Nat) (v : Value) : Array Value := (cs.toList.take off ++ [v] ++ cs.toList.drop (off + 1)).toArray
theorem splice_get {cs : Array Value} {off : Nat} {v : Value} (h : off < cs.size) (j : Nat) : (splice cs off v)[j]? = if j = off then some v else cs[j]? := by
  unfold splice
  have e : cs.toList.take off ++ [v] ++ cs.toList.drop (off + 1) = cs.toList.set off v := by
    rw [List.set_eq_take_append_cons_drop, if_pos (by simpa using h), List.append_assoc]; rfl
  rw [e, List.getElem?_toArray, List.getElem?_set]
  by_cases hj : j = off
  · subst hj; rw [if_pos rfl, if_pos rfl, if_pos (by simpa using h)]
  · rw [if_neg (fun h => hj h.symm), if_neg hj]; simp
theorem splice_size {cs : Array Value} {off : Nat} {v : Value} (h : off < cs.size) : (splice cs off v).size = cs.size := by
  unfold splice
  have : off < cs.toList.length := by simpa using h
  simp; omega
/-- The cells of inputs. -/
def InpC (cs : Array Value) (n : Nat) (inp ch : List Int) : Prop := ∀ i, i < n → cs[i * 4]? = some (.int .i64 (inp.getD i 0)) ∧ cs[i * 4 + 1]? = some (.slice none 0 0) ∧ cs[i * 4 + 2]? = some (.int .i64 0) ∧ cs[i * 4 + 3]? = some (.int .i64 (ch.getD i 0))
theorem InpC.lt {cs : Array Value} {n : Nat} {inp ch : List Int} (h : InpC cs n inp ch) {q : Nat} (hq : q < n) : q * 4 + 3 < cs.size := (Array.getElem?_eq_some_iff.1 (h q hq).2.2.2).1
theorem getD_set {l : List Int} {q i : Nat} {v : Int} (h : q < l.length) : (l.set q v).getD i 0 = if i = q then v else l.getD i 0 := by
  rw [List.getD_eq_getElem?_getD, List.getElem?_set]
  by_cases e : i = q
  · subst e; rw [if_pos rfl, if_pos h, if_pos rfl]; rfl
  · rw [if_neg (fun h => e h.symm), if_neg e, List.getD_eq_getElem?_getD]
theorem InpC.value {cs : Array Value} {n : Nat} {inp ch : List Int} (h : InpC cs n inp ch) {q : Nat} (hq : q < n) (hl : inp.length = n) (v : Int) : InpC (splice cs (q * 4) (.int .i64 v)) n (inp.set q v) ch := by
  intro i hi
  have hlt := h.lt hq
  obtain ⟨h0, h1, h2, h3⟩ := h i hi
  have e := fun j => splice_get (cs := cs) (off := q * 4) (v := .int .i64 v) (by omega) j
  refine ⟨?_, ?_, ?_, ?_⟩
  · rw [e, getD_set (by omega)]
    by_cases hiq : i = q
    · rw [if_pos (by omega), if_pos hiq]
    · rw [if_neg (by omega), if_neg hiq, h0]
  · rw [e, if_neg (by omega), h1]
  · rw [e, if_neg (by omega), h2]
  · rw [e, if_neg (by omega), h3]
theorem InpC.change {cs : Array Value} {n : Nat} {inp ch : List Int} (h : InpC cs n inp ch) {q : Nat} (hq : q < n) (hl : ch.length = n) (v : Int) : InpC (splice cs (q * 4 + 3) (.int .i64 v)) n inp (ch.set q v) := by
  intro i hi
  have hlt := h.lt hq
  obtain ⟨h0, h1, h2, h3⟩ := h i hi
  have e := fun j => splice_get (cs := cs) (off := q * 4 + 3) (v := .int .i64 v) (by omega) j
  refine ⟨?_, ?_, ?_, ?_⟩
  · rw [e, if_neg (by omega), h0]
  · rw [e, if_neg (by omega), h1]
  · rw [e, if_neg (by omega), h2]
  · rw [e, getD_set (by omega)]
    by_cases hiq : i = q
    · rw [if_pos (by omega), if_pos hiq]
    · rw [if_neg (by omega), if_neg hiq, h3]
def setF (E : Env) (q v : Int) : Env × Int :=
  if isErr E.rules.length q ≠ 0 then (E, 5)
  else if (E.rule q).kind ≠ 1 ∨ v < 0 ∨ 1048576 < v then (E, 2)
  else if E.inp.getD q.toNat 0 ≠ v then ({ E with inp := E.inp.set q.toNat v, inpCh := E.inpCh.set q.toNat (E.rev + 1), rev := E.rev + 1 }, 0)
  else (E, 0)
theorem Revision_any {w : World} {X : Nat → Prop} {eb ib mb : Nat} {E : Env} {ans : List (Option KeptR)} (h : EngAt w X eb ib mb E ans) :
    Calls Tryd.prog 31 #[.pointer (some ⟨eb, 0, none⟩)] w fun e w' => e = .returned (.int .i64 E.rev) ∧ w = w' := by
  obtain ⟨A, cc, cc', b0, b1, b2, b3, hrx⟩ := h.cells
  have hok := ok_some eb mb w b2
  clear hrx h
  go_enter Tryd.func31, Tryd.ntmps31
  go_wp2_with (go_at_call 51; refine hok.mono ?_; rintro e w' ⟨rfl, rfl⟩)
  go_ret
  exact ⟨rfl, rfl⟩
set_option maxHeartbeats 2000000 in
/-- SET. -/
theorem Set_any {E : Env} (hE : EnvOk E) (w : World) (X : Nat → Prop) (eb ib mb : Nat) (ans : List (Option KeptR)) (q v : Int) (he : EngAt w X eb ib mb E ans) :
    Calls Tryd.prog 29 #[.pointer (some ⟨eb, 0, none⟩), .int .i64 q, .int .i64 v] w fun e w' => e = .returned (.int .i64 (setF E q v).2) ∧ Keeps (fun k => k = eb ∨ k = ib) w w' ∧ EngAt w' X eb ib mb (setF E q v).1 ans := by
  obtain ⟨A, cc, cc', b0, b1, b2, b3, hrx⟩ := he.cells
  have h200 := hE.len
  have his := Lib.hid (is_some eb mb q A E.rules.length cc w b2 b0 h200)
  have Hrx := Lib.hid hrx
  have He := Lib.hid he
  have HE := Lib.hid hE
  clear hrx he hE
  obtain ⟨R, hR⟩ : ∃ r, setF E q v = r := ⟨_, rfl⟩
  rw [hR]
  unfold setF at hR
  by_cases hq : q < 0 ∨ (E.rules.length : Int) ≤ q
  · have hE0 : isErr E.rules.length q = 5 := if_pos hq
    rw [hE0] at hR his
    rw [if_pos (by decide)] at hR
    have HR := Lib.hid hR
    clear hR hE0
    go_enter Tryd.func29, Tryd.ntmps29
    go_wp2_with (go_at_call 38; go_must (refine his.out.mono ?_; rintro e w' ⟨rfl, rfl⟩))
    go_ret
    exact ⟨by rw [← HR.out]; rfl, Keeps.refl _ _, by rw [← HR.out]; exact He.out⟩
  have hE0 : isErr E.rules.length q = 0 := if_neg hq
  rw [hE0] at hR his
  rw [if_neg (by decide)] at hR
  obtain ⟨i, rfl⟩ := Int.eq_ofNat_of_zero_le (show 0 ≤ q by omega)
  have hin : i < E.rules.length := by omega
  have hinp := Lib.hid (input_any eb i E.rules X _ w b0 Hrx.out (by omega) (by omega) h200)
  have hki : (E.rules.getD (i : Int).toNat default).kind = (E.rule i).kind := by simp [Env.rule]
  rw [hki] at hinp
  obtain ⟨kd, hkd⟩ : ∃ x, (E.rule i).kind = x := ⟨_, rfl⟩
  rw [hkd] at hinp hR
  clear hE0 hki hkd
  by_cases hbad : kd ≠ 1 ∨ v < 0 ∨ 1048576 < v
  · rw [if_pos hbad] at hR
    have HR := Lib.hid hR
    clear hR
    by_cases h1 : kd = 1
    · have hkb : (kd == 1) = true := by simp [h1]
      rw [hkb] at hinp
      by_cases h2 : v < 0
      · clear hbad h1 hkb
        go_enter Tryd.func29, Tryd.ntmps29
        go_wp2_with (first | (go_at_call 38; go_must (refine his.out.mono ?_; rintro e w' ⟨rfl, rfl⟩)) | (go_at_call 37; go_must (refine hinp.out.mono ?_; rintro e w' ⟨rfl, rfl⟩)))
        go_ret
        exact ⟨by rw [← HR.out]; rfl, Keeps.refl _ _, by rw [← HR.out]; exact He.out⟩
      · have h3 : 1048576 < v := by omega
        clear hbad h1 hkb
        go_enter Tryd.func29, Tryd.ntmps29
        go_wp2_with (first | (go_at_call 38; go_must (refine his.out.mono ?_; rintro e w' ⟨rfl, rfl⟩)) | (go_at_call 37; go_must (refine hinp.out.mono ?_; rintro e w' ⟨rfl, rfl⟩)))
        go_ret
        exact ⟨by rw [← HR.out]; rfl, Keeps.refl _ _, by rw [← HR.out]; exact He.out⟩
    · have hkb : (kd == 1) = false := by simpa using h1
      rw [hkb] at hinp
      clear hbad h1 hkb
      go_enter Tryd.func29, Tryd.ntmps29
      go_wp2_with (first | (go_at_call 38; go_must (refine his.out.mono ?_; rintro e w' ⟨rfl, rfl⟩)) | (go_at_call 37; go_must (refine hinp.out.mono ?_; rintro e w' ⟨rfl, rfl⟩)))
      go_ret
      exact ⟨by rw [← HR.out]; rfl, Keeps.refl _ _, by rw [← HR.out]; exact He.out⟩
  rw [if_neg hbad] at hR
  have hkb : (kd == 1) = true := by have : kd = 1 := by omega
                                    simp [this]
  rw [hkb] at hinp
  have v0 : ¬ v < 0 := by omega
  have v1 : ¬ 1048576 < v := by omega
  clear hbad hkb
  obtain ⟨cs, hib, hci⟩ := id He.out.inp
  obtain ⟨x0, x1, x2, x3⟩ := hci i hin
  have d0 := (blk_cell hib (i * 4)).trans x0
  have Hib := Lib.hid hib
  have Hci : Hid (InpC cs E.rules.length E.inp E.inpCh) := Lib.hid hci
  clear hib hci x0 x1 x2 x3
  simp only [Int.toNat_natCast] at hR d0
  obtain ⟨iv, hiv⟩ : ∃ x, E.inp.getD i 0 = x := ⟨_, rfl⟩
  rw [hiv] at hR d0
  by_cases hsame : iv = v
  · rw [if_neg (by simp [hsame])] at hR
    have HR := Lib.hid hR
    have hnb : (iv != v) = false := by simp [hsame]
    clear hR hsame hiv
    go_enter Tryd.func29, Tryd.ntmps29
    go_wp2_with (first | (go_at_call 38; go_must (refine his.out.mono ?_; rintro e w' ⟨rfl, rfl⟩)) | (go_at_call 37; go_must (refine hinp.out.mono ?_; rintro e w' ⟨rfl, rfl⟩)))
    go_ret
    exact ⟨by rw [← HR.out]; rfl, Keeps.refl _ _, by rw [← HR.out]; exact He.out⟩
  · rw [if_pos hsame] at hR
    have HR := Lib.hid hR
    have hnb : (iv != v) = true := by simpa using hsame
    obtain ⟨rv, cc2, hb, hrx2⟩ := id He.out.blk
    obtain ⟨rA, rc, rfl, _, _⟩ := id hrx2
    obtain ⟨i3, hi3, hs3⟩ := infoS3
    have hrev := Lib.hid (And.intro HE.out.rev0 HE.out.rev1)
    have hwrap : IntKind.i64.wrap (E.rev + 1) = E.rev + 1 := IntWalk.i64_in _ (by have := hrev.out; omega)
    have HI := Lib.hid (And.intro hi3 hs3)
    have Hb := Lib.hid hb
    have Hrx2 := Lib.hid hrx2
    have nei : eb ≠ ib := fun e => by
      subst e
      have := hb.symm.trans Hib.out
      injection this with this
      injection this with _ h2 _
      exact absurd h2 (by decide)
    have lsz := Hci.out.lt hin
    clear hR hsame hiv hi3 hs3 hb hrx2
    go_enter Tryd.func29, Tryd.ntmps29
    go_wp2_with (first
      | (go_at_call 38; go_must (refine his.out.mono ?_; rintro e w' ⟨rfl, rfl⟩))
      | (go_at_call 37; go_must (refine hinp.out.mono ?_; rintro e w' ⟨rfl, rfl⟩))
      | ((with_reducible refine at_store (t := 3) (p := 47) rfl ?_); go_must (refine ev_store (cs' := #[.slice rA E.rules.length rc, .slice (some ⟨ib, 0, none⟩) E.rules.length cc2, .map (some mb), .int .i64 (E.rev + 1)]) rfl rfl rfl rfl rfl rfl HI.out.1 HI.out.2 rfl Hb.out (Nat.le_of_ble_eq_true rfl) rfl ?_; intro w1 hb1 hk1); have r1 := (blk_cell hb1 3).trans rfl; have Hb1 := Lib.hid hb1; have Hib1 := Lib.hid (hk1.blk Hib.out (fun e => nei e.symm)); clear hb1; (try simp only [Act.put, List.setIfInBounds_toArray, List.set_cons_zero, List.set_cons_succ]))
      | ((with_reducible refine at_store (t := 3) (p := 56) rfl ?_); go_must (refine ev_store (cs' := splice cs (i * 4) (.int .i64 v)) (vs := [.int .i64 v]) rfl rfl rfl rfl rfl rfl HI.out.1 HI.out.2 rfl Hib1.out (by show i * 4 + 1 ≤ _; omega) rfl ?_; intro w2 hb2 hk2); have Hib2 := Lib.hid hb2; clear hb2; (try simp only [Act.put, List.setIfInBounds_toArray, List.set_cons_zero, List.set_cons_succ]))
      | ((with_reducible refine at_store (t := 3) (p := 58) rfl ?_); go_must (refine ev_store (cs' := splice (splice cs (i * 4) (.int .i64 v)) (i * 4 + 3) (.int .i64 (E.rev + 1))) (vs := [.int .i64 (E.rev + 1)]) rfl rfl rfl rfl rfl rfl HI.out.1 HI.out.2 rfl Hib2.out (by rw [splice_size (by omega)]; show i * 4 + 3 + 1 ≤ _; omega) rfl ?_; intro w3 hb3 hk3); have Hib3 := Lib.hid hb3; clear hb3; (try simp only [Act.put, List.setIfInBounds_toArray, List.set_cons_zero, List.set_cons_succ])))
    go_ret
    have hk13 : Keeps (fun k => k = eb ∨ k = ib) w w3 := ((hk1.mono (M' := fun k => k = eb ∨ k = ib) (fun _ _ e => .inl e)).trans hk2 (fun _ _ e => .inr e)).trans hk3 (fun _ _ e => .inr e)
    refine ⟨by rw [← HR.out]; rfl, hk13, ?_⟩
    rw [← HR.out]
    have hX : ∀ b, b < w.heap.size → X b → ¬ (b = eb ∨ b = ib) := fun b _ hx e => by
      rcases e with rfl | rfl
      · exact He.out.xe hx
      · exact He.out.xi hx
    obtain ⟨es, c, hmb, _⟩ := id He.out.ans
    have hmn : ¬ (mb = eb ∨ mb = ib) := fun e => by
      rcases e with e | e
      · rw [e] at hmb; have := hmb.symm.trans Hb.out; injection this with this; cases this
      · rw [e] at hmb; have := hmb.symm.trans Hib.out; injection this with this; cases this
    exact ⟨⟨_, cc2, hk3.blk (hk2.blk Hb1.out nei) nei, Hrx2.out.keep hk13 hX (fun _ _ h => h)⟩, ⟨_, Hib3.out, (Hci.out.value hin HE.out.ilen v).change hin HE.out.clen (E.rev + 1)⟩, He.out.ans.keep hk13 hmn hX (fun _ _ h => h), He.out.xe, He.out.xi, He.out.xm⟩
end Go.Proofs.QW
