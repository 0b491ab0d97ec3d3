/-
 WireMaps: Same, Get and Put return what the specification says: the law returns true for every input, and its arguments read as before. Conditions: the row's own (the listed variables are as the program lays them; the arguments' bulk together is at most 1048576).
-/
import Derived.Test.YtcmmnbipaemgiaaDoorMp7
namespace Go.Proofs.YtcmmnbipaemgiaaDoor.wireMaps
open Go.ChangeShapes Go.WideShapes Go.ChangeAt Go.RowKit
set_option maxRecDepth 100000

abbrev zv : Value := .agg #[.int .i64 0, .bool false, .int .i64 0, .string ByteArray.empty, .slice none 0 0, .slice none 0 0]
theorem contract (H : Type) (enc : TypeId × Value → H) (W : World) (base0 : Nat) (args : Array Value) (ds gs : List (DataW H)) (before : List MemPlace)
  (hval : ∀ (j : Nat) t v, Tryd.f10.params[j]? = some t → args[j]? = some v → Value.okWide Tryd.prog W .any base0 t v)
  (hW : DataW.Whole enc Tryd.prog Tryd.f10.params.toList Rows.wireMapsSpec.vars false W args.toList ds gs before) (hL : laidMetH Tryd.prog Rows.wireMapsUptoRow.laid W) (hb : Rows.uptoBulkAll (ds ++ gs) ≤ 1048576) :
  Calls Tryd.prog 10 args W fun e W' => ∃ v, e = .returned v ∧ Rows.wireMapsSpec.post enc Tryd.prog Tryd.f10 false true false false W args v W' := by
 have hW' := hW
 obtain ⟨p, q, hA0, hV, rfl, hfz, hnd⟩ := hW
 have hA : DataW.TrodAll enc Tryd.prog W 0 (fun _ => true) true Tryd.f10.params.toList args.toList ds p := hA0
 rw [Tryd.params10] at hA hval
 obtain ⟨v0, vs0, d0, ds0, p0, q0, hargs, rfl, rfl, h0, r0⟩ := trodAll_cons hA
 obtain ⟨v1, vs1, d1, ds1, p1, q1, hargs1, rfl, rfl, h1, r1⟩ := trodAll_cons r0
 obtain ⟨v2, vs2, d2, ds2, p2, q2, hargs2, rfl, rfl, h2, r2⟩ := trodAll_cons r1
 obtain ⟨rfl, rfl, rfl⟩ := trodAll_nil r2
 subst hargs2
 subst hargs1
 obtain rfl : args = #[v0, v1, v2] := by cases args; simp_all
 obtain ⟨rfl, rfl⟩ := trodVars_none hV
 obtain ⟨cs, rfl, hcs⟩ := okWide_struct Tryd.underlying25 (hval 0 25 v0 rfl rfl)
 obtain ⟨key, rfl⟩ := okWide_string Tryd.underlying9 (hval 1 9 v1 rfl rfl)
 obtain ⟨cs2, rfl, hcs2⟩ := okWide_struct Tryd.underlying25 (hval 2 25 v2 rfl rfl)
 obtain ⟨fu, hf⟩ := id h0
 obtain ⟨fu1, hf1⟩ := id h1
 obtain ⟨fu2, hf2⟩ := id h2
 obtain ⟨x0, x1, x2, x3, x4, x5, j, hc, hj, hjb⟩ := Go.Proofs.WV.json_of fu hf
 obtain rfl : cs = #[x0, x1, x2, x3, x4, x5] := by
  have h' : cs.toList = [x0, x1, x2, x3, x4, x5] := hc
  cases cs; simp_all
 obtain ⟨y0, y1, y2, y3, y4, y5, x, hc2, hx, hxb⟩ := Go.Proofs.WV.json_of fu2 hf2
 obtain rfl : cs2 = #[y0, y1, y2, y3, y4, y5] := by
  have h' : cs2.toList = [y0, y1, y2, y3, y4, y5] := hc2
  cases cs2; simp_all
 obtain ⟨s1, hse, hd1, -⟩ := DataW.trod_string Tryd.underlying9 hf1
 injection hse with hse _
 injection hse with hse
 subst hse
 have hd1' : d1 = DataW.lit (.string key.data.toList) := congrArg Prod.fst hd1
 clear hA0
 simp only [List.append_nil] at hW' hb
 simp only [Rows.uptoBulkAll] at hb
 have hlt := hW'.lt
 have hjb' : Go.Proofs.WM.sizeJ j ≤ Rows.uptoBulk d0 := hjb
 have hxb' : Go.Proofs.WM.sizeJ x ≤ Rows.uptoBulk d2 := hxb
 have hkb : key.size ≤ Rows.uptoBulk d1 := by rw [hd1', Go.Proofs.WV.bulk_string]; omega
 have walk := Go.Proofs.WV.WireMaps_any (key := key) (base.tab_of_laid hL) hj hx (by omega)
 refine walk.mono fun e W' ⟨he, hg⟩ => ?_
 subst he
 refine ⟨_, rfl, base.post_of_old (pa := p0 ++ (p1 ++ (p2 ++ []))) (pv := []) hW' (fun _ _ _ => trodAll_cons_mk (shut_bool Tryd.underlying4 _) trodAll_mk0) (fun sp hs => ?_) (fun _ _ => rfl) (by simp)
  hg.below (ok_one (by kernel_rfl) rfl (okWide_bool_mk Tryd.underlying4 _))⟩
 exact trodAll_cons_mk (base.arg_stays (by kernel_rfl) (by decide +kernel) h0 hg (fun p hp => hlt p (by simp [hp])) (fun p hp => hs p (by simp [hp])))
  (trodAll_cons_mk (base.arg_stays (by kernel_rfl) (by decide +kernel) h1 hg (fun p hp => hlt p (by simp [hp])) (fun p hp => hs p (by simp [hp])))
  (trodAll_cons_mk (base.arg_stays (by kernel_rfl) (by decide +kernel) h2 hg (fun p hp => hlt p (by simp [hp])) (fun p hp => hs p (by simp [hp]))) trodAll_mk0))
theorem laid_met (os : Os) : laidMet Tryd.prog Rows.wireMapsUptoRow.laid ((base.laidWorld os).forCall (fun _ _ => 0) ⟨#[], #[zv, .string ByteArray.empty, zv], []⟩).memory :=
 laidMet_of_run' 8 (by kernel_rfl) (by kernel_rfl)
theorem reads (os : Os) {H : Type} (enc : TypeId × Value → H) : ∃ places, DataW.whole enc Tryd.prog ((base.laidWorld os).forCall (fun _ _ => 0) ⟨#[], #[zv, .string ByteArray.empty, zv], []⟩).memory Tryd.f10.params.toList Rows.wireMapsSpec.vars false #[zv, .string ByteArray.empty, zv].toList 8 = some ([.agg [.lit (.int .i64 0), .lit (.bool false), .lit (.int .i64 0), .lit (.string []), .nil, .nil], .lit (.string []), .agg [.lit (.int .i64 0), .lit (.bool false), .lit (.int .i64 0), .lit (.string []), .nil, .nil]], [], places) :=
 ⟨[], by kernel_rfl⟩
theorem liftedUpto (os : Os) (started : os.Started) (H : Type) (enc : TypeId × Value → H) (F : Stop.Interp) :
  ReturnsInHanded {} Tryd.checked os 10 .any ((Rows.OpenSpec.upto Rows.wireMapsSpec).preRow enc Tryd.prog Tryd.f10 Rows.wireMapsUptoRow.domain false Rows.wireMapsUptoRow.laid) (((Rows.OpenSpec.upto Rows.wireMapsSpec).at F).post enc Tryd.prog Tryd.f10 false true false false) := by
 obtain ⟨places, hx⟩ := reads os enc
 refine returnsInHanded_of_row (C := Tryd.checked) (s := Rows.OpenSpec.upto Rows.wireMapsSpec) base.own started (by kernel_rfl) Tryd.func10
  (witness_row_at (enc := enc) (C := Tryd.checked) false (base.laidWorld os) #[zv, .string ByteArray.empty, zv] rfl (by kernel_rfl) (by kernel_rfl) (by kernel_rfl)
    (OpenSpec.preRow_of_cond 8 hx (by kernel_rfl) (fun k hk => by cases hk; kernel_rfl) (by kernel_rfl) (laid_met os))) ?_
 intro W base args ds gs before hval hW hc1 hc2 hc3 hL hc4 hc5
 exact contract H enc W base args ds gs before hval hW hL (of_decide_eq_true (hc2 _ rfl))
theorem saidUpto : Rows.WireMapsUptoSaid :=
 OpenClaim.holds_of_cond 10 Tryd.f10 rfl rfl rfl rfl rfl rfl rfl ⟨rfl, rfl, rfl, rfl, rfl⟩ rfl rfl rfl rfl rfl (by kernel_rfl) Tryd.func10 (by kernel_rfl)
  (of_decide_eq_true (by kernel_rfl)) (by unfold Func.isWrapper; first | (rw [if_pos (by decide +kernel)]; kernel_rfl) | (rw [if_neg (by decide +kernel)]; exact ⟨rfl, rfl⟩))
  (fun os started H enc _ F => by rw [OpenClaim.pre_eq_preRow]; exact liftedUpto os started H enc F)
theorem plain (f : FuncId) (fn : Func) (hf : Tryd.pinned.checked.prog.funcNamed "marginalia/marginalialaw30.WireMaps" = some f) (hfn : Tryd.pinned.checked.prog.funcs[f]? = some fn) :
  true = Tryd.pinned.checked.prog.looks [] ∧ ∀ (j : Nat) t, fn.params[j]? = some t → Tryd.pinned.checked.prog.wantsStandIn t = false := by
 obtain rfl : f = 10 := Option.some.inj ((show Tryd.prog.funcNamed "marginalia/marginalialaw30.WireMaps" = some 10 by kernel_rfl).symm.trans hf) |>.symm
 obtain rfl : fn = Tryd.f10 := (Option.some.inj (Tryd.func10.symm.trans hfn)).symm
 refine ⟨by kernel_rfl, fun j t ht => ?_⟩
 rw [Tryd.params10] at ht
 have hm : t = 25 ∨ t = 9 := by
  have := Array.mem_of_getElem? ht
  simp at this
  first
   | exact this
   | (rcases this with h | h | h; exact .inl h; exact .inr h; exact .inl h)
   | (rcases this with h | h; exact .inl h; exact .inr h)
 rcases hm with rfl | rfl
 · exact (show Tryd.prog.wantsStandIn 25 = false by kernel_rfl)
 · exact (show Tryd.prog.wantsStandIn 9 = false by kernel_rfl)
theorem card : Rows.WireMapsUptoCardSaid :=
 Claim7.holds_tied_plain_at .later [] _ _ _ _ saidUpto (fun _ h => by cases h) (by kernel_rfl) (fun _ h => by cases h) wireMapsUpto_row_tie rfl ⟨rfl, rfl⟩ (by kernel_rfl) rfl plain (by kernel_rfl)
#print axioms card
end Go.Proofs.YtcmmnbipaemgiaaDoor.wireMaps
