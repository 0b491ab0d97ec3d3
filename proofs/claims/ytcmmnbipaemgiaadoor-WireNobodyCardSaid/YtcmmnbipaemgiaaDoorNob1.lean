/-
  The law WireNobody, by the program, in memory. Condition: the standard library's table of powers lies.
-/
import Derived.Test.YtcmmnbipaemgiaaDoorAl0
namespace Go.Proofs.WV
open Go.RowKit Go.Proofs.KL Go.Proofs.WM
set_option maxRecDepth 100000
set_option linter.unusedSimpArgs false
set_option linter.unusedVariables false

set_option maxHeartbeats 2000000 in
theorem WireNobody_any (W : World) (ht : Tab W W.heap.size) (v : Value) : Calls Tryd.prog 5 #[v] W fun e w' => e = .returned (.bool true) ∧ Keeps Nob W w' := by
  have HT := Lib.hid ht
  clear ht
  go_enter Tryd.func5, Tryd.ntmps5
  go_wp2_with (first
    | ((with_reducible refine at_dst (N := 10) rfl ?_); go_must (refine ev_box (cs := #[.slice none 0 0, .bool false, .bool false]) rfl rfl rfl ?_; intro gr w1 hgr hlr hbr hkr)
       have Hbr := Lib.hid hbr
       have HK := Lib.hid hkr
       clear hbr hkr hgr hlr
       (try simp only [PU]))
    | ((with_reducible refine at_dst (N := 11) rfl ?_); go_must (refine ev_slice (cs := #[.pointer none, .pointer (some ⟨gr, 0, none⟩)]) (t := 39) (n := 2) (c := 2) rfl (by first | (go_simp; done) | (go_simp; rfl)) ?_; intro gl w2 hgl hll hbl hkl)
       have Hbl := Lib.hid hbl
       have Hbr := Lib.hid (hkl.blk Hbr.out id)
       have HK := Lib.hid (HK.out.trans hkl (fun _ _ h => h))
       clear hbl hkl hgl hll
       (try simp only [PU]))
  )
  go_loopg [13] 2 (fun K iv wr => ∃ i : Nat, iv = .int .i64 i ∧ i + K = 2 ∧ Hid (wr = w2))
  case atStart => exact ⟨0, rfl, rfl, Lib.hid rfl⟩
  case round =>
    obtain ⟨i, rfl, hik, Hw⟩ := hrel
    have hw : w2 = wr := Hw.out.symm
    subst hw
    have p0 : w2.cell? ⟨gl, 0, none⟩ = some (.pointer none) := (blk_cell Hbl.out 0).trans rfl
    have p1 : w2.cell? ⟨gl, 1, none⟩ = some (.pointer (some ⟨gr, 0, none⟩)) := (blk_cell Hbl.out 1).trans rfl
    rcases (show i = 0 ∨ i = 1 ∨ i = 2 by omega) with e | e | e
    · subst e
      go_wp2_with (first
        | (go_at_call 21; go_must (refine (feed_nil v _).mono ?_; rintro e w3 ⟨rfl, rfl⟩); (try simp only [PU]))
        | (go_at_call 22; go_must (refine (left_nil _).mono ?_; rintro e w3 ⟨rfl, rfl⟩); (try simp only [PU]))
      )
      go_roundg 1
      case measure => omega
      case rel => exact ⟨1, rfl, rfl, Lib.hid rfl⟩
    · subst e
      go_wp2_with (first
        | (go_at_call 21; go_must (refine (feed_zero (n := 0) v Hbr.out).mono ?_; rintro e w3 ⟨rfl, rfl⟩); (try simp only [PU]))
        | (go_at_call 22; go_must (refine (left_at Hbr.out).mono ?_; rintro e w3 ⟨rfl, rfl⟩); (try simp only [PU]))
      )
      go_roundg 0
      case measure => omega
      case rel => exact ⟨2, rfl, rfl, Lib.hid rfl⟩
    · subst e
      go_wp2_with (first
        | (go_at_call 13; go_must (refine (alive13 (Tab.after HT.out HK.out)).mono ?_; rintro e w3 ⟨rfl, hk3⟩); have Hk3 := Lib.hid hk3; clear hk3; (try simp only [PU]))
      )
      go_ret
      exact ⟨rfl, HK.out.trans Hk3.out (fun _ _ h => h)⟩
end Go.Proofs.WV
