/- Transforms of a few numbers. Printed by wip/py/mk_smallC.py. -/
import Derived.Test.YtlgklkhijmeldaaSmallB
import Derived.LoopNIn
import Derived.ScopeJumps
import Derived.WalkMore
namespace Go.Proofs.Ytlgklkhijmeldaa
open Go.RowKit Sm
set_option linter.unusedVariables false
set_option linter.unusedSimpArgs false
set_option maxRecDepth 100000

set_option maxHeartbeats 1000000 in
theorem small_done2 (ad : Option Addr) (cap : Nat) (a b z u : Int) (w : World) (hx : Row .u64 w ad [a, b]) (hr : IsRoot z u 2) (hz0 : 0 ≤ z) (hz1 : z < 18446744069414584321) :
    Calls Try.prog 67 #[.slice ad 2 cap, .int .u64 z] w (GivesRow .u64 (dftL [a, b] z) w) := by
  have HT := Lib.hid (small_two ad cap a b z u w hx hr)
  have HL := Lib.hid (dftL_len [a, b] z)
  clear hx hr
  go_enter Try.func67, Try.ntmps67
  go_wp2_with fail
  refine wp_scope_jumps 0 (fun a' w' => ∃ v u2 u3 u6 u7 u8 u9 u10 u11 u12 u13 u14 u15 u16 u17 u18 u19 u20 u21 u22 u23 u24 u25 u26 u27 u28 u29, a' = { tmps := #[.slice ad 2 cap, .int .u64 z, u2, u3, .slice none 0 0, v, u6, u7, u8, u9, u10, u11, u12, u13, u14, u15, u16, u17, u18, u19, u20, u21, u22, u23, u24, u25, u26, u27, u28, u29], defers := [] } ∧ GivesRow .u64 (dftL [a, b] z) w (.returned v) w') (fun _ _ => 0) rfl ?_ ?_
  · go_wp2_with fail
    refine HT.out.mono ?_; rintro en w' ⟨a2, cap2, rfl, hrow, hca, hb⟩
    go_wp2_with fail
    go_step3
    exact ⟨rfl, _, _, _, _, _, _, _, _, _, _, _, _, _, _, _, _, _, _, _, _, _, _, _, _, _, _, _, rfl, a2, cap2, rfl, hrow, hca, hb⟩
  · rintro a' w' ⟨v, u2, u3, u6, u7, u8, u9, u10, u11, u12, u13, u14, u15, u16, u17, u18, u19, u20, u21, u22, u23, u24, u25, u26, u27, u28, u29, rfl, hg⟩
    go_wp2_with fail
    simp only [Exit.jump]
    go_ret
    exact hg
set_option maxHeartbeats 1000000 in
theorem small_done3 (ad : Option Addr) (cap : Nat) (a b c z u : Int) (w : World) (hx : Row .u64 w ad [a, b, c]) (hr : IsRoot z u 3) (hz0 : 0 ≤ z) (hz1 : z < 18446744069414584321) :
    Calls Try.prog 67 #[.slice ad 3 cap, .int .u64 z] w (GivesRow .u64 (dftL [a, b, c] z) w) := by
  have HT := Lib.hid (small_three ad cap a b c z u w hx hr hz0 hz1)
  have HL := Lib.hid (dftL_len [a, b, c] z)
  clear hx hr
  go_enter Try.func67, Try.ntmps67
  go_wp2_with fail
  refine wp_scope_jumps 0 (fun a' w' => ∃ v u2 u3 u6 u7 u8 u9 u10 u11 u12 u13 u14 u15 u16 u17 u18 u19 u20 u21 u22 u23 u24 u25 u26 u27 u28 u29, a' = { tmps := #[.slice ad 3 cap, .int .u64 z, u2, u3, .slice none 0 0, v, u6, u7, u8, u9, u10, u11, u12, u13, u14, u15, u16, u17, u18, u19, u20, u21, u22, u23, u24, u25, u26, u27, u28, u29], defers := [] } ∧ GivesRow .u64 (dftL [a, b, c] z) w (.returned v) w') (fun _ _ => 0) rfl ?_ ?_
  · go_wp2_with fail
    refine HT.out.mono ?_; rintro en w' ⟨a2, cap2, rfl, hrow, hca, hb⟩
    go_wp2_with fail
    go_step3
    exact ⟨rfl, _, _, _, _, _, _, _, _, _, _, _, _, _, _, _, _, _, _, _, _, _, _, _, _, _, _, _, rfl, a2, cap2, rfl, hrow, hca, hb⟩
  · rintro a' w' ⟨v, u2, u3, u6, u7, u8, u9, u10, u11, u12, u13, u14, u15, u16, u17, u18, u19, u20, u21, u22, u23, u24, u25, u26, u27, u28, u29, rfl, hg⟩
    go_wp2_with fail
    simp only [Exit.jump]
    go_ret
    exact hg
set_option maxHeartbeats 1000000 in
theorem small_done4 (ad : Option Addr) (cap : Nat) (a b c d z u : Int) (w : World) (hx : Row .u64 w ad [a, b, c, d]) (hr : IsRoot z u 4) (hz0 : 0 ≤ z) (hz1 : z < 18446744069414584321) :
    Calls Try.prog 67 #[.slice ad 4 cap, .int .u64 z] w (GivesRow .u64 (dftL [a, b, c, d] z) w) := by
  have HT := Lib.hid (small_four ad cap a b c d z u w hx hr hz0 hz1)
  have HL := Lib.hid (dftL_len [a, b, c, d] z)
  clear hx hr
  go_enter Try.func67, Try.ntmps67
  go_wp2_with fail
  refine wp_scope_jumps 0 (fun a' w' => ∃ v u2 u3 u6 u7 u8 u9 u10 u11 u12 u13 u14 u15 u16 u17 u18 u19 u20 u21 u22 u23 u24 u25 u26 u27 u28 u29, a' = { tmps := #[.slice ad 4 cap, .int .u64 z, u2, u3, .slice none 0 0, v, u6, u7, u8, u9, u10, u11, u12, u13, u14, u15, u16, u17, u18, u19, u20, u21, u22, u23, u24, u25, u26, u27, u28, u29], defers := [] } ∧ GivesRow .u64 (dftL [a, b, c, d] z) w (.returned v) w') (fun _ _ => 0) rfl ?_ ?_
  · go_wp2_with fail
    refine HT.out.mono ?_; rintro en w' ⟨a2, cap2, rfl, hrow, hca, hb⟩
    go_wp2_with fail
    go_step3
    exact ⟨rfl, _, _, _, _, _, _, _, _, _, _, _, _, _, _, _, _, _, _, _, _, _, _, _, _, _, _, _, rfl, a2, cap2, rfl, hrow, hca, hb⟩
  · rintro a' w' ⟨v, u2, u3, u6, u7, u8, u9, u10, u11, u12, u13, u14, u15, u16, u17, u18, u19, u20, u21, u22, u23, u24, u25, u26, u27, u28, u29, rfl, hg⟩
    go_wp2_with fail
    simp only [Exit.jump]
    go_ret
    exact hg
set_option maxHeartbeats 1000000 in
theorem small_done5 (ad : Option Addr) (cap : Nat) (a b c d e z u : Int) (w : World) (hx : Row .u64 w ad [a, b, c, d, e]) (hr : IsRoot z u 5) (hz0 : 0 ≤ z) (hz1 : z < 18446744069414584321) :
    Calls Try.prog 67 #[.slice ad 5 cap, .int .u64 z] w (GivesRow .u64 (dftL [a, b, c, d, e] z) w) := by
  have HT := Lib.hid (small_five ad cap a b c d e z u w hx hr hz0 hz1)
  have HL := Lib.hid (dftL_len [a, b, c, d, e] z)
  clear hx hr
  go_enter Try.func67, Try.ntmps67
  go_wp2_with fail
  refine wp_scope_jumps 0 (fun a' w' => ∃ v u2 u3 u6 u7 u8 u9 u10 u11 u12 u13 u14 u15 u16 u17 u18 u19 u20 u21 u22 u23 u24 u25 u26 u27 u28 u29, a' = { tmps := #[.slice ad 5 cap, .int .u64 z, u2, u3, .slice none 0 0, v, u6, u7, u8, u9, u10, u11, u12, u13, u14, u15, u16, u17, u18, u19, u20, u21, u22, u23, u24, u25, u26, u27, u28, u29], defers := [] } ∧ GivesRow .u64 (dftL [a, b, c, d, e] z) w (.returned v) w') (fun _ _ => 0) rfl ?_ ?_
  · go_wp2_with fail
    refine HT.out.mono ?_; rintro en w' ⟨a2, cap2, rfl, hrow, hca, hb⟩
    go_wp2_with fail
    go_step3
    exact ⟨rfl, _, _, _, _, _, _, _, _, _, _, _, _, _, _, _, _, _, _, _, _, _, _, _, _, _, _, _, rfl, a2, cap2, rfl, hrow, hca, hb⟩
  · rintro a' w' ⟨v, u2, u3, u6, u7, u8, u9, u10, u11, u12, u13, u14, u15, u16, u17, u18, u19, u20, u21, u22, u23, u24, u25, u26, u27, u28, u29, rfl, hg⟩
    go_wp2_with fail
    simp only [Exit.jump]
    go_ret
    exact hg
set_option maxHeartbeats 1000000 in
theorem small_done1 (ad : Option Addr) (cap : Nat) (a z u : Int) (w : World) (hx : Row .u64 w ad [a]) (hr : IsRoot z u 1) :
    Calls Try.prog 67 #[.slice ad 1 cap, .int .u64 z] w (GivesRow .u64 (dftL [a] z) w) := by
  have HT := Lib.hid (vec_Red ad cap [a] w hx (by simp))
  have HL := Lib.hid (one_eq [a] z u hr rfl)
  clear hx hr
  go_enter Try.func67, Try.ntmps67
  go_wp2_with fail
  refine wp_scope_jumps 0 (fun a' w' => False) (fun _ _ => 0) rfl ?_ ?_
  · go_wp2_with fail
    refine HT.out.mono ?_
    rw [HL.out]
    rintro en w' ⟨a2, cap2, rfl, hrow, hca, hb⟩
    go_wp2_with fail
    go_step3
    go_wp2_with fail
    simp only [Exit.jump]
    go_ret
    exact ⟨a2, cap2, rfl, hrow, hca, hb⟩
  · rintro a' w' h
    exact h.elim
theorem small_done (ad : Option Addr) (cap n : Nat) (xs : List Int) (z u : Int) (w : World) (hx : Row .u64 w ad xs) (hn : n = xs.length) (h1 : 1 ≤ n) (h5 : n ≤ 5) (hr : IsRoot z u n) (hz0 : 0 ≤ z) (hz1 : z < 18446744069414584321) :
    Calls Try.prog 67 #[.slice ad n cap, .int .u64 z] w (GivesRow .u64 (dftL xs z) w) := by
  match xs, hn with
  | [], hn => simp at hn; omega
  | [a], hn => subst hn; exact small_done1 ad cap a z u w hx hr
  | [a, b], hn => subst hn; exact small_done2 ad cap a b z u w hx hr hz0 hz1
  | [a, b, c], hn => subst hn; exact small_done3 ad cap a b c z u w hx hr hz0 hz1
  | [a, b, c, d], hn => subst hn; exact small_done4 ad cap a b c d z u w hx hr hz0 hz1
  | [a, b, c, d, e], hn => subst hn; exact small_done5 ad cap a b c d e z u w hx hr hz0 hz1
  | a :: b :: c :: d :: e :: f :: t, hn => simp at hn; omega
end Go.Proofs.Ytlgklkhijmeldaa
