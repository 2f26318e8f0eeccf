/-
  The walk of the law FnExactCollatzNumbers: it returns true, and nothing that was there before has turned.
-/
import Derived.Test.YtldgfgjaabphnaaCollI
import Derived.Test.YtldgfgjaabphnaaCollS
import Derived.Test.YtldgfgjaabphnaaHelpL
namespace Go.Proofs.Ytldgfgjaabphnaa
open Go.RowKit

set_option maxRecDepth 100000 in
set_option maxHeartbeats 16000000 in
theorem lawCollatzNumbers (b0 : Int) (b1 : Int) (w : World)     :
    Calls Try.prog 9 #[.int .i64 b0, .int .i64 b1] w fun e w' => e = .returned (.bool true) ∧ Below w.heap.size w w' := by
  go_enter Try.func9, Try.ntmps9
  go_wp2_with fail
  go_wp2_with fail
  refine (collNumbersS_any _ _ _  ).mono ?_
  obtain ⟨res, hres⟩ : ∃ res, res = collF b0 b1 := ⟨_, rfl⟩
  rw [← hres]
  have HRES := Lib.hid hres
  clear hres
  rintro e W1 ⟨A1r, c1r, rfl, oR1, z1⟩
  have hlen : res.1.length ≤ 1048576 := by rw [HRES.out]; exact collF_len b0 b1
  have lx0 := hlen
  go_wp2_with fail
  refine (collNumbersI_any _ _ _  ).mono ?_
  rw [← HRES.out]
  rintro e W2 ⟨A2r, c2r, rfl, oR2, z2⟩
  go_wp2_with fail
  refine (eqI_b _ _ _ _ _ _ res.1 res.1 _ oR2.rd (oR1.below z2).rd (by omega)).mono ?_
  rintro e W3 ⟨rfl, z3⟩
  rw [sameI_self]
  have hs_W2 : W1.heap.size ≤ W2.heap.size := z2.size
  have hs_W3 : W2.heap.size ≤ W3.heap.size := z3.size
  have yw_W2 : Below w.heap.size w W2 := z1.trans (z2.mono z1.size)
  have yw_W3 : Below w.heap.size w W3 := yw_W2.trans (z3.mono yw_W2.size)
  have yW1_W3 : Below W1.heap.size W1 W3 := z2.trans (z3.mono z2.size)
  have io0 := (oR2.below z3)
  have so0 := (oR1.below yW1_W3)
  go_wp2_with fail
  refine (markI _ _ _ res.1 _ _ W1.heap.size W2.heap.size (.inr io0) (fun b hb => oR2.blk_lt b hb) (by omega) (by omega)).mono ?_
  rintro e W5 ⟨rfl, eR, t5, _⟩
  have so0 := so0.touch t5 (fun b hb => .inl (by have := oR1.blk_lt b hb; omega))
  have hlow : w.heap.size ≤ W1.heap.size := by have := z1.size; omega
  have yN : Below w.heap.size w W5 := yw_W3.trans (t5.below hlow yw_W3.size)
  have hs_W5 : W3.heap.size ≤ W5.heap.size := t5.size
  clear t5
  go_wp2_with fail
  refine (heldI_b _ _ _ (marks 1 res.1.length) _ _ eR.si (by omega) (by omega)).mono ?_
  rintro e W6 ⟨rfl, z6⟩
  rw [heldF_marks]
  have gneg : ¬ ((1 : Int) + (res.1.length : Int) < 0) := by omega
  have yw_W6 : Below w.heap.size w W6 := yN.trans (z6.mono yN.size)
  go_wp2_with fail
  refine (collNumbersI_any _ _ _  ).mono ?_
  rw [← HRES.out]
  rintro e W7 ⟨A7r, c7r, rfl, oR7, z7⟩
  have yW5_W7 : Below W5.heap.size W5 W7 := z6.trans (z7.mono z6.size)
  go_wp2_with fail
  refine (eqI_b _ _ _ _ _ _ res.1 res.1 _ oR7.rd (so0.below yW5_W7).rd (by omega)).mono ?_
  rintro e W8 ⟨rfl, z8⟩
  rw [sameI_self]
  go_wp2_with fail
  have yW5_W8 : Below W5.heap.size W5 W8 := yW5_W7.trans (z8.mono yW5_W7.size)
  refine (heldI_b _ _ _ (marks 1 res.1.length) _ _ (eR.below yW5_W8).si (by omega) (by omega)).mono ?_
  rintro e W9 ⟨rfl, z9⟩
  rw [heldF_marks]
  have yw_W7 : Below w.heap.size w W7 := yw_W6.trans (z7.mono yw_W6.size)
  have yw_W8 : Below w.heap.size w W8 := yw_W7.trans (z8.mono yw_W7.size)
  have yw_W9 : Below w.heap.size w W9 := yw_W8.trans (z9.mono yw_W8.size)
  go_wp2_with fail
  go_ret
  exact ⟨rfl, yw_W9⟩
end Go.Proofs.Ytldgfgjaabphnaa
