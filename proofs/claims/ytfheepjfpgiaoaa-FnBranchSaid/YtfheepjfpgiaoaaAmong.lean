/-
  The reference's choice among numbers: (*l00Src).among.
-/
import Derived.Test.YtfheepjfpgiaoaaSrc
namespace Go.Proofs.Ytfheepjfpgiaoaa
open Go.RowKit

set_option maxHeartbeats 1000000 in
theorem among_any (b : Nat) (A : Option Addr) (n c T : Nat) (xs : List Int) (L : Option Addr) (m k : Nat) (ls : List Int) (w : World) (hx : SBy w A n xs) (hA : ∀ k, blk A = some k → k ≠ b) (hs : Src b A n c T w) (hT : T ≤ 900000000) (hn : n ≤ 9223372036854775807)
    (hl : SI w L m ls) (hL : ∀ k, blk L = some k → k ≠ b) (hm0 : 1 ≤ m) (hm : m ≤ 60000) :
    Calls Try.prog 159 #[.pointer (some ⟨b, 0, none⟩), .slice L m k] w (fun e w' => ∃ y, e = .returned (.int .i64 y) ∧ y ∈ ls ∧ Src b A n c (T + 2) w' ∧ Kb b w w') := by
  have HLL := Lib.hid hl.len
  have HL := Lib.hid hl
  have HLB := Lib.hid hL
  have HP := Lib.hid (pick_any b A n c T xs (m : Int) w hx hA hs hT hn (by omega) (by omega))
  clear hx hA hs hl hL
  go_enter Try.func159, Try.ntmps159
  go_wp2_with fail
  refine HP.out.mono ?_
  rintro e1 w1 ⟨x, rfl, hx0, hx1, hs1, hk1⟩
  obtain ⟨i, rfl⟩ : ∃ i : Nat, x = (i : Int) := ⟨x.toNat, by omega⟩
  have hr1 : SI w1 L m ls := Rd.keep HL.out (fun p hp he => World.cell?_of_block (hk1.block p.block hp (HLB.out _ he.symm)))
  have him : i < m := by omega
  obtain ⟨bb, off, rfl, _, hc⟩ := hr1.at_ him
  have i2 : (i : Int) < (m : Int) := by omega
  go_wp2_with fail
  go_ret
  exact ⟨_, rfl, List.getElem_mem _, hs1, hk1⟩
end Go.Proofs.Ytfheepjfpgiaoaa
