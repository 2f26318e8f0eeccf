/-
  Contract of the reference's l22Start.
-/
import Derived.Test.YtfheepjfpgiaoaaRsI
namespace Go.Proofs.Ytfheepjfpgiaoaa
open Go.RowKit

theorem NowS.one {w : World} {lo c1 : Nat} {t : Tr} {A1 : Option Addr} (ho : Own w lo 4 1 A1 t.nodes c1 (bools t.enc)) (hlo : lo ≤ w.heap.size) : NowS (w.alloc (.cells #[.slice A1 t.nodes c1] 43)) lo (some ⟨w.heap.size, 0, none⟩) 1 [t] := by
  refine ⟨[⟨A1, c1, t.enc⟩], rfl, ?_, ?_, by simp [AptB]⟩
  · have h := Own.lit w #[.slice A1 t.nodes c1] 43 1 1 lo rfl (by simp [maxLen]) hlo
    have e1 : Bl.val ⟨A1, c1, t.enc⟩ = .slice A1 t.nodes c1 := by unfold Bl.val; rw [enc_len]
    rw [List.map_singleton, e1]
    exact h
  · intro u hu
    rw [List.mem_singleton.1 hu]
    show Own _ lo 4 1 A1 t.enc.length c1 (bools t.enc)
    rw [enc_len]
    exact ho.alloc _
def fillW (t : Tr) (i : Nat) : List Tr := t :: List.replicate (i - 1) .nil
theorem fillW_len (t : Tr) {i : Nat} (h : 1 ≤ i) : (fillW t i).length = i := by unfold fillW; rw [List.length_cons, List.length_replicate]; omega
theorem fillW_succ (t : Tr) {i : Nat} (h : 1 ≤ i) : fillW t (i + 1) = fillW t i ++ [.nil] := by
  obtain ⟨j, rfl⟩ : ∃ j, i = j + 1 := ⟨i - 1, by omega⟩
  unfold fillW
  rw [Nat.add_sub_cancel, Nat.add_sub_cancel, List.replicate_succ']
  rfl
def StaP (w : World) (t : Tr) (e : Ending) (w' : World) : Prop := ∃ A c, e = .returned (.slice A 6 c) ∧ NowS w' w.heap.size A c (startW t) ∧ Below w.heap.size w w'
end Go.Proofs.Ytfheepjfpgiaoaa
