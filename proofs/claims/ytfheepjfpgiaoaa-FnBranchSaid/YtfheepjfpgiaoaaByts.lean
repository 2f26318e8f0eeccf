/-
  Slices of bytes that came in; the numbers that an input chooses (r8Long, r8At).
-/
import Derived.Test.YtfheepjfpgiaoaaBase
import Derived.Test.YtfheepjfpgiaoaaOpen1
namespace Go.Proofs.Ytfheepjfpgiaoaa
open Go.ChangeShapes Go.WideShapes Go.ChangeAt Go.RowKit Go.Joins Go.Deep

def byts (xs : List Int) : List Value := xs.map (Value.int .u8)
theorem length_byts (xs : List Int) : (byts xs).length = xs.length := by simp [byts]
/-- A slice of bytes. -/
def SBy (w : World) (A : Option Addr) (n : Nat) (xs : List Int) : Prop := Rd w 1 A n (byts xs) ∧ ∀ x ∈ xs, 0 ≤ x ∧ x ≤ 255
section
variable {w w' : World} {A : Option Addr} {n : Nat} {xs : List Int}
theorem SBy.len (h : SBy w A n xs) : xs.length = n := by have := h.1.1; rw [length_byts] at this; omega
theorem SBy.below (h : SBy w A n xs) (z : Below w.heap.size w w') : SBy w' A n xs := ⟨h.1.below z, h.2⟩
theorem SBy.drewN (h : SBy w A n xs) (k : Nat) : SBy (w.drewN k) A n xs := ⟨h.1.drewN k, h.2⟩
theorem SBy.alloc (h : SBy w A n xs) (o : Obj) : SBy (w.alloc o) A n xs := ⟨h.1.alloc o, h.2⟩
theorem SBy.at_ (h : SBy w A n xs) {k : Nat} (hk : k < n) : ∃ b off, A = some ⟨b, off, none⟩ ∧ b < w.heap.size ∧ w.cell? ⟨b, off + k, none⟩ = some (.int .u8 (xs[k]'(by rw [h.len]; exact hk))) := by
  have hl := h.len
  obtain ⟨b, off, e, hb, hc⟩ := h.1.at_ (k := k) (by rw [length_byts]; omega)
  exact ⟨b, off, e, hb, by rw [hc]; simp [byts]⟩
end
section
variable {H : Type} {enc : TypeId × Value → H} {P : Program} {w : World} {base : Nat} {held : Bool}
/-- A slice of bytes that came in. -/
theorem sb_of_trod {t e : TypeId} {fuel : Nat} {v : Value} {x : DataW H × List MemPlace} (ht : P.underlying t = some (.slice e)) (he : P.underlying e = some (.int .u8)) (hc : P.cellsOf e = 1) (h : DataW.trod enc P w base (fun _ => true) held fuel t [v] = some x) :
    ∃ A n c xs, v = .slice A n c ∧ SBy w A n xs ∧ n ≤ c ∧ c ≤ 9223372036854775807 := by
  rcases open_ints ht he hc h with ⟨hcs, _⟩ | ⟨a, len, cap, zs, hcs, _, hl, hm, hz, _, hcell, hwf⟩
  · simp at hcs; subst hcs
    exact ⟨none, 0, 0, [], rfl, ⟨Rd.nil, by simp⟩, by omega, by omega⟩
  · simp at hcs; subst hcs
    simp at hz
    have hm' : cap ≤ 9223372036854775807 := by simp only [maxLen] at hm; omega
    refine ⟨some a, len, cap, zs.take len, rfl, ⟨⟨by rw [length_byts]; simp; omega, fun hn => ?_⟩, fun z hz' => ?_⟩, hl, hm'⟩
    · rw [length_byts] at hn
      simp at hn
      have h0 := hcell 0 (by omega)
      have hs : a = ⟨a.block, a.off, none⟩ := by
        rcases addr_none h0 with h1 | h1
        · exact h1
        · omega
      refine ⟨a.block, a.off, by rw [← hs], fun k hk => ?_⟩
      rw [length_byts] at hk
      simp at hk
      have hk' := hcell k (by omega)
      rw [hs, add_lit] at hk'
      rw [hk']
      simp [byts, List.getD, List.getElem?_eq_getElem (show k < zs.length by omega)]
    · have := hwf z (List.mem_of_mem_take hz')
      simpa [Lit.wf, IntKind.min, IntKind.max, IntKind.signed, IntKind.bits] using this
end

def longB (n m : Nat) : Bool := decide (1048576 < n) || decide (1048576 < m)
set_option maxHeartbeats 400000 in
theorem r8Long_any (A B : Option Addr) (n c m d : Nat) (w : World) (hn : n ≤ 9223372036854775807) (hm : m ≤ 9223372036854775807) :
    Calls Try.prog 27 #[.slice A n c, .slice B m d] w fun e w' => e = .returned (.bool (longB n m)) ∧ w = w' := by
  go_enter Try.func27, Try.ntmps27
  go_wp2
  all_goals
    go_ret
    exact ⟨ret_bool (by unfold longB; rw [Bool.eq_iff_iff]; simp; omega), rfl⟩
/-- The number below n that an input chooses at place k. -/
def r8AtF (xs : List Int) (k : Nat) (n : Int) : Int := if n ≤ 1 ∨ xs.length ≤ k then 0 else (xs.getD k 0) % n
theorem r8AtF_range (xs : List Int) (k : Nat) (n : Int) (_h : ∀ x ∈ xs, 0 ≤ x ∧ x ≤ 255) : 0 ≤ r8AtF xs k n ∧ (1 ≤ n → r8AtF xs k n < n) := by
  unfold r8AtF
  split
  · omega
  · rename_i h1
    have h2 : 1 < n := by omega
    exact ⟨Int.emod_nonneg _ (by omega), fun _ => Int.emod_lt_of_pos _ (by omega)⟩
set_option maxHeartbeats 1000000 in
theorem r8At_any (A : Option Addr) (m c : Nat) (xs : List Int) (k : Nat) (n : Int) (w : World) (hx : SBy w A m xs) (_hm : m ≤ 9223372036854775807) (hk : k ≤ 1000000) (hn0 : 0 ≤ n) (hn : n ≤ 1000000) :
    Calls Try.prog 54 #[.slice A m c, .int .i64 (k : Int), .int .i64 n] w fun e w' => e = .returned (.int .i64 (r8AtF xs k n)) ∧ w = w' := by
  have HL := Lib.hid hx.len
  by_cases h1 : n ≤ 1
  · go_enter Try.func54, Try.ntmps54
    go_wp2_with fail
    go_ret
    exact ⟨ret_int (by unfold r8AtF; rw [if_pos (.inl h1)]), rfl⟩
  by_cases h2 : m ≤ k
  · go_enter Try.func54, Try.ntmps54
    go_wp2_with fail
    go_ret
    exact ⟨ret_int (by unfold r8AtF; rw [if_pos (.inr (by rw [HL.out]; exact h2))]), rfl⟩
  have hkm : k < m := by omega
  obtain ⟨b, off, rfl, _, hc⟩ := hx.at_ hkm
  obtain ⟨y, hy⟩ : ∃ y, y = xs[k]'(by rw [HL.out]; exact hkm) := ⟨_, rfl⟩
  have hy2 := hx.2 _ (List.getElem_mem (l := xs) (n := k) (by rw [HL.out]; exact hkm))
  rw [← hy] at hc hy2
  have HY : Hid (r8AtF xs k n = y % n) := Lib.hid (by
    unfold r8AtF
    rw [if_neg (by rw [HL.out]; omega), hy]
    congr 1
    simp [List.getD, List.getElem?_eq_getElem (show k < xs.length by rw [HL.out]; exact hkm)])
  clear hy
  have i1 : (0 : Int) ≤ (k : Int) := by omega
  have i2 : (k : Int) < (m : Int) := by omega
  have n0 : ¬ n = 0 := by omega
  go_enter Try.func54, Try.ntmps54
  go_wp2_with fail
  go_ret
  exact ⟨ret_int (HY.out.symm), rfl⟩
end Go.Proofs.Ytfheepjfpgiaoaa
