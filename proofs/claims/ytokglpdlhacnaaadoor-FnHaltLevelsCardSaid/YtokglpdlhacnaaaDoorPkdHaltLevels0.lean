/-
  A struct of one field, by value, opened. No program is in sight.
-/
import Derived.Test.YtokglpdlhacnaaaDoorPbBackAll1
import Derived.Test.YtokglpdlhacnaaaDoorPbBackAll3
import Derived.Test.YtokglpdlhacnaaaDoorPbBackAll7
import Derived.Test.YtokglpdlhacnaaaDoorPbBackAll8
import Derived.Test.YtokglpdlhacnaaaDoorPbBackAll10
import Derived.Test.YtokglpdlhacnaaaDoorPbBackAll11
namespace Go.Proofs.YtokglpdlhacnaaaDoor
open Go.ChangeShapes Go.WideShapes Go.ChangeAt Go.RowKit Go.Joins Go.Deep

section
variable {H : Type} {enc : TypeId × Value → H} {P : Program} {w : World} {base : Nat} {spare : Nat → Bool} {held : Bool}
theorem array1 {α : Type} {cs : Array α} (h : cs.size = 1) : ∃ c0, cs = #[c0] := by
  obtain ⟨l⟩ := cs
  match l, h with
  | [c0], _ => exact ⟨c0, rfl⟩
theorem trod_struct1 {t : TypeId} {f0 : Field} {fuel : Nat} {cs : List Value} {x : DataW H × List MemPlace} (ht : P.underlying t = some (.struct #[f0])) (h : DataW.trod enc P w base spare held fuel t cs = some x) :
    ∃ y0 n, x = (.agg [y0.1], y0.2) ∧ cs.length = P.cellsOf t ∧ DataW.trod enc P w base spare held n f0.type ((cs.drop f0.offset).take (P.cellsOf f0.type)) = some y0 := by
  obtain ⟨xs, n, _, rfl, hl, hlen, hf⟩ := DataW.trod_struct ht h
  match xs, hlen with
  | [y0], _ => exact ⟨y0, n, by simp, hl, by simpa using hf 0 f0 rfl⟩
theorem open_agg1 {r : Reach} {b0 : Nat} {t : TypeId} {f0 : Field} {v : Value} {d : DataW H} {p : List MemPlace} (hs : P.underlying t = some (.struct #[f0])) (hone : oneCellFields P #[f0] = true) (hC : P.cellsOf t = 1)
    (hv : Value.okWide P w r b0 t v) (h : DataW.Trod enc P w base spare held t v d p) :
    ∃ (v0 : Value) (y0 : DataW H × List MemPlace) (n : Nat), v = .agg #[v0] ∧ d = .agg [y0.1] ∧ p = y0.2 ∧ DataW.trod enc P w base spare held n f0.type [v0] = some y0 := by
  obtain ⟨cs, rfl, hsz⟩ := okWide_struct hs hv
  obtain ⟨c0, rfl⟩ := array1 (hsz.trans hC)
  obtain ⟨fuel, hf⟩ := h
  obtain ⟨y0, n, hx, _, h0⟩ := trod_struct1 hs hf
  obtain ⟨o0, k0⟩ := hone_of hone 0 f0 rfl
  simp only [Prod.mk.injEq] at hx
  exact ⟨c0, y0, n, rfl, hx.1, hx.2, by simpa [Value.cells, o0, k0] using h0⟩
end
end Go.Proofs.YtokglpdlhacnaaaDoor

/-
  Slices of bytes that came in; the numbers that an input chooses (r8Long, r8At).
-/
namespace Go.Proofs.YtokglpdlhacnaaaDoor
open Go.ChangeShapes Go.WideShapes Go.ChangeAt Go.RowKit Go.Joins Go.Deep

def byts (xs : List Int) : List Value := xs.map (Value.int .u8)
theorem length_byts (xs : List Int) : (byts xs).length = xs.length := by simp [byts]
/-- A slice of bytes. -/
def SB (w : World) (A : Option Addr) (n : Nat) (xs : List Int) : Prop := Rd w 1 A n (byts xs) ∧ ∀ x ∈ xs, 0 ≤ x ∧ x ≤ 255
section
variable {w w' : World} {A : Option Addr} {n : Nat} {xs : List Int}
theorem SB.len (h : SB w A n xs) : xs.length = n := by have := h.1.1; rw [length_byts] at this; omega
theorem SB.below (h : SB w A n xs) (z : Below w.heap.size w w') : SB w' A n xs := ⟨h.1.below z, h.2⟩
theorem SB.drewN (h : SB w A n xs) (k : Nat) : SB (w.drewN k) A n xs := ⟨h.1.drewN k, h.2⟩
theorem SB.alloc (h : SB w A n xs) (o : Obj) : SB (w.alloc o) A n xs := ⟨h.1.alloc o, h.2⟩
theorem SB.at_ (h : SB w A n xs) {k : Nat} (hk : k < n) : ∃ b off, A = some ⟨b, off, none⟩ ∧ b < w.heap.size ∧ w.cell? ⟨b, off + k, none⟩ = some (.int .u8 (xs[k]'(by rw [h.len]; exact hk))) := by
  have hl := h.len
  obtain ⟨b, off, e, hb, hc⟩ := h.1.at_ (k := k) (by rw [length_byts]; omega)
  exact ⟨b, off, e, hb, by rw [hc]; simp [byts]⟩
end
section
variable {H : Type} {enc : TypeId × Value → H} {P : Program} {w : World} {base : Nat} {held : Bool}
/-- A slice of bytes that came in. -/
theorem sb_of_trod {t e : TypeId} {fuel : Nat} {v : Value} {x : DataW H × List MemPlace} (ht : P.underlying t = some (.slice e)) (he : P.underlying e = some (.int .u8)) (hc : P.cellsOf e = 1) (h : DataW.trod enc P w base (fun _ => true) held fuel t [v] = some x) :
    ∃ A n c xs, v = .slice A n c ∧ SB w A n xs ∧ n ≤ c ∧ c ≤ 9223372036854775807 := by
  rcases open_ints ht he hc h with ⟨hcs, _⟩ | ⟨a, len, cap, zs, hcs, _, hl, hm, hz, _, hcell, hwf⟩
  · simp at hcs; subst hcs
    exact ⟨none, 0, 0, [], rfl, ⟨Rd.nil, by simp⟩, by omega, by omega⟩
  · simp at hcs; subst hcs
    simp at hz
    have hm' : cap ≤ 9223372036854775807 := by simp only [maxLen] at hm; omega
    refine ⟨some a, len, cap, zs.take len, rfl, ⟨⟨by rw [length_byts]; simp; omega, fun hn => ?_⟩, fun z hz' => ?_⟩, hl, hm'⟩
    · rw [length_byts] at hn
      simp at hn
      have h0 := hcell 0 (by omega)
      have hs : a = ⟨a.block, a.off, none⟩ := by
        rcases addr_none h0 with h1 | h1
        · exact h1
        · omega
      refine ⟨a.block, a.off, by rw [← hs], fun k hk => ?_⟩
      rw [length_byts] at hk
      simp at hk
      have hk' := hcell k (by omega)
      rw [hs, add_lit] at hk'
      rw [hk']
      simp [byts, List.getD, List.getElem?_eq_getElem (show k < zs.length by omega)]
    · have := hwf z (List.mem_of_mem_take hz')
      simpa [Lit.wf, IntKind.min, IntKind.max, IntKind.signed, IntKind.bits] using this
end

def longB (n m : Nat) : Bool := decide (1048576 < n) || decide (1048576 < m)
/-- The number below n that an input chooses at place k. -/
def r8AtF (xs : List Int) (k : Nat) (n : Int) : Int := if n ≤ 1 ∨ xs.length ≤ k then 0 else (xs.getD k 0) % n
theorem r8AtF_range (xs : List Int) (k : Nat) (n : Int) (h : ∀ x ∈ xs, 0 ≤ x ∧ x ≤ 255) : 0 ≤ r8AtF xs k n ∧ (1 ≤ n → r8AtF xs k n < n) := by
  unfold r8AtF
  split
  · omega
  · rename_i h1
    have h2 : 1 < n := by omega
    exact ⟨Int.emod_nonneg _ (by omega), fun _ => Int.emod_lt_of_pos _ (by omega)⟩
end Go.Proofs.YtokglpdlhacnaaaDoor

/-
  Whether two lists are equal (r8Same).
-/
namespace Go.Proofs.YtokglpdlhacnaaaDoor
open Go.RowKit

/-- A slice that came in lies in a block that is there. -/
theorem okWide_blk {P : Program} {w : World} {r : Reach} {base : Nat} {t e : TypeId} {A : Option Addr} {n c : Nat} (ht : P.underlying t = some (.slice e)) (h : Value.okWide P w r base t (.slice A n c)) : ∀ k, blk A = some k → k < w.heap.size := by
  intro k hk
  cases A with
  | none => cases hk
  | some a =>
    simp only [Value.okWide, ht, Cell.okWide, Cell.ok] at h
    obtain ⟨_, _, _, _, row, cells, hs, _⟩ := h
    have hk' : a.block = k := by simpa [blk] using hk
    subst hk'
    refine Nat.lt_of_not_le fun hle => ?_
    unfold World.shape? at hs
    rw [Array.getElem?_eq_none hle] at hs
    cases hs
end Go.Proofs.YtokglpdlhacnaaaDoor

/-
  Contracts of impl's partialOf, ValidPartial.
-/
namespace Go.Proofs.YtokglpdlhacnaaaDoor
open Go.RowKit

set_option maxRecDepth 100000 in
set_option maxHeartbeats 4000000 in
theorem partialOf_any (sy st : Int) (B : Option Addr) (m k : Nat) (q p : Int) (A : Option Addr) (n c : Nat) (xs : List Int) (w : World) (hx : SI w A n xs) (hn : n ≤ 1048576) (h1 : 2 ≤ sy) (h2 : sy ≤ 6) (h3 : 1 ≤ st) (h4 : st ≤ 1000) :
    Calls Tryd.prog 101 #[.agg #[.int .i64 sy, .int .i64 st, .slice B m k], .agg #[.int .i64 q, .int .i64 p, .slice A n c]] w fun e w' => e = .returned (.bool (paB sy st ⟨q, p, xs⟩)) ∧ Below w.heap.size w w' := by
  obtain ⟨V, hW_⟩ : ∃ W, W = (w.alloc (.cells #[.int .i64 sy, .int .i64 st, .slice B m k] 43)).alloc (.cells #[.int .i64 q, .int .i64 p, .slice A n c] 58) := ⟨_, rfl⟩
  have s_1 : (w.alloc (.cells #[.int .i64 sy, .int .i64 st, .slice B m k] 43)).heap.size = w.heap.size + 1 := by simp
  have b0 : Blk V w.heap.size 43 #[.int .i64 sy, .int .i64 st, .slice B m k] := by rw [hW_]; exact (Blk.new w _ _).alloc _
  have b1 : Blk V (w.heap.size + 1) 58 #[.int .i64 q, .int .i64 p, .slice A n c] := by rw [hW_, ← s_1]; exact Blk.new _ _ _
  have y0 : Below w.heap.size w V := by rw [hW_]; exact ((Below.refl _ _).alloc (Nat.le_refl _) _).alloc (by simp) _
  have HV := Lib.hid hW_
  clear hW_ s_1
  have q0 : V.cell? ⟨w.heap.size, 0, none⟩ = some (.int .i64 sy) := b0.cell 0
  have q1 : V.cell? ⟨w.heap.size, 1, none⟩ = some (.int .i64 st) := b0.cell 1
  have q2 : V.cell? ⟨w.heap.size, 2, none⟩ = some (.slice B m k) := b0.cell 2
  have u0 : V.cell? ⟨(w.heap.size + 1), 0, none⟩ = some (.int .i64 q) := b1.cell 0
  have u1 : V.cell? ⟨(w.heap.size + 1), 1, none⟩ = some (.int .i64 p) := b1.cell 1
  have u2 : V.cell? ⟨(w.heap.size + 1), 2, none⟩ = some (.slice A n c) := b1.cell 2
  have HL := Lib.hid hx.len
  have hxV := hx.below y0
  have HP : Hid (paB sy st ⟨q, p, xs⟩ = (inB q 0 (st - 1) && inB (n : Int) 1 60 && inB p 0 ((n : Int) - 1) && allIn xs 0 (sy - 1))) := Lib.hid (by unfold paB; dsimp only; rw [HL.out])
  have w1 : IntKind.i64.wrap (st - 1) = st - 1 := IntWalk.i64_in _ (by omega)
  have w2 : IntKind.i64.wrap ((n : Int) - 1) = (n : Int) - 1 := IntWalk.i64_in _ (by omega)
  have w3 : IntKind.i64.wrap (sy - 1) = sy - 1 := IntWalk.i64_in _ (by omega)
  clear b0 b1 hx h1 h2 h3 h4
  cases a1 : inB q 0 (st - 1)
  · go_enter Tryd.func101, Tryd.ntmps101
    go_upto_region 1 with fail
    rw [← HV.out]
    go_quiet ((first | (go_at_call 59; exact quiet_left (within_any _ _ _ _)) | (go_at_call 126; exact quiet_left (sizeI_any _ _ _ _ (by omega))) | (go_at_call 50; exact quiet_left (allWithin_any _ _ _ xs _ _ _ (hxV.drewN _) (by omega)))))
    go_wp2_with fail
    go_ret
    exact ⟨ret_bool (by rw [HP.out]; simp [*]), below_drewN y0 _⟩
  cases a2 : inB (n : Int) 1 60
  · go_enter Tryd.func101, Tryd.ntmps101
    go_upto_region 1 with fail
    rw [← HV.out]
    go_quiet ((first | (go_at_call 59; exact quiet_left (within_any _ _ _ _)) | (go_at_call 126; exact quiet_left (sizeI_any _ _ _ _ (by omega))) | (go_at_call 50; exact quiet_left (allWithin_any _ _ _ xs _ _ _ (hxV.drewN _) (by omega)))))
    go_wp2_with fail
    go_ret
    exact ⟨ret_bool (by rw [HP.out]; simp [*]), below_drewN y0 _⟩
  cases a3 : inB p 0 ((n : Int) - 1)
  · go_enter Tryd.func101, Tryd.ntmps101
    go_upto_region 1 with fail
    rw [← HV.out]
    go_quiet ((first | (go_at_call 59; exact quiet_left (within_any _ _ _ _)) | (go_at_call 126; exact quiet_left (sizeI_any _ _ _ _ (by omega))) | (go_at_call 50; exact quiet_left (allWithin_any _ _ _ xs _ _ _ (hxV.drewN _) (by omega)))))
    go_wp2_with fail
    go_ret
    exact ⟨ret_bool (by rw [HP.out]; simp [*]), below_drewN y0 _⟩
  go_enter Tryd.func101, Tryd.ntmps101
  go_upto_region 1 with fail
  rw [← HV.out]
  go_quiet ((first | (go_at_call 59; exact quiet_left (within_any _ _ _ _)) | (go_at_call 126; exact quiet_left (sizeI_any _ _ _ _ (by omega))) | (go_at_call 50; exact quiet_left (allWithin_any _ _ _ xs _ _ _ (hxV.drewN _) (by omega)))))
  go_wp2_with fail
  go_ret
  exact ⟨ret_bool (by rw [HP.out]; simp [*]), below_drewN y0 _⟩
set_option maxRecDepth 100000 in
set_option maxHeartbeats 4000000 in
theorem validPartial_any (sy st : Int) (B : Option Addr) (m k : Nat) (rs : List R3) (q p : Int) (A : Option Addr) (n c : Nat) (xs : List Int) (w : World) (hr : S3 w B m rs) (hx : SI w A n xs) (hm : m ≤ 1048576) (hn : n ≤ 1048576) :
    Calls Tryd.prog 72 #[.agg #[.int .i64 sy, .int .i64 st, .slice B m k], .agg #[.int .i64 q, .int .i64 p, .slice A n c]] w fun e w' => e = .returned (.bool (machB sy st rs && paB sy st ⟨q, p, xs⟩)) ∧ Below w.heap.size w w' := by
  obtain ⟨V, hW_⟩ : ∃ W, W = (w.alloc (.cells #[.int .i64 sy, .int .i64 st, .slice B m k] 43)).alloc (.cells #[.int .i64 q, .int .i64 p, .slice A n c] 58) := ⟨_, rfl⟩
  have s_1 : (w.alloc (.cells #[.int .i64 sy, .int .i64 st, .slice B m k] 43)).heap.size = w.heap.size + 1 := by simp
  have b0 : Blk V w.heap.size 43 #[.int .i64 sy, .int .i64 st, .slice B m k] := by rw [hW_]; exact (Blk.new w _ _).alloc _
  have b1 : Blk V (w.heap.size + 1) 58 #[.int .i64 q, .int .i64 p, .slice A n c] := by rw [hW_, ← s_1]; exact Blk.new _ _ _
  have y0 : Below w.heap.size w V := by rw [hW_]; exact ((Below.refl _ _).alloc (Nat.le_refl _) _).alloc (by simp) _
  have HV := Lib.hid hW_
  clear hW_ s_1
  have q0 : V.cell? ⟨w.heap.size, 0, none⟩ = some (.int .i64 sy) := b0.cell 0
  have q1 : V.cell? ⟨w.heap.size, 1, none⟩ = some (.int .i64 st) := b0.cell 1
  have q2 : V.cell? ⟨w.heap.size, 2, none⟩ = some (.slice B m k) := b0.cell 2
  go_enter Tryd.func72, Tryd.ntmps72
  go_upto_region 1 with fail
  rw [← HV.out]
  go_wp2_with fail
  refine (validMachine_any _ _ _ _ _ rs _ (hr.below y0) hm).mono ?_
  rintro e w2 ⟨rfl, z2⟩
  have y2 : Below w.heap.size w w2 := y0.trans (z2.mono y0.size)
  cases a1 : machB sy st rs
  · have A1 := Lib.hid a1
    clear a1
    go_wp2_with fail
    go_ret
    exact ⟨ret_bool (by rw [A1.out]; simp), y2⟩
  · obtain ⟨p1, p2, p3, p4, _, _⟩ := machB_parts a1
    have A1 := Lib.hid a1
    clear a1
    have c0 := b0.below' z2
    have c1 := b1.below' z2
    have v0 : w2.cell? ⟨w.heap.size, 0, none⟩ = some (.int .i64 sy) := c0.cell 0
    have v1 : w2.cell? ⟨w.heap.size, 1, none⟩ = some (.int .i64 st) := c0.cell 1
    have v2 : w2.cell? ⟨w.heap.size, 2, none⟩ = some (.slice B m k) := c0.cell 2
    have u0 : w2.cell? ⟨(w.heap.size + 1), 0, none⟩ = some (.int .i64 q) := c1.cell 0
    have u1 : w2.cell? ⟨(w.heap.size + 1), 1, none⟩ = some (.int .i64 p) := c1.cell 1
    have u2 : w2.cell? ⟨(w.heap.size + 1), 2, none⟩ = some (.slice A n c) := c1.cell 2
    clear q0 q1 q2
    go_wp2_with fail
    refine (partialOf_any _ _ _ _ _ _ _ _ _ _ xs _ (hx.below y2) hn p1 p2 p3 p4).mono ?_
    rintro e w3 ⟨rfl, z3⟩
    go_wp2_with fail
    go_ret
    exact ⟨ret_bool (by rw [A1.out]; simp), y2.trans (z3.mono y2.size)⟩
end Go.Proofs.YtokglpdlhacnaaaDoor

/-
  The program's AncestorsOf.
-/
namespace Go.Proofs.YtokglpdlhacnaaaDoor
open Go.RowKit

/-- A list of partial configurations with a code, in new memory. -/
def PasB (w : World) (r : List Pa × Int) (e : Ending) (w' : World) : Prop :=
  ∃ A c ts, e = .returned (.tuple #[.slice A ts.length c, .int .i64 r.2]) ∧ OPs w' w.heap.size A ts.length c ts ∧ pas ts = r.1 ∧ Below w.heap.size w w'
theorem pasB {w w' : World} {r : List Pa × Int} {b : Int} {A : Option Addr} {n c : Nat} {ts : List Pm} (h : r = (pas ts, b)) (hn : n = ts.length) (o : OPs w' w.heap.size A n c ts) (k : Below w.heap.size w w') : PasB w r (.returned (.tuple #[.slice A n c, .int .i64 b])) w' := by
  subst h hn; exact ⟨A, c, ts, rfl, o, rfl, k⟩
theorem OPs.void {w : World} {lo : Nat} : OPs w lo none 0 0 [] := OPs.nil Own.nil
set_option maxRecDepth 100000 in
set_option maxHeartbeats 8000000 in
theorem ancestorsI_any (sy st : Int) (B : Option Addr) (m k : Nat) (rs : List R3) (q p : Int) (A : Option Addr) (n c : Nat) (xs : List Int) (b : Int) (w : World) (hr : S3 w B m rs) (hx : SI w A n xs) (hm : m ≤ 1048576) (hn : n ≤ 1048576) (ht : Tab w) :
    Calls Tryd.prog 32 #[.agg #[.int .i64 sy, .int .i64 st, .slice B m k], .agg #[.int .i64 q, .int .i64 p, .slice A n c], .int .i64 b] w (PasB w (ancR sy st rs ⟨q, p, xs⟩ b)) := by
  have HL := Lib.hid hx.len
  obtain ⟨V, hW_⟩ : ∃ W, W = (w.alloc (.cells #[.int .i64 sy, .int .i64 st, .slice B m k] 43)).alloc (.cells #[.int .i64 q, .int .i64 p, .slice A n c] 58) := ⟨_, rfl⟩
  have s_1 : (w.alloc (.cells #[.int .i64 sy, .int .i64 st, .slice B m k] 43)).heap.size = w.heap.size + 1 := by simp
  have b0 : Blk V w.heap.size 43 #[.int .i64 sy, .int .i64 st, .slice B m k] := by rw [hW_]; exact (Blk.new w _ _).alloc _
  have b1 : Blk V (w.heap.size + 1) 58 #[.int .i64 q, .int .i64 p, .slice A n c] := by rw [hW_, ← s_1]; exact Blk.new _ _ _
  have y0 : Below w.heap.size w V := by rw [hW_]; exact ((Below.refl _ _).alloc (Nat.le_refl _) _).alloc (by simp) _
  have HV := Lib.hid hW_
  clear hW_ s_1
  have u0 : V.cell? ⟨w.heap.size, 0, none⟩ = some (.int .i64 sy) := b0.cell 0
  have u1 : V.cell? ⟨w.heap.size, 1, none⟩ = some (.int .i64 st) := b0.cell 1
  have u2 : V.cell? ⟨w.heap.size, 2, none⟩ = some (.slice B m k) := b0.cell 2
  have v0 : V.cell? ⟨(w.heap.size + 1), 0, none⟩ = some (.int .i64 q) := b1.cell 0
  have v1 : V.cell? ⟨(w.heap.size + 1), 1, none⟩ = some (.int .i64 p) := b1.cell 1
  have v2 : V.cell? ⟨(w.heap.size + 1), 2, none⟩ = some (.slice A n c) := b1.cell 2
  have HB0 := Lib.hid b0
  have HB1 := Lib.hid b1
  have HRW := Lib.hid hr
  have HXW := Lib.hid hx
  have HT := Lib.hid ht
  have HY0 := Lib.hid y0
  have HVP := Lib.hid (validPartial_any sy st B m k rs q p A n c xs V (hr.below y0) (hx.below y0) hm hn)
  clear b0 b1 y0 hr hx ht
  go_enter Tryd.func32, Tryd.ntmps32
  go_upto_region 1 with fail
  rw [← HV.out]
  cases hv : (machB sy st rs && paB sy st ⟨q, p, xs⟩) with
  | false =>
    have HE : Hid (ancR sy st rs ⟨q, p, xs⟩ b = (pas [], 1)) := Lib.hid (by unfold ancR; rw [hv]; rfl)
    rw [hv] at HVP
    clear hv
    go_wp2_with (go_at_call 72; refine HVP.out.mono ?_; rintro e w2 ⟨rfl, z2⟩)
    exact bodyPost_ret (v := .tuple #[.slice none 0 0, .int .i64 1]) (by simp [results, Tryd.results32, go_sem]) rfl (pasB HE.out rfl OPs.void (HY0.out.trans (z2.mono HY0.out.size)))
  | true =>
    rw [hv] at HVP
    have HVV := Lib.hid hv
    have hv2 := hv
    simp only [Bool.and_eq_true] at hv2
    have HM := Lib.hid hv2.1
    have HPA := Lib.hid hv2.2
    clear hv hv2
    go_upto_region 3 with (go_at_call 72; refine HVP.out.mono ?_; rintro e w2 ⟨rfl, z2⟩)
    have HZ2 := Lib.hid (HY0.out.trans (z2.mono HY0.out.size))
    have HB02 := Lib.hid (HB0.out.below' z2)
    have HB12 := Lib.hid (HB1.out.below' z2)
    clear u0 u1 u2 v0 v1 v2 z2
    cases hb : inB b 0 60 with
    | false =>
      have HE : Hid (ancR sy st rs ⟨q, p, xs⟩ b = (pas [], 2)) := Lib.hid (by unfold ancR; rw [HVV.out, hb]; rfl)
      have HB := Lib.hid hb
      clear hb
      go_wp2_with (go_at_call 59; refine (within_any _ _ _ _).mono ?_; rintro e w' ⟨rfl, rfl⟩; rw [HB.out])
      exact bodyPost_ret (v := .tuple #[.slice none 0 0, .int .i64 2]) (by simp [results, Tryd.results32, go_sem]) rfl (pasB HE.out rfl OPs.void HZ2.out)
    | true =>
      have hb' : 0 ≤ b ∧ b ≤ 60 := by simpa [inB_iff] using hb
      obtain ⟨hb0, hb1⟩ := hb'
      obtain ⟨D, rfl⟩ : ∃ D : Nat, b = (D : Int) := ⟨b.toNat, by omega⟩
      have HE : Hid (ancR sy st rs ⟨q, p, xs⟩ (D : Int) = listR (ancF sy rs D [⟨q, p, xs⟩])) := Lib.hid (by unfold ancR; rw [HVV.out, hb, Int.toNat_natCast]; rfl)
      have HB := Lib.hid hb
      clear hb
      go_upto_region 5 with (go_at_call 59; refine (within_any _ _ _ _).mono ?_; rintro e w' ⟨rfl, rfl⟩; rw [HB.out])
      have v0 : w2.cell? ⟨(w.heap.size + 1), 0, none⟩ = some (.int .i64 q) := HB12.out.cell 0
      have v1 : w2.cell? ⟨(w.heap.size + 1), 1, none⟩ = some (.int .i64 p) := HB12.out.cell 1
      have v2 : w2.cell? ⟨(w.heap.size + 1), 2, none⟩ = some (.slice A n c) := HB12.out.cell 2
      have HCL := Lib.hid (cloneI_any A n c xs w2 (HXW.out.below HZ2.out) (by omega))
      go_upto_region 6 with (go_at_call 73; refine HCL.out.mono ?_; rintro e w3 ⟨L, a, rfl, oL, z3⟩; have hB13 := HB12.out.below' z3; have r2 : w3.cell? ⟨w.heap.size + 1, 2, none⟩ = some (.slice A n c) := hB13.cell 2; have f2 := hB13.frozen 2)
      obtain ⟨W4, hW4⟩ : ∃ W4, W4 = w3.setCell ⟨w.heap.size + 1, 2, none⟩ (.slice L xs.length a) := ⟨_, rfl⟩
      rw [← hW4]
      have hz3 := HZ2.out.trans (z3.mono HZ2.out.size)
      have hz4 : Below w.heap.size w W4 := by rw [hW4]; exact hz3.setCell (by show w.heap.size ≤ w.heap.size + 1; omega) _
      have hB04 : Blk W4 w.heap.size 43 #[.int .i64 sy, .int .i64 st, .slice B m k] := by rw [hW4]; exact (HB02.out.below' z3).far (by show w.heap.size ≠ w.heap.size + 1; omega) _
      have hB14 : Blk W4 (w.heap.size + 1) 58 #[.int .i64 q, .int .i64 p, .slice L xs.length a] := by rw [hW4]; exact hB13.set_ 2 _
      have hoL : Own W4 w.heap.size 2 1 L xs.length a (ints xs) := by rw [hW4]; exact (oL.mono HZ2.out.size).far (hB13.apt oL (by decide)) _
      have HZ4 := Lib.hid hz4
      have hw4 : w.heap.size + 1 < W4.heap.size := hB14.lt
      have u0 : W4.cell? ⟨w.heap.size, 0, none⟩ = some (.int .i64 sy) := hB04.cell 0
      have u1 : W4.cell? ⟨w.heap.size, 1, none⟩ = some (.int .i64 st) := hB04.cell 1
      have u2 : W4.cell? ⟨w.heap.size, 2, none⟩ = some (.slice B m k) := hB04.cell 2
      have v0 : W4.cell? ⟨(w.heap.size + 1), 0, none⟩ = some (.int .i64 q) := hB14.cell 0
      have v1 : W4.cell? ⟨(w.heap.size + 1), 1, none⟩ = some (.int .i64 p) := hB14.cell 1
      have v2 : W4.cell? ⟨(w.heap.size + 1), 2, none⟩ = some (.slice L xs.length a) := hB14.cell 2
      have HOL := Lib.hid hoL
      clear hW4 hB04 hB14 hB13 hz3 hz4 hoL oL z3 r2 f2
      go_upto_region 7 with fail
      obtain ⟨W5, hW5⟩ : ∃ W5, W5 = W4.alloc (.cells #[.int .i64 q, .int .i64 p, .slice L xs.length a] 58) := ⟨_, rfl⟩
      rw [← hW5]
      have h5 : W5.heap.size = W4.heap.size + 1 := by rw [hW5]; simp
      rw [← h5]
      obtain ⟨W6, hW6⟩ : ∃ W6, W6 = W5.alloc (.cells #[.int .i64 sy, .int .i64 st, .slice B m k, .slice (some ⟨W4.heap.size, 0, none⟩) 1 1, .int .i64 18300] 98) := ⟨_, rfl⟩
      rw [← hW6]
      have z5 : Below W4.heap.size W4 W5 := by rw [hW5]; exact (Below.refl _ _).alloc (Nat.le_refl _) _
      have z6 : Below W5.heap.size W5 W6 := by rw [hW6]; exact (Below.refl _ _).alloc (Nat.le_refl _) _
      have hHd : Own W5 W4.heap.size 58 3 (some ⟨W4.heap.size, 0, none⟩) 1 1 ([(⟨q, p, L, a, xs⟩ : Pm)].flatMap Pm.cells) := by rw [hW5]; exact Own.lit W4 #[.int .i64 q, .int .i64 p, .slice L xs.length a] _ 1 3 W4.heap.size rfl (by simp [maxLen]) (Nat.le_refl _)
      have hO6 : OPs W6 w.heap.size (some ⟨W4.heap.size, 0, none⟩) 1 1 [⟨q, p, L, a, xs⟩] := (OPs.one (hHd.mono HZ4.out.size) (HOL.out.below z5)).below z6
      have hL6 : Lev W6 W5.heap.size sy st B m k (some ⟨W4.heap.size, 0, none⟩) [(⟨q, p, L, a, xs⟩ : Pm)].length 1 18300 := by rw [hW6]; exact Blk.new _ _ _
      have HZ6 : Hid (Below w.heap.size w W6) := Lib.hid ((HZ4.out.trans (z5.mono HZ4.out.size)).trans (z6.mono (by have := HZ4.out.size; omega)))
      have HG : Hid (w.heap.size ≤ W5.heap.size) := Lib.hid (by omega)
      have HGB : Hid (blk B ≠ some W5.heap.size) := Lib.hid (fun h => by have h1 := mach_blk HRW.out HM.out _ h; have := HG.out; omega)
      have HL6 := Lib.hid hL6
      have HO6 := Lib.hid hO6
      have HOK := Lib.hid (paB_ok HPA.out)
      clear hW5 hW6 z5 z6 hHd hO6 hL6 h5 u0 u1 u2 v0 v1 v2
      go_wp2_with fail
      go_loopw [27] (fun i wr => ∃ (j : Nat) (A' : Option Addr) (c' : Nat) (us : List Pm) (s' : Int), j ≤ D ∧ i = .int .i64 (j : Int) ∧ Hid (Lev wr W5.heap.size sy st B m k A' us.length c' s') ∧ Hid (OPs wr w.heap.size A' us.length c' us) ∧ Hid (ancF sy rs D [⟨q, p, xs⟩] = ancF sy rs (D - j) (pas us)) ∧ Hid (∀ x ∈ pas us, PaOk sy st x ∧ x.cs.length ≤ 60) ∧ Hid (300 * (61 - (j : Int)) ≤ s' ∧ s' ≤ 18300) ∧ Hid (us.length ≤ 300) ∧ Hid (Kb W5.heap.size W6 wr)) (fun i _ => D - (intOf i).toNat)
      case atStart => exact ⟨0, _, 1, [⟨q, p, L, a, xs⟩], 18300, Nat.zero_le _, rfl, HL6, HO6, Lib.hid rfl, Lib.hid (fun x hx => by obtain rfl := List.mem_singleton.1 hx; exact HOK.out), Lib.hid (by omega), Lib.hid (by simp), Lib.hid (Kb.refl _ _)⟩
      case round =>
        obtain ⟨j, A', c', us, s', hj, rfl, HL1, HO1, HD1, HOK1, HS1, HN1, HKb⟩ := hrel
        rename World => W0
        have HKW : Hid (Kb W5.heap.size w W0) := Lib.hid ((Kb.of_below HZ6.out).trans HKb.out)
        by_cases hjD : j < D
        rotate_left
        · have j1 : ¬ (j : Int) < (D : Int) := by omega
          have x3 : W0.cell? ⟨W5.heap.size, 3, none⟩ = some (.slice A' us.length c') := HL1.out.cell 3
          have HE2 : Hid (ancR sy st rs ⟨q, p, xs⟩ (D : Int) = (pas us, 0)) := Lib.hid (by rw [HE.out, HD1.out, show D - j = 0 by omega]; rfl)
          go_wp2_with fail
          exact bodyPost_ret (v := .tuple #[.slice A' us.length c', .int .i64 0]) (by simp [results, Tryd.results32, go_sem]) rfl (pasB HE2.out rfl HO1.out (HKW.out.below (Below.refl _ _) HG.out))
        have j1 : (j : Int) < (D : Int) := by omega
        have HPL : Hid (((pas us).length : Int) = us.length) := Lib.hid (by simp [pas])
        have HCALL : Hid (Calls Tryd.prog 74 #[.pointer (some ⟨W5.heap.size, 0, none⟩)] W0 (NextPost W0 W5.heap.size sy st B m k rs (pas us) s')) := Lib.hid (
          levelNext_any W5.heap.size w.heap.size sy st B m k rs A' us.length c' us s' W0 HL1.out HO1.out (HRW.out.keep fun p hp he => World.cell?_of_block (HKW.out.block p.block hp (fun e => HGB.out (by rw [← he, e])))) HM.out HGB.out HOK1.out (by have := HS1.out; omega) (by have := HN1.out; omega) ((HT.out.below HZ6.out).kb HKb.out HL6.out (by simp)))
        have HJ : Hid (D - j = (D - (j + 1)) + 1) := Lib.hid (by omega)
        have HLE : Hid (((pas us).length : Int) ≤ s') := Lib.hid (by rw [HPL.out]; have := HS1.out; have := HN1.out; omega)
        cases hnx : nextF sy rs (pas us) with
        | none =>
          have HE2 : Hid (ancR sy st rs ⟨q, p, xs⟩ (D : Int) = (pas [], 5)) := Lib.hid (by rw [HE.out, HD1.out, HJ.out, ancF_full hnx]; rfl)
          have HC2 := Lib.hid (HCALL.out.mono fun e w2 h => h.no (.inr hnx))
          clear hnx
          go_wp2_with (go_at_call 74; refine HC2.out.mono ?_; rintro e w7 ⟨rfl, hk2⟩)
          exact bodyPost_ret (v := .tuple #[.slice none 0 0, .int .i64 5]) (by simp [results, Tryd.results32, go_sem]) rfl (pasB HE2.out rfl OPs.void ((HKW.out.trans hk2).below (Below.refl _ _) HG.out))
        | some l =>
          have HD2 : Hid (ancF sy rs D [⟨q, p, xs⟩] = ancF sy rs (D - (j + 1)) l) := Lib.hid (by rw [HD1.out, HJ.out, ancF_next hnx])
          have HOK2 := Lib.hid (nextF_ok HM.out HOK1.out hnx)
          have HC2 := Lib.hid (HCALL.out.mono fun e w2 h => h.yes HLE.out hnx)
          have HW0 : Hid (w.heap.size ≤ W0.heap.size) := Lib.hid HKW.out.size
          clear hnx
          go_wp2_with (go_at_call 74; refine HC2.out.mono ?_; rintro e w7 ⟨A2, c2, ts2, rfl, hL2, hO2, hp2, hk2⟩; have HL2 := Lib.hid hL2; have HO2 := Lib.hid hO2; have HP2 := Lib.hid hp2; clear hL2 hO2 hp2)
          have HN2 : Hid (ts2.length ≤ 300) := Lib.hid (by have h1 := HOK2.out.2; rw [← HP2.out] at h1; simpa [pas] using h1)
          have HS8 : Hid (300 * (61 - ((j + 1 : Nat) : Int)) ≤ s' - ((pas us).length : Int) ∧ s' - ((pas us).length : Int) ≤ 18300) := Lib.hid (by have h1 := HS1.out; have h2 := HPL.out; have h3 := HN1.out; omega)
          go_roundw
          case rel => exact ⟨j + 1, A2, c2, ts2, s' - ((pas us).length : Int), by omega, by go_num, HL2, Lib.hid (HO2.out.mono HW0.out), by rw [HP2.out]; exact HD2, by rw [HP2.out]; exact Lib.hid HOK2.out.1, HS8, HN2, Lib.hid (HKb.out.trans hk2)⟩
          case measure => simp [intOf]; omega
end Go.Proofs.YtokglpdlhacnaaaDoor

/-
  Contracts of impl's symbolAt, MatchesPartial, HaltingPartials.
-/
namespace Go.Proofs.YtokglpdlhacnaaaDoor
open Go.RowKit

/-- Whether a configuration matches a partial one. -/
def matC (x : Pa) (c : Conf) : Bool := decide (c.q = x.q) && (List.range x.cs.length).all fun k => decide (cellC c ((k : Int) - x.at_) = x.cs.getD k 0)
theorem matC_of {x : Pa} {c : Conf} (h : matchP x c) : matC x c = true := by
  unfold matC
  rw [decide_eq_true h.1.symm, Bool.true_and, List.all_eq_true]
  intro k hk
  rw [List.mem_range] at hk
  exact decide_eq_true (h.2 k hk).symm
theorem matC_q {x : Pa} {c : Conf} (h : ¬ c.q = x.q) : matC x c = false := by
  unfold matC; rw [decide_eq_false h]; rfl
theorem matC_not {x : Pa} {c : Conf} {k : Nat} (hk : k < x.cs.length) (h : ¬ cellC c ((k : Int) - x.at_) = x.cs.getD k 0) : matC x c = false := by
  unfold matC
  rw [Bool.and_eq_false_iff]
  right
  rw [List.all_eq_false]
  exact ⟨k, List.mem_range.2 hk, by simpa using h⟩
theorem matC_yes {x : Pa} {c : Conf} (hq : c.q = x.q) (h : ∀ k : Nat, k < x.cs.length → cellC c ((k : Int) - x.at_) = x.cs.getD k 0) : matC x c = true := by
  unfold matC
  rw [decide_eq_true hq, Bool.true_and, List.all_eq_true]
  intro k hk
  rw [List.mem_range] at hk
  exact decide_eq_true (h k hk)
theorem symbolAt_any (A : Option Addr) (n c : Nat) (xs : List Int) (d : Nat) (w : World) (hx : SI w A n xs) (hn : n ≤ 1048576) :
    Calls Tryd.prog 83 #[.slice A n c, .int .i64 (d : Int)] w fun e w' => e = .returned (.int .i64 (xs.getD d 0)) ∧ w = w' := by
  have hl := hx.len
  by_cases h : d < n
  · obtain ⟨b, off, rfl, _, hc⟩ := hx.at_ h
    have i1 : ¬ (n : Int) ≤ (d : Int) := by omega
    have i2 : (d : Int) < (n : Int) := by omega
    have i3 : (0 : Int) ≤ (d : Int) := by omega
    have e : xs.getD d 0 = xs[d]'(by omega) := by rw [List.getD_eq_getElem?_getD, List.getElem?_eq_getElem (by omega)]; rfl
    rw [← e] at hc
    generalize xs.getD d 0 = u at *
    clear e
    go_enter Tryd.func83, Tryd.ntmps83
    go_wp2_with fail
    go_ret
    exact ⟨rfl, rfl⟩
  · have i1 : (n : Int) ≤ (d : Int) := by omega
    have e : xs.getD d 0 = 0 := by rw [List.getD_eq_getElem?_getD, List.getElem?_eq_none (by omega)]; rfl
    rw [e]
    go_enter Tryd.func83, Tryd.ntmps83
    go_wp2_with fail
    go_ret
    exact ⟨rfl, rfl⟩
set_option maxRecDepth 100000 in
set_option maxHeartbeats 8000000 in
theorem matches_any (sy st : Int) (B : Option Addr) (m k : Nat) (rs : List R3) (q p : Int) (A : Option Addr) (n c : Nat) (xs : List Int) (cq : Int) (L : Option Addr) (l lc : Nat) (ls : List Int) (Y : Option Addr) (y yc : Nat) (ys : List Int) (w : World) (hr : S3 w B m rs) (hx : SI w A n xs) (hl : SI w L l ls) (hy : SI w Y y ys)
    (hm : machB sy st rs = true) (hp : paB sy st ⟨q, p, xs⟩ = true) (hc : confB sy st cq ls ys = true) (hmn : m ≤ 1048576) (hn : n ≤ 1048576) (hln : l ≤ 1048576) (hyn : y ≤ 1048576) :
    Calls Tryd.prog 42 #[.agg #[.int .i64 sy, .int .i64 st, .slice B m k], .agg #[.int .i64 q, .int .i64 p, .slice A n c], .agg #[.int .i64 cq, .slice L l lc, .slice Y y yc]] w fun e w' => e = .returned (.bool (matC ⟨q, p, xs⟩ ⟨cq, ls, ys⟩)) ∧ Below w.heap.size w w' := by
  obtain ⟨p1, p2, p3, p4, _, _⟩ := machB_parts hm
  obtain ⟨V, hW_⟩ : ∃ W, W = ((w.alloc (.cells #[.int .i64 sy, .int .i64 st, .slice B m k] 43)).alloc (.cells #[.int .i64 q, .int .i64 p, .slice A n c] 58)).alloc (.cells #[.int .i64 cq, .slice L l lc, .slice Y y yc] 68) := ⟨_, rfl⟩
  have s_1 : (w.alloc (.cells #[.int .i64 sy, .int .i64 st, .slice B m k] 43)).heap.size = w.heap.size + 1 := by simp
  have s_2 : ((w.alloc (.cells #[.int .i64 sy, .int .i64 st, .slice B m k] 43)).alloc (.cells #[.int .i64 q, .int .i64 p, .slice A n c] 58)).heap.size = w.heap.size + 1 + 1 := by simp
  have b0 : Blk V w.heap.size 43 #[.int .i64 sy, .int .i64 st, .slice B m k] := by rw [hW_]; exact ((Blk.new w _ _).alloc _).alloc _
  have b1 : Blk V (w.heap.size + 1) 58 #[.int .i64 q, .int .i64 p, .slice A n c] := by rw [hW_, ← s_1]; exact (Blk.new _ _ _).alloc _
  have b2 : Blk V (w.heap.size + 1 + 1) 68 #[.int .i64 cq, .slice L l lc, .slice Y y yc] := by rw [hW_, ← s_2]; exact Blk.new _ _ _
  have y0 : Below w.heap.size w V := by rw [hW_]; exact (((Below.refl _ _).alloc (Nat.le_refl _) _).alloc (by simp) _).alloc (by simp; omega) _
  have HV := Lib.hid hW_
  clear hW_ s_1 s_2
  have hvp := validPartial_any sy st B m k rs q p A n c xs V (hr.below y0) (hx.below y0) hmn hn
  rw [hm, hp] at hvp
  have HVP := Lib.hid hvp
  have hcf : ∀ W, Below V.heap.size V W → Calls Tryd.prog 82 #[.agg #[.int .i64 sy, .int .i64 st, .slice B m k], .agg #[.int .i64 cq, .slice L l lc, .slice Y y yc]] W fun e w' => e = .returned (.bool true) ∧ Below W.heap.size W w' := fun W z => hc ▸ configOf_any sy st B m k cq L l lc ls Y y yc ys W ((hl.below y0).below z) ((hy.below y0).below z) hln hyn p1 p2 p3 p4
  have HCF := Lib.hid hcf
  have HB0 := Lib.hid b0
  have HB1 := Lib.hid b1
  have HB2 := Lib.hid b2
  have HX := Lib.hid (hx.below y0)
  have HL := Lib.hid (hl.below y0)
  have HY := Lib.hid (hy.below y0)
  have HZ0 := Lib.hid y0
  have hok := (paB_ok hp)
  have HXL := Lib.hid hx.len
  have a0 : 0 ≤ p := hok.1.a0
  have a1 : p < (n : Int) := by have := hok.1.a1; dsimp only at this; rw [HXL.out] at this; exact this
  have a2 : n ≤ 60 := by have := hok.2; dsimp only at this; rw [HXL.out] at this; exact this
  have u0 : V.cell? ⟨w.heap.size, 0, none⟩ = some (.int .i64 sy) := b0.cell 0
  have u1 : V.cell? ⟨w.heap.size, 1, none⟩ = some (.int .i64 st) := b0.cell 1
  have u2 : V.cell? ⟨w.heap.size, 2, none⟩ = some (.slice B m k) := b0.cell 2
  have v0 : V.cell? ⟨(w.heap.size + 1), 0, none⟩ = some (.int .i64 q) := b1.cell 0
  have v1 : V.cell? ⟨(w.heap.size + 1), 1, none⟩ = some (.int .i64 p) := b1.cell 1
  have v2 : V.cell? ⟨(w.heap.size + 1), 2, none⟩ = some (.slice A n c) := b1.cell 2
  clear b0 b1 b2 hr hx hl hy y0 hvp hcf hok hm hp hc p1 p2 p3 p4
  go_enter Tryd.func42, Tryd.ntmps42
  go_upto_region 1 with fail
  rw [← HV.out]
  by_cases hq : cq = q
  rotate_left
  · have HF : Hid (matC ⟨q, p, xs⟩ ⟨cq, ls, ys⟩ = false) := Lib.hid (matC_q hq)
    have hq2 : (cq != q) = true := by simpa using hq
    go_wp2_with (first
      | (go_at_call 72; refine HVP.out.mono ?_; rintro e w2 ⟨rfl, z2⟩; have d0 := HB0.out.below' z2; have d2 := HB2.out.below' z2; have q0 : w2.cell? ⟨w.heap.size, 0, none⟩ = some (.int .i64 sy) := d0.cell 0; have q1 : w2.cell? ⟨w.heap.size, 1, none⟩ = some (.int .i64 st) := d0.cell 1; have q2 : w2.cell? ⟨w.heap.size, 2, none⟩ = some (.slice B m k) := d0.cell 2; have r0 : w2.cell? ⟨w.heap.size + 1 + 1, 0, none⟩ = some (.int .i64 cq) := d2.cell 0; have r1 : w2.cell? ⟨w.heap.size + 1 + 1, 1, none⟩ = some (.slice L l lc) := d2.cell 1; have r2 : w2.cell? ⟨w.heap.size + 1 + 1, 2, none⟩ = some (.slice Y y yc) := d2.cell 2)
      | (go_at_call 82; refine (HCF.out _ z2).mono ?_; rintro e w3 ⟨rfl, z3⟩; have z4 := z2.trans (z3.mono z2.size); have d1 := HB1.out.below' z4; have d3 := HB2.out.below' z4; have s0 : w3.cell? ⟨w.heap.size + 1, 0, none⟩ = some (.int .i64 q) := d1.cell 0; have s1 : w3.cell? ⟨w.heap.size + 1 + 1, 0, none⟩ = some (.int .i64 cq) := d3.cell 0))
    go_ret
    exact ⟨ret_bool (by rw [HF.out]), HZ0.out.trans (z4.mono HZ0.out.size)⟩
  subst hq
  go_upto_region 3 with (first
    | (go_at_call 72; refine HVP.out.mono ?_; rintro e w2 ⟨rfl, z2⟩; have d0 := HB0.out.below' z2; have d2 := HB2.out.below' z2; have q0 : w2.cell? ⟨w.heap.size, 0, none⟩ = some (.int .i64 sy) := d0.cell 0; have q1 : w2.cell? ⟨w.heap.size, 1, none⟩ = some (.int .i64 st) := d0.cell 1; have q2 : w2.cell? ⟨w.heap.size, 2, none⟩ = some (.slice B m k) := d0.cell 2; have r0 : w2.cell? ⟨w.heap.size + 1 + 1, 0, none⟩ = some (.int .i64 cq) := d2.cell 0; have r1 : w2.cell? ⟨w.heap.size + 1 + 1, 1, none⟩ = some (.slice L l lc) := d2.cell 1; have r2 : w2.cell? ⟨w.heap.size + 1 + 1, 2, none⟩ = some (.slice Y y yc) := d2.cell 2)
    | (go_at_call 82; refine (HCF.out _ z2).mono ?_; rintro e w3 ⟨rfl, z3⟩; have z4 := z2.trans (z3.mono z2.size); have d1 := HB1.out.below' z4; have d3 := HB2.out.below' z4; have s0 : w3.cell? ⟨w.heap.size + 1, 0, none⟩ = some (.int .i64 cq) := d1.cell 0; have s1 : w3.cell? ⟨w.heap.size + 1 + 1, 0, none⟩ = some (.int .i64 cq) := d3.cell 0))
  have HZ3 := Lib.hid (HZ0.out.trans (z4.mono HZ0.out.size))
  have hx3 := HX.out.below z4
  have HL3 := Lib.hid (HL.out.below z4)
  have HY3 := Lib.hid (HY.out.below z4)
  clear u0 u1 u2 v0 v1 v2 d0 d2 q0 q1 q2 r0 r1 r2 s0 s1 z2 z3 z4 HVP HCF HX HL HY HZ0
  have t1 : w3.cell? ⟨w.heap.size + 1, 1, none⟩ = some (.int .i64 p) := d1.cell 1
  have t2 : w3.cell? ⟨w.heap.size + 1, 2, none⟩ = some (.slice A n c) := d1.cell 2
  have t3 : w3.cell? ⟨w.heap.size + 1 + 1, 1, none⟩ = some (.slice L l lc) := d3.cell 1
  have t4 : w3.cell? ⟨w.heap.size + 1 + 1, 2, none⟩ = some (.slice Y y yc) := d3.cell 2
  clear d1 d3
  go_wp2_with fail
  go_loop [30] (fun i => ∃ j : Nat, j ≤ n ∧ i = .int .i64 (j : Int) ∧ Hid (∀ k : Nat, k < j → cellC ⟨cq, ls, ys⟩ ((k : Int) - p) = xs.getD k 0)) (fun i => n - (intOf i).toNat)
  case atStart => exact ⟨0, Nat.zero_le _, rfl, Lib.hid (fun k hk => absurd hk (Nat.not_lt_zero k))⟩
  case round =>
    obtain ⟨j, hj, rfl, HE⟩ := hrel
    by_cases hlt : j < n
    rotate_left
    · obtain rfl : j = n := by omega
      have i1 : ¬ (j : Int) < (j : Int) := by omega
      have HF : Hid (matC ⟨cq, p, xs⟩ ⟨cq, ls, ys⟩ = true) := Lib.hid (matC_yes rfl (fun k hk => HE.out k (by dsimp only at hk; rw [HXL.out] at hk; exact hk)))
      go_wp2_with fail
      go_ret
      exact ⟨ret_bool (by rw [HF.out]), HZ3.out⟩
    obtain ⟨b, off, rfl, _, hcx⟩ := hx3.at_ hlt
    have ex : xs.getD j 0 = xs[j]'(by rw [HXL.out]; exact hlt) := by rw [List.getD_eq_getElem?_getD, List.getElem?_eq_getElem (by rw [HXL.out]; exact hlt)]; rfl
    rw [← ex] at hcx
    clear ex
    obtain ⟨sv, hsv⟩ : ∃ sv, sv = xs.getD j 0 := ⟨_, rfl⟩
    rw [← hsv] at hcx
    have HSV := Lib.hid hsv
    have i1 : (j : Int) < (n : Int) := by omega
    clear hsv
    by_cases hd : p ≤ (j : Int)
    · obtain ⟨D, hD⟩ : ∃ D : Nat, (j : Int) - p = (D : Int) := ⟨((j : Int) - p).toNat, by omega⟩
      have w1 : IntKind.i64.wrap ((j : Int) - p) = (D : Int) := by rw [hD]; exact IntWalk.i64_in _ (by omega)
      have i2 : (0 : Int) ≤ (D : Int) := by omega
      have i3 : ¬ (D : Int) < 0 := by omega
      have HCC : Hid (cellC ⟨cq, ls, ys⟩ ((j : Int) - p) = ys.getD D 0) := Lib.hid (by rw [hD]; unfold cellC; rw [if_pos i2, Int.toNat_natCast])
      have HSA := Lib.hid (symbolAt_any Y y yc ys D w3 HY3.out (by omega))
      clear hD
      obtain ⟨g, hg⟩ : ∃ g, g = ys.getD D 0 := ⟨_, rfl⟩
      rw [← hg] at HCC HSA
      clear hg
      by_cases hgs : g = sv
      · have HN : Hid (∀ k : Nat, k < j + 1 → cellC ⟨cq, ls, ys⟩ ((k : Int) - p) = xs.getD k 0) := Lib.hid (fun k hk => by
          by_cases h : k = j
          · subst h; rw [HCC.out, hgs, HSV.out]
          · exact HE.out k (by omega))
        subst hgs
        go_wp2_with (go_at_call 83; refine HSA.out.mono ?_; rintro e w' ⟨rfl, rfl⟩)
        go_round
        case rel => exact ⟨j + 1, by omega, by go_num, HN⟩
        case measure => simp [intOf]; omega
      · have HF : Hid (matC ⟨cq, p, xs⟩ ⟨cq, ls, ys⟩ = false) := Lib.hid (matC_not (k := j) (by dsimp only; rw [HXL.out]; exact hlt) (by dsimp only; rw [HCC.out, ← HSV.out]; exact hgs))
        have hgs2 : (g != sv) = true := by simpa using hgs
        go_wp2_with (go_at_call 83; refine HSA.out.mono ?_; rintro e w' ⟨rfl, rfl⟩)
        go_ret
        exact ⟨ret_bool (by rw [HF.out]), HZ3.out⟩
    · obtain ⟨G, hG⟩ : ∃ G : Int, (j : Int) - p = G := ⟨_, rfl⟩
      obtain ⟨D, hD⟩ : ∃ D : Nat, -G - 1 = (D : Int) := ⟨(-G - 1).toNat, by omega⟩
      have w1 : IntKind.i64.wrap ((j : Int) - p) = G := by rw [hG]; exact IntWalk.i64_in _ (by omega)
      obtain ⟨G1, hG1⟩ : ∃ G1 : Int, -G = G1 := ⟨_, rfl⟩
      have w2 : IntKind.i64.wrap (-G) = G1 := by rw [hG1]; exact IntWalk.i64_in _ (by omega)
      have w4 : IntKind.i64.wrap (G1 - 1) = (D : Int) := by rw [← hG1, hD]; exact IntWalk.i64_in _ (by omega)
      have i2 : ¬ (0 : Int) ≤ G := by omega
      have i3 : G < 0 := by omega
      have HCC : Hid (cellC ⟨cq, ls, ys⟩ ((j : Int) - p) = ls.getD D 0) := Lib.hid (by rw [hG]; unfold cellC; rw [if_neg i2, hD, Int.toNat_natCast])
      have HSA := Lib.hid (symbolAt_any L l lc ls D w3 HL3.out (by omega))
      clear hD hG hG1
      obtain ⟨g, hg⟩ : ∃ g, g = ls.getD D 0 := ⟨_, rfl⟩
      rw [← hg] at HCC HSA
      clear hg
      by_cases hgs : g = sv
      · have HN : Hid (∀ k : Nat, k < j + 1 → cellC ⟨cq, ls, ys⟩ ((k : Int) - p) = xs.getD k 0) := Lib.hid (fun k hk => by
          by_cases h : k = j
          · subst h; rw [HCC.out, hgs, HSV.out]
          · exact HE.out k (by omega))
        subst hgs
        go_wp2_with (go_at_call 83; refine HSA.out.mono ?_; rintro e w' ⟨rfl, rfl⟩)
        go_round
        case rel => exact ⟨j + 1, by omega, by go_num, HN⟩
        case measure => simp [intOf]; omega
      · have HF : Hid (matC ⟨cq, p, xs⟩ ⟨cq, ls, ys⟩ = false) := Lib.hid (matC_not (k := j) (by dsimp only; rw [HXL.out]; exact hlt) (by dsimp only; rw [HCC.out, ← HSV.out]; exact hgs))
        have hgs2 : (g != sv) = true := by simpa using hgs
        go_wp2_with (go_at_call 83; refine HSA.out.mono ?_; rintro e w' ⟨rfl, rfl⟩)
        go_ret
        exact ⟨ret_bool (by rw [HF.out]), HZ3.out⟩
set_option maxHeartbeats 2000000 in
theorem halting_any (sy st : Int) (B : Option Addr) (m k : Nat) (rs : List R3) (w : World) (hr : S3 w B m rs) (hm : machB sy st rs = true) (hn : m ≤ 1048576) :
    Calls Tryd.prog 41 #[.agg #[.int .i64 sy, .int .i64 st, .slice B m k]] w (PasB w (hpF sy rs, 0)) := by
  obtain ⟨V, hW_⟩ : ∃ W, W = w.alloc (.cells #[.int .i64 sy, .int .i64 st, .slice B m k] 43) := ⟨_, rfl⟩
  have b0 : Blk V w.heap.size 43 #[.int .i64 sy, .int .i64 st, .slice B m k] := by rw [hW_]; exact Blk.new w _ _
  have y0 : Below w.heap.size w V := by rw [hW_]; exact (Below.refl _ _).alloc (Nat.le_refl _) _
  have HV := Lib.hid hW_
  clear hW_
  have u0 : V.cell? ⟨w.heap.size, 0, none⟩ = some (.int .i64 sy) := b0.cell 0
  have u1 : V.cell? ⟨w.heap.size, 1, none⟩ = some (.int .i64 st) := b0.cell 1
  have u2 : V.cell? ⟨w.heap.size, 2, none⟩ = some (.slice B m k) := b0.cell 2
  have hvm := validMachine_any sy st B m k rs V (hr.below y0) hn
  rw [hm] at hvm
  have HVM := Lib.hid hvm
  have HB := Lib.hid b0
  have HH := Lib.hid (fun W (z : Below V.heap.size V W) => haltingPartials_any sy st B m k rs W ((hr.below y0).below z) hm)
  have HZ0 := Lib.hid y0
  clear hvm b0 y0 hr hm
  go_enter Tryd.func41, Tryd.ntmps41
  go_upto_region 1 with fail
  rw [← HV.out]
  go_wp2_with (first
    | (go_at_call 65; refine HVM.out.mono ?_; rintro e w2 ⟨rfl, z2⟩; have d0 := HB.out.below' z2; have q0 : w2.cell? ⟨w.heap.size, 0, none⟩ = some (.int .i64 sy) := d0.cell 0; have q1 : w2.cell? ⟨w.heap.size, 1, none⟩ = some (.int .i64 st) := d0.cell 1; have q2 : w2.cell? ⟨w.heap.size, 2, none⟩ = some (.slice B m k) := d0.cell 2)
    | (go_at_call 81; refine (HH.out _ z2).mono ?_; rintro e w3 ⟨A, c, ts, rfl, hO, hp, z3⟩))
  have hz3 := z2.trans (z3.mono z2.size)
  exact bodyPost_ret (v := .tuple #[.slice A ts.length c, .int .i64 0]) (by simp [results, Tryd.results41, go_sem]) rfl (pasB (by rw [hp]) rfl (hO.mono (by have := HZ0.out.size; have := z2.size; omega)) (HZ0.out.trans (hz3.mono HZ0.out.size)))
end Go.Proofs.YtokglpdlhacnaaaDoor

/-
  What the law FnHaltLevels says of depths and sizes. No program is in sight.
-/
namespace Go.Proofs.YtokglpdlhacnaaaDoor
open Go.RowKit

theorem paB_of {sy st : Int} {x : Pa} (h : PaOk sy st x) (h60 : x.cs.length ≤ 60) : paB sy st x = true := by
  unfold paB allIn
  have h1 := h.len
  have h2 := h.q0
  have h3 := h.q1
  have h4 := h.a0
  have h5 := h.a1
  simp only [Bool.and_eq_true, inB_iff, List.all_eq_true]
  exact ⟨⟨⟨by omega, by omega⟩, by omega⟩, fun y hy => by have := h.cs y hy; omega⟩
theorem mem_idx {α : Type} {l : List α} {x : α} (h : x ∈ l) : ∃ k, k < l.length ∧ l[k]? = some x := by
  obtain ⟨k, hk, e⟩ := List.getElem_of_mem h
  exact ⟨k, hk, by rw [List.getElem?_eq_getElem hk, e]⟩
theorem hl_depth {sy st : Int} {rs : List R3} {b : Int} (hm : machB sy st rs = true) (hb : inB b 1 20000 = true) : bdepF sy st rs b = depR (hpO sy rs (depthF sy rs 60 0 b)) := by
  unfold bdepF; rw [codeF_bl, hm, hb]; rfl
theorem hl_lev {sy st : Int} {rs : List R3} {d : Nat} (hm : machB sy st rs = true) (hd : d ≤ 60) : levF sy st rs (d : Int) = listR (hpO sy rs fun l => sizesF sy rs d l [(l.length : Int)]) := by
  unfold levF; rw [hm, if_pos rfl, if_pos ((inB_iff _ _ _).2 (by omega)), Int.toNat_natCast]
theorem hl_run {sy st : Int} {rs : List R3} {c : Conf} {k : Nat} {b d : Int} (hc : goodC sy st rs c) (hA : Alive sy rs c k) (hh : haltC sy rs (itC sy rs c k) = true) (h : hpO sy rs (depthF sy rs 60 0 b) = some d) : (k : Int) < d := by
  unfold hpO at h
  split at h
  · cases h
  · have := depth_run hc hA hh h
    omega
theorem hl_sizes {sy : Int} {rs : List R3} {b : Int} {t : Nat} {s : List Int} (h : (hpO sy rs fun l => sizesF sy rs t l [(l.length : Int)]) = some s) :
    (∃ r, s = ((hpF sy rs).length : Int) :: r) ∧ ∀ d, hpO sy rs (depthF sy rs 60 0 b) = some d → d ≤ (t : Int) → ∃ r, s = r ++ [0] := by
  unfold hpO at h ⊢
  split at h
  · cases h
  · rename_i h3
    obtain ⟨r, hr⟩ := sizesF_first h
    refine ⟨⟨r, hr⟩, fun d hd hdt => ?_⟩
    rw [if_neg h3] at hd
    obtain ⟨j, h1, h2, _⟩ := depthF_anc hd
    exact sizesF_last (o := []) h h2 (by omega)
end Go.Proofs.YtokglpdlhacnaaaDoor

/-
  Contracts of the reference's l05OwnConfig, l05Halts, l05Step in the words of a configuration, and of l05Run.
-/
namespace Go.Proofs.YtokglpdlhacnaaaDoor
open Go.RowKit

set_option maxHeartbeats 2000000 in
theorem l05OwnConfig_any (f : Nat) (q : Int) (L : Option Addr) (m c : Nat) (xs : List Int) (R : Option Addr) (l d : Nat) (ys : List Int) (w : World) (hc : ConfAt w f q L m c R l d) (hx : SI w L m xs) (hy : SI w R l ys) (hm : m ≤ 1048576) (hl : l ≤ 1048576) :
    Calls Tryd.prog 107 #[.pointer (some ⟨f, 0, none⟩)] w (NewConf w q xs ys) := by
  obtain ⟨W, hW⟩ : ∃ W, W = w.alloc (.cells #[.int .i64 0, .slice none 0 0, .slice none 0 0] 68) := ⟨_, rfl⟩
  have b0 : Blk W w.heap.size 68 #[.int .i64 0, .slice none 0 0, .slice none 0 0] := by rw [hW]; exact Blk.new w _ _
  have y0 : Below w.heap.size w W := by rw [hW]; exact (Below.refl _ _).alloc (Nat.le_refl _) _
  have HW := Lib.hid hW
  clear hW
  have hcW := hc.below y0
  have q3 : W.cell? ⟨f, 0, none⟩ = some (.int .i64 q) := hcW.1
  have q4 : W.cell? ⟨f, 1, none⟩ = some (.slice L m c) := hcW.2.1
  have q5 : W.cell? ⟨f, 2, none⟩ = some (.slice R l d) := hcW.2.2
  have hgw : f < w.heap.size := hc.lt
  have n1 : ¬ f = w.heap.size := by omega
  have hwW : w.heap.size < W.heap.size := b0.lt
  have slW := (hx.below y0).drewN 1
  have srW := hy.below y0
  have hxl : xs.length = m := hx.len
  have hyl : ys.length = l := hy.len
  have HXL := Lib.hid hxl
  have HYL := Lib.hid hyl
  clear hxl hyl
  have KEEP : Hid (∀ cur, Below W.heap.size W cur → cur.cell? ⟨f, 0, none⟩ = some (.int .i64 q) ∧ cur.cell? ⟨f, 1, none⟩ = some (.slice L m c) ∧ cur.cell? ⟨f, 2, none⟩ = some (.slice R l d)) := fun cur h => hcW.below h
  go_enter Tryd.func107, Tryd.ntmps107
  go_wp2_with fail
  rw [← HW.out]
  go_region_held3 (fun w' => w'.cell? ⟨f, 0, none⟩ = some (.int .i64 q) ∧ w'.cell? ⟨f, 1, none⟩ = some (.slice L m c) ∧ w'.cell? ⟨f, 2, none⟩ = some (.slice R l d))
    (first
      | (go_keep; done)
      | (exact ⟨far_set n1 (far_set n1 (far_set n1 (KEEP.out _ z3).1)), far_set n1 (far_set n1 (far_set n1 (KEEP.out _ z3).2.1)), far_set n1 (far_set n1 (far_set n1 (KEEP.out _ z3).2.2))⟩)
      | (exact KEEP.out _ z3)
      | (exact KEEP.out _ z2))
    (first
      | (go_at_call_of 70 (Value.slice L m c); refine (l00Own_any _ _ _ xs _ slW (by omega)).mono ?_; rintro e w2 ⟨L2, cl, rfl, ol2, z2'⟩; have z2 : Below W.heap.size W w2 := below_undrew z2')
      | (go_at_call_of 70 (Value.slice R l d); refine (l00Own_any _ _ _ ys _ (SI.below (xs := ys) srW z2) (by omega)).mono ?_; rintro e w3 ⟨R2, cr, rfl, or2, z3'⟩; have z3 : Below W.heap.size W w3 := z2.trans (z3'.mono z2.size)
         have e0 : w3.cell? ⟨w.heap.size, 0, none⟩ = some (.int .i64 0) := (b0.below' z3).cell 0
         have e1 : w3.cell? ⟨w.heap.size, 1, none⟩ = some (.slice none 0 0) := (b0.below' z3).cell 1
         have e2 : w3.cell? ⟨w.heap.size, 2, none⟩ = some (.slice none 0 0) := (b0.below' z3).cell 2
         have f0 := (b0.below' z3).frozen 0
         have f1 := (b0.below' z3).frozen 1
         have f2 := (b0.below' z3).frozen 2))
  go_wp2_with fail
  have d1 : Blk (((w3.setCell ⟨w.heap.size, 0, none⟩ (.int .i64 q)).setCell ⟨w.heap.size, 1, none⟩ (.slice L2 xs.length cl)).setCell ⟨w.heap.size, 2, none⟩ (.slice R2 ys.length cr)) w.heap.size 68 #[.int .i64 q, .slice L2 xs.length cl, .slice R2 ys.length cr] := (((b0.below' z3).set_ 0 _).set_ 1 _).set_ 2 _
  have hz2 : W.heap.size ≤ w2.heap.size := z2.size
  have olf : Own (((w3.setCell ⟨w.heap.size, 0, none⟩ (.int .i64 q)).setCell ⟨w.heap.size, 1, none⟩ (.slice L2 xs.length cl)).setCell ⟨w.heap.size, 2, none⟩ (.slice R2 ys.length cr)) W.heap.size 2 1 L2 xs.length cl (ints xs) :=
    (((Own.below ol2 z3').far (fun e => by have h : W.heap.size ≤ w.heap.size := ol2.blk_ge _ e; omega) _).far (fun e => by have h : W.heap.size ≤ w.heap.size := ol2.blk_ge _ e; omega) _).far (fun e => by have h : W.heap.size ≤ w.heap.size := ol2.blk_ge _ e; omega) _
  have orf : Own (((w3.setCell ⟨w.heap.size, 0, none⟩ (.int .i64 q)).setCell ⟨w.heap.size, 1, none⟩ (.slice L2 xs.length cl)).setCell ⟨w.heap.size, 2, none⟩ (.slice R2 ys.length cr)) w2.heap.size 2 1 R2 ys.length cr (ints ys) :=
    ((or2.far (fun e => by have h : w2.heap.size ≤ w.heap.size := or2.blk_ge _ e; omega) _).far (fun e => by have h : w2.heap.size ≤ w.heap.size := or2.blk_ge _ e; omega) _).far (fun e => by have h : w2.heap.size ≤ w.heap.size := or2.blk_ge _ e; omega) _
  have yf : Below w.heap.size w (((w3.setCell ⟨w.heap.size, 0, none⟩ (.int .i64 q)).setCell ⟨w.heap.size, 1, none⟩ (.slice L2 xs.length cl)).setCell ⟨w.heap.size, 2, none⟩ (.slice R2 ys.length cr)) := (((y0.trans (z3.mono y0.size)).setCell (Nat.le_refl _) _).setCell (Nat.le_refl _) _).setCell (Nat.le_refl _) _
  generalize ((w3.setCell ⟨w.heap.size, 0, none⟩ (.int .i64 q)).setCell ⟨w.heap.size, 1, none⟩ (.slice L2 xs.length cl)).setCell ⟨w.heap.size, 2, none⟩ (.slice R2 ys.length cr) = wf at *
  have g0 : wf.cell? ⟨w.heap.size, 0, none⟩ = some (.int .i64 q) := d1.cell 0
  have g1 : wf.cell? ⟨w.heap.size, 1, none⟩ = some (.slice L2 xs.length cl) := d1.cell 1
  have g2 : wf.cell? ⟨w.heap.size, 2, none⟩ = some (.slice R2 ys.length cr) := d1.cell 2
  have hres : NewConf w q xs ys (.returned (.agg #[.int .i64 q, .slice L2 xs.length cl, .slice R2 ys.length cr])) wf := by
    refine ⟨L2, cl, R2, cr, rfl, olf.mono (by omega), orf.mono (by omega), fun b h5 h6 => ?_, yf⟩
    have h7 := ol2.blk_lt b h5
    have h8 := or2.blk_ge b h6
    omega
  exact bodyPost_ret (v := .agg #[.int .i64 q, .slice L2 xs.length cl, .slice R2 ys.length cr]) (by simp [results, Tryd.results107, go_sem, g0, g1, g2]) rfl hres

/-- A configuration in a block, with its sides. -/
def ConfC (w : World) (lo f : Nat) (c : Conf) : Prop :=
  ∃ L a R d, Blk w f 68 #[.int .i64 c.q, .slice L c.xs.length a, .slice R c.ys.length d] ∧ Own w lo 2 1 L c.xs.length a (ints c.xs) ∧ Own w lo 2 1 R c.ys.length d (ints c.ys) ∧ (∀ b, blk L = some b → blk R ≠ some b)
theorem ConfC.below {w w' : World} {lo f : Nat} {c : Conf} (h : ConfC w lo f c) (z : Below w.heap.size w w') : ConfC w' lo f c := by
  obtain ⟨L, a, R, d, h1, h2, h3, h4⟩ := h
  exact ⟨L, a, R, d, h1.below' z, h2.below z, h3.below z, h4⟩
theorem ConfC.drewN {w : World} {lo f : Nat} {c : Conf} (h : ConfC w lo f c) (q : Nat) : ConfC (w.drewN q) lo f c := h

theorem l05Halts_c {w : World} {g : Nat} {sy st : Int} {A : Option Addr} {n k : Nat} {rs : List R3} {f lo : Nat} {c : Conf} (hm : MachAt w g sy st A n k) (hrs : S3 w A n rs) (hc : ConfC w lo f c) (hg : goodC sy st rs c) (hn : n ≤ 1048576) :
    Calls Tryd.prog 108 #[.pointer (some ⟨g, 0, none⟩), .pointer (some ⟨f, 0, none⟩)] w fun e w' => e = .returned (.bool (haltC sy rs c)) ∧ Below w.heap.size w w' := by
  obtain ⟨L, cl, R, d, hb, ol, or_, _⟩ := hc
  obtain ⟨h1, h2, h3, h4, hnl, h5, h6, hx2, hy2, hxm, hym, hrsv⟩ := conf_parts hg
  obtain ⟨a1, a2, a3, a4, idx, hidx, hlt⟩ := at_parts (ys := c.ys.reverse) h1 h2 h3 h4 hnl h5 h6 (fun y hy => hym y (List.mem_reverse.1 hy))
  have hget := ruleOf_get (rs := rs) (ys := c.ys) hidx hlt
  have hln : rs.length = n := hrs.len
  exact l05Halts_any g sy st A n k rs f c.q L _ cl R _ d c.ys idx (ruleOf sy rs c.q c.ys) w hm hrs hb.confAt or_.rd (by omega) a1 (by omega) a3 (by omega) (Lib.hid hidx) (by omega) (Lib.hid hget) hn
theorem l05At_c {w : World} {g : Nat} {sy st : Int} {A : Option Addr} {n k : Nat} {rs : List R3} {f lo : Nat} {c : Conf} (hm : MachAt w g sy st A n k) (hc : ConfC w lo f c) (hg : goodC sy st rs c) :
    Calls Tryd.prog 130 #[.pointer (some ⟨g, 0, none⟩), .pointer (some ⟨f, 0, none⟩)] w fun e w' => e = .returned (.int .i64 (atI sy c.q c.ys.reverse)) ∧ ∃ nq, w' = w.drewN nq := by
  obtain ⟨L, cl, R, d, hb, ol, or_, _⟩ := hc
  obtain ⟨h1, h2, h3, h4, hnl, h5, h6, hx2, hy2, hxm, hym, hrsv⟩ := conf_parts hg
  obtain ⟨a1, a2, a3, a4, idx, hidx, hlt⟩ := at_parts (ys := c.ys.reverse) h1 h2 h3 h4 hnl h5 h6 (fun y hy => hym y (List.mem_reverse.1 hy))
  exact l05At_any g sy st A n k f c.q L _ cl R _ d c.ys w hm hb.confAt or_.rd (by omega) a1 (by omega) a3 (by omega)
theorem l05Step_c {w : World} {g : Nat} {sy st : Int} {A : Option Addr} {n k : Nat} {rs : List R3} {f lo : Nat} {c : Conf} (hm : MachAt w g sy st A n k) (hrs : S3 w A n rs) (hc : ConfC w lo f c) (hg : goodC sy st rs c) (hn : n ≤ 1048576) :
    Calls Tryd.prog 109 #[.pointer (some ⟨g, 0, none⟩), .pointer (some ⟨f, 0, none⟩)] w (SpecConf w (nextC sy rs c) (roomC (nextC sy rs c))) := by
  obtain ⟨L, cl, R, d, hb, ol, or_, _⟩ := hc
  obtain ⟨h1, h2, h3, h4, hnl, h5, h6, hx2, hy2, hxm, hym, hrsv⟩ := conf_parts hg
  obtain ⟨gx, gy⟩ := conf_good hg
  obtain ⟨a1, a2, a3, a4, idx, hidx, hlt⟩ := at_parts (ys := c.ys.reverse) h1 h2 h3 h4 hnl h5 h6 (fun y hy => hym y (List.mem_reverse.1 hy))
  have hget := ruleOf_get (rs := rs) (ys := c.ys) hidx hlt
  have hln : rs.length = n := hrs.len
  have := l05Step_any g sy st A n k rs f c.q L _ cl c.xs R _ d c.ys idx (ruleOf sy rs c.q c.ys) w hm hrs hb.confAt ol.rd or_.rd (by omega) (by omega) ol.le or_.le a1 (by omega) a3 (by omega) (Lib.hid hidx) (by omega) (Lib.hid hget) hn
  rw [stepS_eq gx gy] at this
  exact this
theorem ConfC.set3 {w : World} {lo f : Nat} {cs : Array Value} {a0 b0 c0 : Value} {c : Conf} {L R : Option Addr} {a d : Nat} (hcs : cs = #[a0, b0, c0]) (hb : Blk w f 68 cs) (h2 : Own w lo 2 1 L c.xs.length a (ints c.xs)) (h3 : Own w lo 2 1 R c.ys.length d (ints c.ys)) (h4 : ∀ b, blk L = some b → blk R ≠ some b) :
    ConfC (((w.setCell ⟨f, 0, none⟩ (.int .i64 c.q)).setCell ⟨f, 1, none⟩ (.slice L c.xs.length a)).setCell ⟨f, 2, none⟩ (.slice R c.ys.length d)) lo f c := by
  subst hcs
  have e : ∀ {X : Option Addr} {n' c' : Nat} {xs : List Value}, Own w lo 2 1 X n' c' xs → blk X ≠ some f := by
    intro X n' c' xs h hbk
    rcases h.2 with ⟨rfl, _⟩ | ⟨b, off, cur, rfl, _, hg, _⟩
    · simp [blk] at hbk
    · simp [blk] at hbk; subst hbk
      unfold Blk at hb
      rw [hg] at hb
      simp at hb
  exact ⟨L, a, R, d, conf_set hb _ _ _, ((h2.far (p := ⟨f, 0, none⟩) (e h2) _).far (p := ⟨f, 1, none⟩) (e h2) _).far (p := ⟨f, 2, none⟩) (e h2) _, ((h3.far (p := ⟨f, 0, none⟩) (e h3) _).far (p := ⟨f, 1, none⟩) (e h3) _).far (p := ⟨f, 2, none⟩) (e h3) _, h4⟩
end Go.Proofs.YtokglpdlhacnaaaDoor
