/-
  Contracts of impl's partialOf, ValidPartial.
-/
import Derived.Test.YtokglpdlhacnaaaDoorPbBackAll2
import Derived.Test.YtokglpdlhacnaaaDoorPbBackAll4
import Derived.Test.YtokglpdlhacnaaaDoorPbBackAll8
import Derived.Test.YtokglpdlhacnaaaDoorPbBackAll10
import Derived.BigGuardPart
namespace Go.Proofs.YtokglpdlhacnaaaDoor
open Go.RowKit

set_option maxRecDepth 100000 in
set_option maxHeartbeats 4000000 in
theorem partialOf_any (sy st : Int) (B : Option Addr) (m k : Nat) (q p : Int) (A : Option Addr) (n c : Nat) (xs : List Int) (w : World) (hx : SI w A n xs) (hn : n ≤ 1048576) (h1 : 2 ≤ sy) (h2 : sy ≤ 6) (h3 : 1 ≤ st) (h4 : st ≤ 1000) :
    Calls Tryd.prog 101 #[.agg #[.int .i64 sy, .int .i64 st, .slice B m k], .agg #[.int .i64 q, .int .i64 p, .slice A n c]] w fun e w' => e = .returned (.bool (paB sy st ⟨q, p, xs⟩)) ∧ Below w.heap.size w w' := by
  obtain ⟨V, hW_⟩ : ∃ W, W = (w.alloc (.cells #[.int .i64 sy, .int .i64 st, .slice B m k] 43)).alloc (.cells #[.int .i64 q, .int .i64 p, .slice A n c] 58) := ⟨_, rfl⟩
  have s_1 : (w.alloc (.cells #[.int .i64 sy, .int .i64 st, .slice B m k] 43)).heap.size = w.heap.size + 1 := by simp
  have b0 : Blk V w.heap.size 43 #[.int .i64 sy, .int .i64 st, .slice B m k] := by rw [hW_]; exact (Blk.new w _ _).alloc _
  have b1 : Blk V (w.heap.size + 1) 58 #[.int .i64 q, .int .i64 p, .slice A n c] := by rw [hW_, ← s_1]; exact Blk.new _ _ _
  have y0 : Below w.heap.size w V := by rw [hW_]; exact ((Below.refl _ _).alloc (Nat.le_refl _) _).alloc (by simp) _
  have HV := Lib.hid hW_
  clear hW_ s_1
  have q0 : V.cell? ⟨w.heap.size, 0, none⟩ = some (.int .i64 sy) := b0.cell 0
  have q1 : V.cell? ⟨w.heap.size, 1, none⟩ = some (.int .i64 st) := b0.cell 1
  have q2 : V.cell? ⟨w.heap.size, 2, none⟩ = some (.slice B m k) := b0.cell 2
  have u0 : V.cell? ⟨(w.heap.size + 1), 0, none⟩ = some (.int .i64 q) := b1.cell 0
  have u1 : V.cell? ⟨(w.heap.size + 1), 1, none⟩ = some (.int .i64 p) := b1.cell 1
  have u2 : V.cell? ⟨(w.heap.size + 1), 2, none⟩ = some (.slice A n c) := b1.cell 2
  have HL := Lib.hid hx.len
  have hxV := hx.below y0
  have HP : Hid (paB sy st ⟨q, p, xs⟩ = (inB q 0 (st - 1) && inB (n : Int) 1 60 && inB p 0 ((n : Int) - 1) && allIn xs 0 (sy - 1))) := Lib.hid (by unfold paB; dsimp only; rw [HL.out])
  have w1 : IntKind.i64.wrap (st - 1) = st - 1 := IntWalk.i64_in _ (by omega)
  have w2 : IntKind.i64.wrap ((n : Int) - 1) = (n : Int) - 1 := IntWalk.i64_in _ (by omega)
  have w3 : IntKind.i64.wrap (sy - 1) = sy - 1 := IntWalk.i64_in _ (by omega)
  clear b0 b1 hx h1 h2 h3 h4
  cases a1 : inB q 0 (st - 1)
  · go_enter Tryd.func101, Tryd.ntmps101
    go_upto_region 1 with fail
    rw [← HV.out]
    go_quiet ((first | (go_at_call 59; exact quiet_left (within_any _ _ _ _)) | (go_at_call 126; exact quiet_left (sizeI_any _ _ _ _ (by omega))) | (go_at_call 50; exact quiet_left (allWithin_any _ _ _ xs _ _ _ (hxV.drewN _) (by omega)))))
    go_wp2_with fail
    go_ret
    exact ⟨ret_bool (by rw [HP.out]; simp [*]), below_drewN y0 _⟩
  cases a2 : inB (n : Int) 1 60
  · go_enter Tryd.func101, Tryd.ntmps101
    go_upto_region 1 with fail
    rw [← HV.out]
    go_quiet ((first | (go_at_call 59; exact quiet_left (within_any _ _ _ _)) | (go_at_call 126; exact quiet_left (sizeI_any _ _ _ _ (by omega))) | (go_at_call 50; exact quiet_left (allWithin_any _ _ _ xs _ _ _ (hxV.drewN _) (by omega)))))
    go_wp2_with fail
    go_ret
    exact ⟨ret_bool (by rw [HP.out]; simp [*]), below_drewN y0 _⟩
  cases a3 : inB p 0 ((n : Int) - 1)
  · go_enter Tryd.func101, Tryd.ntmps101
    go_upto_region 1 with fail
    rw [← HV.out]
    go_quiet ((first | (go_at_call 59; exact quiet_left (within_any _ _ _ _)) | (go_at_call 126; exact quiet_left (sizeI_any _ _ _ _ (by omega))) | (go_at_call 50; exact quiet_left (allWithin_any _ _ _ xs _ _ _ (hxV.drewN _) (by omega)))))
    go_wp2_with fail
    go_ret
    exact ⟨ret_bool (by rw [HP.out]; simp [*]), below_drewN y0 _⟩
  go_enter Tryd.func101, Tryd.ntmps101
  go_upto_region 1 with fail
  rw [← HV.out]
  go_quiet ((first | (go_at_call 59; exact quiet_left (within_any _ _ _ _)) | (go_at_call 126; exact quiet_left (sizeI_any _ _ _ _ (by omega))) | (go_at_call 50; exact quiet_left (allWithin_any _ _ _ xs _ _ _ (hxV.drewN _) (by omega)))))
  go_wp2_with fail
  go_ret
  exact ⟨ret_bool (by rw [HP.out]; simp [*]), below_drewN y0 _⟩
set_option maxRecDepth 100000 in
set_option maxHeartbeats 4000000 in
theorem validPartial_any (sy st : Int) (B : Option Addr) (m k : Nat) (rs : List R3) (q p : Int) (A : Option Addr) (n c : Nat) (xs : List Int) (w : World) (hr : S3 w B m rs) (hx : SI w A n xs) (hm : m ≤ 1048576) (hn : n ≤ 1048576) :
    Calls Tryd.prog 72 #[.agg #[.int .i64 sy, .int .i64 st, .slice B m k], .agg #[.int .i64 q, .int .i64 p, .slice A n c]] w fun e w' => e = .returned (.bool (machB sy st rs && paB sy st ⟨q, p, xs⟩)) ∧ Below w.heap.size w w' := by
  obtain ⟨V, hW_⟩ : ∃ W, W = (w.alloc (.cells #[.int .i64 sy, .int .i64 st, .slice B m k] 43)).alloc (.cells #[.int .i64 q, .int .i64 p, .slice A n c] 58) := ⟨_, rfl⟩
  have s_1 : (w.alloc (.cells #[.int .i64 sy, .int .i64 st, .slice B m k] 43)).heap.size = w.heap.size + 1 := by simp
  have b0 : Blk V w.heap.size 43 #[.int .i64 sy, .int .i64 st, .slice B m k] := by rw [hW_]; exact (Blk.new w _ _).alloc _
  have b1 : Blk V (w.heap.size + 1) 58 #[.int .i64 q, .int .i64 p, .slice A n c] := by rw [hW_, ← s_1]; exact Blk.new _ _ _
  have y0 : Below w.heap.size w V := by rw [hW_]; exact ((Below.refl _ _).alloc (Nat.le_refl _) _).alloc (by simp) _
  have HV := Lib.hid hW_
  clear hW_ s_1
  have q0 : V.cell? ⟨w.heap.size, 0, none⟩ = some (.int .i64 sy) := b0.cell 0
  have q1 : V.cell? ⟨w.heap.size, 1, none⟩ = some (.int .i64 st) := b0.cell 1
  have q2 : V.cell? ⟨w.heap.size, 2, none⟩ = some (.slice B m k) := b0.cell 2
  go_enter Tryd.func72, Tryd.ntmps72
  go_upto_region 1 with fail
  rw [← HV.out]
  go_wp2_with fail
  refine (validMachine_any _ _ _ _ _ rs _ (hr.below y0) hm).mono ?_
  rintro e w2 ⟨rfl, z2⟩
  have y2 : Below w.heap.size w w2 := y0.trans (z2.mono y0.size)
  cases a1 : machB sy st rs
  · have A1 := Lib.hid a1
    clear a1
    go_wp2_with fail
    go_ret
    exact ⟨ret_bool (by rw [A1.out]; simp), y2⟩
  · obtain ⟨p1, p2, p3, p4, _, _⟩ := machB_parts a1
    have A1 := Lib.hid a1
    clear a1
    have c0 := b0.below' z2
    have c1 := b1.below' z2
    have v0 : w2.cell? ⟨w.heap.size, 0, none⟩ = some (.int .i64 sy) := c0.cell 0
    have v1 : w2.cell? ⟨w.heap.size, 1, none⟩ = some (.int .i64 st) := c0.cell 1
    have v2 : w2.cell? ⟨w.heap.size, 2, none⟩ = some (.slice B m k) := c0.cell 2
    have u0 : w2.cell? ⟨(w.heap.size + 1), 0, none⟩ = some (.int .i64 q) := c1.cell 0
    have u1 : w2.cell? ⟨(w.heap.size + 1), 1, none⟩ = some (.int .i64 p) := c1.cell 1
    have u2 : w2.cell? ⟨(w.heap.size + 1), 2, none⟩ = some (.slice A n c) := c1.cell 2
    clear q0 q1 q2
    go_wp2_with fail
    refine (partialOf_any _ _ _ _ _ _ _ _ _ _ xs _ (hx.below y2) hn p1 p2 p3 p4).mono ?_
    rintro e w3 ⟨rfl, z3⟩
    go_wp2_with fail
    go_ret
    exact ⟨ret_bool (by rw [A1.out]; simp), y2.trans (z3.mono y2.size)⟩
end Go.Proofs.YtokglpdlhacnaaaDoor

/-
  The program's AncestorsOf.
-/
namespace Go.Proofs.YtokglpdlhacnaaaDoor
open Go.RowKit

/-- A list of partial configurations with a code, in new memory. -/
def PasB (w : World) (r : List Pa × Int) (e : Ending) (w' : World) : Prop :=
  ∃ A c ts, e = .returned (.tuple #[.slice A ts.length c, .int .i64 r.2]) ∧ OPs w' w.heap.size A ts.length c ts ∧ pas ts = r.1 ∧ Below w.heap.size w w'
theorem pasB {w w' : World} {r : List Pa × Int} {b : Int} {A : Option Addr} {n c : Nat} {ts : List Pm} (h : r = (pas ts, b)) (hn : n = ts.length) (o : OPs w' w.heap.size A n c ts) (k : Below w.heap.size w w') : PasB w r (.returned (.tuple #[.slice A n c, .int .i64 b])) w' := by
  subst h hn; exact ⟨A, c, ts, rfl, o, rfl, k⟩
theorem OPs.void {w : World} {lo : Nat} : OPs w lo none 0 0 [] := OPs.nil Own.nil
set_option maxRecDepth 100000 in
set_option maxHeartbeats 8000000 in
theorem ancestorsI_any (sy st : Int) (B : Option Addr) (m k : Nat) (rs : List R3) (q p : Int) (A : Option Addr) (n c : Nat) (xs : List Int) (b : Int) (w : World) (hr : S3 w B m rs) (hx : SI w A n xs) (hm : m ≤ 1048576) (hn : n ≤ 1048576) (ht : Tab w) :
    Calls Tryd.prog 32 #[.agg #[.int .i64 sy, .int .i64 st, .slice B m k], .agg #[.int .i64 q, .int .i64 p, .slice A n c], .int .i64 b] w (PasB w (ancR sy st rs ⟨q, p, xs⟩ b)) := by
  have HL := Lib.hid hx.len
  obtain ⟨V, hW_⟩ : ∃ W, W = (w.alloc (.cells #[.int .i64 sy, .int .i64 st, .slice B m k] 43)).alloc (.cells #[.int .i64 q, .int .i64 p, .slice A n c] 58) := ⟨_, rfl⟩
  have s_1 : (w.alloc (.cells #[.int .i64 sy, .int .i64 st, .slice B m k] 43)).heap.size = w.heap.size + 1 := by simp
  have b0 : Blk V w.heap.size 43 #[.int .i64 sy, .int .i64 st, .slice B m k] := by rw [hW_]; exact (Blk.new w _ _).alloc _
  have b1 : Blk V (w.heap.size + 1) 58 #[.int .i64 q, .int .i64 p, .slice A n c] := by rw [hW_, ← s_1]; exact Blk.new _ _ _
  have y0 : Below w.heap.size w V := by rw [hW_]; exact ((Below.refl _ _).alloc (Nat.le_refl _) _).alloc (by simp) _
  have HV := Lib.hid hW_
  clear hW_ s_1
  have u0 : V.cell? ⟨w.heap.size, 0, none⟩ = some (.int .i64 sy) := b0.cell 0
  have u1 : V.cell? ⟨w.heap.size, 1, none⟩ = some (.int .i64 st) := b0.cell 1
  have u2 : V.cell? ⟨w.heap.size, 2, none⟩ = some (.slice B m k) := b0.cell 2
  have v0 : V.cell? ⟨(w.heap.size + 1), 0, none⟩ = some (.int .i64 q) := b1.cell 0
  have v1 : V.cell? ⟨(w.heap.size + 1), 1, none⟩ = some (.int .i64 p) := b1.cell 1
  have v2 : V.cell? ⟨(w.heap.size + 1), 2, none⟩ = some (.slice A n c) := b1.cell 2
  have HB0 := Lib.hid b0
  have HB1 := Lib.hid b1
  have HRW := Lib.hid hr
  have HXW := Lib.hid hx
  have HT := Lib.hid ht
  have HY0 := Lib.hid y0
  have HVP := Lib.hid (validPartial_any sy st B m k rs q p A n c xs V (hr.below y0) (hx.below y0) hm hn)
  clear b0 b1 y0 hr hx ht
  go_enter Tryd.func32, Tryd.ntmps32
  go_upto_region 1 with fail
  rw [← HV.out]
  cases hv : (machB sy st rs && paB sy st ⟨q, p, xs⟩) with
  | false =>
    have HE : Hid (ancR sy st rs ⟨q, p, xs⟩ b = (pas [], 1)) := Lib.hid (by unfold ancR; rw [hv]; rfl)
    rw [hv] at HVP
    clear hv
    go_wp2_with (go_at_call 72; refine HVP.out.mono ?_; rintro e w2 ⟨rfl, z2⟩)
    exact bodyPost_ret (v := .tuple #[.slice none 0 0, .int .i64 1]) (by simp [results, Tryd.results32, go_sem]) rfl (pasB HE.out rfl OPs.void (HY0.out.trans (z2.mono HY0.out.size)))
  | true =>
    rw [hv] at HVP
    have HVV := Lib.hid hv
    have hv2 := hv
    simp only [Bool.and_eq_true] at hv2
    have HM := Lib.hid hv2.1
    have HPA := Lib.hid hv2.2
    clear hv hv2
    go_upto_region 3 with (go_at_call 72; refine HVP.out.mono ?_; rintro e w2 ⟨rfl, z2⟩)
    have HZ2 := Lib.hid (HY0.out.trans (z2.mono HY0.out.size))
    have HB02 := Lib.hid (HB0.out.below' z2)
    have HB12 := Lib.hid (HB1.out.below' z2)
    clear u0 u1 u2 v0 v1 v2 z2
    cases hb : inB b 0 60 with
    | false =>
      have HE : Hid (ancR sy st rs ⟨q, p, xs⟩ b = (pas [], 2)) := Lib.hid (by unfold ancR; rw [HVV.out, hb]; rfl)
      have HB := Lib.hid hb
      clear hb
      go_wp2_with (go_at_call 59; refine (within_any _ _ _ _).mono ?_; rintro e w' ⟨rfl, rfl⟩; rw [HB.out])
      exact bodyPost_ret (v := .tuple #[.slice none 0 0, .int .i64 2]) (by simp [results, Tryd.results32, go_sem]) rfl (pasB HE.out rfl OPs.void HZ2.out)
    | true =>
      have hb' : 0 ≤ b ∧ b ≤ 60 := by simpa [inB_iff] using hb
      obtain ⟨hb0, hb1⟩ := hb'
      obtain ⟨D, rfl⟩ : ∃ D : Nat, b = (D : Int) := ⟨b.toNat, by omega⟩
      have HE : Hid (ancR sy st rs ⟨q, p, xs⟩ (D : Int) = listR (ancF sy rs D [⟨q, p, xs⟩])) := Lib.hid (by unfold ancR; rw [HVV.out, hb, Int.toNat_natCast]; rfl)
      have HB := Lib.hid hb
      clear hb
      go_upto_region 5 with (go_at_call 59; refine (within_any _ _ _ _).mono ?_; rintro e w' ⟨rfl, rfl⟩; rw [HB.out])
      have v0 : w2.cell? ⟨(w.heap.size + 1), 0, none⟩ = some (.int .i64 q) := HB12.out.cell 0
      have v1 : w2.cell? ⟨(w.heap.size + 1), 1, none⟩ = some (.int .i64 p) := HB12.out.cell 1
      have v2 : w2.cell? ⟨(w.heap.size + 1), 2, none⟩ = some (.slice A n c) := HB12.out.cell 2
      have HCL := Lib.hid (cloneI_any A n c xs w2 (HXW.out.below HZ2.out) (by omega))
      go_upto_region 6 with (go_at_call 73; refine HCL.out.mono ?_; rintro e w3 ⟨L, a, rfl, oL, z3⟩; have hB13 := HB12.out.below' z3; have r2 : w3.cell? ⟨w.heap.size + 1, 2, none⟩ = some (.slice A n c) := hB13.cell 2; have f2 := hB13.frozen 2)
      obtain ⟨W4, hW4⟩ : ∃ W4, W4 = w3.setCell ⟨w.heap.size + 1, 2, none⟩ (.slice L xs.length a) := ⟨_, rfl⟩
      rw [← hW4]
      have hz3 := HZ2.out.trans (z3.mono HZ2.out.size)
      have hz4 : Below w.heap.size w W4 := by rw [hW4]; exact hz3.setCell (by show w.heap.size ≤ w.heap.size + 1; omega) _
      have hB04 : Blk W4 w.heap.size 43 #[.int .i64 sy, .int .i64 st, .slice B m k] := by rw [hW4]; exact (HB02.out.below' z3).far (by show w.heap.size ≠ w.heap.size + 1; omega) _
      have hB14 : Blk W4 (w.heap.size + 1) 58 #[.int .i64 q, .int .i64 p, .slice L xs.length a] := by rw [hW4]; exact hB13.set_ 2 _
      have hoL : Own W4 w.heap.size 2 1 L xs.length a (ints xs) := by rw [hW4]; exact (oL.mono HZ2.out.size).far (hB13.apt oL (by decide)) _
      have HZ4 := Lib.hid hz4
      have hw4 : w.heap.size + 1 < W4.heap.size := hB14.lt
      have u0 : W4.cell? ⟨w.heap.size, 0, none⟩ = some (.int .i64 sy) := hB04.cell 0
      have u1 : W4.cell? ⟨w.heap.size, 1, none⟩ = some (.int .i64 st) := hB04.cell 1
      have u2 : W4.cell? ⟨w.heap.size, 2, none⟩ = some (.slice B m k) := hB04.cell 2
      have v0 : W4.cell? ⟨(w.heap.size + 1), 0, none⟩ = some (.int .i64 q) := hB14.cell 0
      have v1 : W4.cell? ⟨(w.heap.size + 1), 1, none⟩ = some (.int .i64 p) := hB14.cell 1
      have v2 : W4.cell? ⟨(w.heap.size + 1), 2, none⟩ = some (.slice L xs.length a) := hB14.cell 2
      have HOL := Lib.hid hoL
      clear hW4 hB04 hB14 hB13 hz3 hz4 hoL oL z3 r2 f2
      go_upto_region 7 with fail
      obtain ⟨W5, hW5⟩ : ∃ W5, W5 = W4.alloc (.cells #[.int .i64 q, .int .i64 p, .slice L xs.length a] 58) := ⟨_, rfl⟩
      rw [← hW5]
      have h5 : W5.heap.size = W4.heap.size + 1 := by rw [hW5]; simp
      rw [← h5]
      obtain ⟨W6, hW6⟩ : ∃ W6, W6 = W5.alloc (.cells #[.int .i64 sy, .int .i64 st, .slice B m k, .slice (some ⟨W4.heap.size, 0, none⟩) 1 1, .int .i64 18300] 98) := ⟨_, rfl⟩
      rw [← hW6]
      have z5 : Below W4.heap.size W4 W5 := by rw [hW5]; exact (Below.refl _ _).alloc (Nat.le_refl _) _
      have z6 : Below W5.heap.size W5 W6 := by rw [hW6]; exact (Below.refl _ _).alloc (Nat.le_refl _) _
      have hHd : Own W5 W4.heap.size 58 3 (some ⟨W4.heap.size, 0, none⟩) 1 1 ([(⟨q, p, L, a, xs⟩ : Pm)].flatMap Pm.cells) := by rw [hW5]; exact Own.lit W4 #[.int .i64 q, .int .i64 p, .slice L xs.length a] _ 1 3 W4.heap.size rfl (by simp [maxLen]) (Nat.le_refl _)
      have hO6 : OPs W6 w.heap.size (some ⟨W4.heap.size, 0, none⟩) 1 1 [⟨q, p, L, a, xs⟩] := (OPs.one (hHd.mono HZ4.out.size) (HOL.out.below z5)).below z6
      have hL6 : Lev W6 W5.heap.size sy st B m k (some ⟨W4.heap.size, 0, none⟩) [(⟨q, p, L, a, xs⟩ : Pm)].length 1 18300 := by rw [hW6]; exact Blk.new _ _ _
      have HZ6 : Hid (Below w.heap.size w W6) := Lib.hid ((HZ4.out.trans (z5.mono HZ4.out.size)).trans (z6.mono (by have := HZ4.out.size; omega)))
      have HG : Hid (w.heap.size ≤ W5.heap.size) := Lib.hid (by omega)
      have HGB : Hid (blk B ≠ some W5.heap.size) := Lib.hid (fun h => by have h1 := mach_blk HRW.out HM.out _ h; have := HG.out; omega)
      have HL6 := Lib.hid hL6
      have HO6 := Lib.hid hO6
      have HOK := Lib.hid (paB_ok HPA.out)
      clear hW5 hW6 z5 z6 hHd hO6 hL6 h5 u0 u1 u2 v0 v1 v2
      go_wp2_with fail
      go_loopw [27] (fun i wr => ∃ (j : Nat) (A' : Option Addr) (c' : Nat) (us : List Pm) (s' : Int), j ≤ D ∧ i = .int .i64 (j : Int) ∧ Hid (Lev wr W5.heap.size sy st B m k A' us.length c' s') ∧ Hid (OPs wr w.heap.size A' us.length c' us) ∧ Hid (ancF sy rs D [⟨q, p, xs⟩] = ancF sy rs (D - j) (pas us)) ∧ Hid (∀ x ∈ pas us, PaOk sy st x ∧ x.cs.length ≤ 60) ∧ Hid (300 * (61 - (j : Int)) ≤ s' ∧ s' ≤ 18300) ∧ Hid (us.length ≤ 300) ∧ Hid (Kb W5.heap.size W6 wr)) (fun i _ => D - (intOf i).toNat)
      case atStart => exact ⟨0, _, 1, [⟨q, p, L, a, xs⟩], 18300, Nat.zero_le _, rfl, HL6, HO6, Lib.hid rfl, Lib.hid (fun x hx => by obtain rfl := List.mem_singleton.1 hx; exact HOK.out), Lib.hid (by omega), Lib.hid (by simp), Lib.hid (Kb.refl _ _)⟩
      case round =>
        obtain ⟨j, A', c', us, s', hj, rfl, HL1, HO1, HD1, HOK1, HS1, HN1, HKb⟩ := hrel
        rename World => W0
        have HKW : Hid (Kb W5.heap.size w W0) := Lib.hid ((Kb.of_below HZ6.out).trans HKb.out)
        by_cases hjD : j < D
        rotate_left
        · have j1 : ¬ (j : Int) < (D : Int) := by omega
          have x3 : W0.cell? ⟨W5.heap.size, 3, none⟩ = some (.slice A' us.length c') := HL1.out.cell 3
          have HE2 : Hid (ancR sy st rs ⟨q, p, xs⟩ (D : Int) = (pas us, 0)) := Lib.hid (by rw [HE.out, HD1.out, show D - j = 0 by omega]; rfl)
          go_wp2_with fail
          exact bodyPost_ret (v := .tuple #[.slice A' us.length c', .int .i64 0]) (by simp [results, Tryd.results32, go_sem]) rfl (pasB HE2.out rfl HO1.out (HKW.out.below (Below.refl _ _) HG.out))
        have j1 : (j : Int) < (D : Int) := by omega
        have HPL : Hid (((pas us).length : Int) = us.length) := Lib.hid (by simp [pas])
        have HCALL : Hid (Calls Tryd.prog 74 #[.pointer (some ⟨W5.heap.size, 0, none⟩)] W0 (NextPost W0 W5.heap.size sy st B m k rs (pas us) s')) := Lib.hid (
          levelNext_any W5.heap.size w.heap.size sy st B m k rs A' us.length c' us s' W0 HL1.out HO1.out (HRW.out.keep fun p hp he => World.cell?_of_block (HKW.out.block p.block hp (fun e => HGB.out (by rw [← he, e])))) HM.out HGB.out HOK1.out (by have := HS1.out; omega) (by have := HN1.out; omega) ((HT.out.below HZ6.out).kb HKb.out HL6.out (by simp)))
        have HJ : Hid (D - j = (D - (j + 1)) + 1) := Lib.hid (by omega)
        have HLE : Hid (((pas us).length : Int) ≤ s') := Lib.hid (by rw [HPL.out]; have := HS1.out; have := HN1.out; omega)
        cases hnx : nextF sy rs (pas us) with
        | none =>
          have HE2 : Hid (ancR sy st rs ⟨q, p, xs⟩ (D : Int) = (pas [], 5)) := Lib.hid (by rw [HE.out, HD1.out, HJ.out, ancF_full hnx]; rfl)
          have HC2 := Lib.hid (HCALL.out.mono fun e w2 h => h.no (.inr hnx))
          clear hnx
          go_wp2_with (go_at_call 74; refine HC2.out.mono ?_; rintro e w7 ⟨rfl, hk2⟩)
          exact bodyPost_ret (v := .tuple #[.slice none 0 0, .int .i64 5]) (by simp [results, Tryd.results32, go_sem]) rfl (pasB HE2.out rfl OPs.void ((HKW.out.trans hk2).below (Below.refl _ _) HG.out))
        | some l =>
          have HD2 : Hid (ancF sy rs D [⟨q, p, xs⟩] = ancF sy rs (D - (j + 1)) l) := Lib.hid (by rw [HD1.out, HJ.out, ancF_next hnx])
          have HOK2 := Lib.hid (nextF_ok HM.out HOK1.out hnx)
          have HC2 := Lib.hid (HCALL.out.mono fun e w2 h => h.yes HLE.out hnx)
          have HW0 : Hid (w.heap.size ≤ W0.heap.size) := Lib.hid HKW.out.size
          clear hnx
          go_wp2_with (go_at_call 74; refine HC2.out.mono ?_; rintro e w7 ⟨A2, c2, ts2, rfl, hL2, hO2, hp2, hk2⟩; have HL2 := Lib.hid hL2; have HO2 := Lib.hid hO2; have HP2 := Lib.hid hp2; clear hL2 hO2 hp2)
          have HN2 : Hid (ts2.length ≤ 300) := Lib.hid (by have h1 := HOK2.out.2; rw [← HP2.out] at h1; simpa [pas] using h1)
          have HS8 : Hid (300 * (61 - ((j + 1 : Nat) : Int)) ≤ s' - ((pas us).length : Int) ∧ s' - ((pas us).length : Int) ≤ 18300) := Lib.hid (by have h1 := HS1.out; have h2 := HPL.out; have h3 := HN1.out; omega)
          go_roundw
          case rel => exact ⟨j + 1, A2, c2, ts2, s' - ((pas us).length : Int), by omega, by go_num, HL2, Lib.hid (HO2.out.mono HW0.out), by rw [HP2.out]; exact HD2, by rw [HP2.out]; exact Lib.hid HOK2.out.1, HS8, HN2, Lib.hid (HKb.out.trans hk2)⟩
          case measure => simp [intOf]; omega
end Go.Proofs.YtokglpdlhacnaaaDoor

/-
  The reference's l26Good, AncestorsOf.
-/
namespace Go.Proofs.YtokglpdlhacnaaaDoor
open Go.RowKit

set_option maxRecDepth 100000 in
set_option maxHeartbeats 4000000 in
theorem l26Good_any (g h : Nat) (sy st : Int) (B : Option Addr) (m k : Nat) (q p : Int) (A : Option Addr) (n c : Nat) (xs : List Int) (w : World) (hM : MachAt w g sy st B m k) (hP : PartAt w h 0 q p A n c) (hx : SI w A n xs) (hn : n ≤ 1048576) (h1 : 2 ≤ sy) (h2 : sy ≤ 6) (h3 : 1 ≤ st) (h4 : st ≤ 1000) :
    Calls Tryd.prog 69 #[.pointer (some ⟨g, 0, none⟩), .pointer (some ⟨h, 0, none⟩)] w fun e w' => e = .returned (.bool (paB sy st ⟨q, p, xs⟩)) ∧ Below w.heap.size w w' := by
  obtain ⟨m0, m1, m2⟩ := hM
  obtain ⟨x0, x1, x2⟩ := hP
  have HL := Lib.hid hx.len
  have HP : Hid (paB sy st ⟨q, p, xs⟩ = (inB q 0 (st - 1) && inB (n : Int) 1 60 && inB p 0 ((n : Int) - 1) && allIn xs 0 (sy - 1))) := Lib.hid (by unfold paB; dsimp only; rw [HL.out])
  have w1 : IntKind.i64.wrap (st - 1) = st - 1 := IntWalk.i64_in _ (by omega)
  have w2 : IntKind.i64.wrap ((n : Int) - 1) = (n : Int) - 1 := IntWalk.i64_in _ (by omega)
  have w3 : IntKind.i64.wrap (sy - 1) = sy - 1 := IntWalk.i64_in _ (by omega)
  cases a1 : inB q 0 (st - 1)
  · go_enter Tryd.func69, Tryd.ntmps69
    go_upto_region 2 with fail
    go_quiet ((first | (go_at_call 55; exact quiet_left (l00In_any _ _ _ _))))
    go_wp2_with fail
    go_ret
    exact ⟨ret_bool (by rw [HP.out]; simp [*]), below_drewN (Below.refl _ _) _⟩
  cases a2 : inB (n : Int) 1 60
  · go_enter Tryd.func69, Tryd.ntmps69
    go_upto_region 2 with fail
    go_quiet ((first | (go_at_call 55; exact quiet_left (l00In_any _ _ _ _))))
    go_wp2_with fail
    go_ret
    exact ⟨ret_bool (by rw [HP.out]; simp [*]), below_drewN (Below.refl _ _) _⟩
  cases a3 : inB p 0 ((n : Int) - 1)
  · go_enter Tryd.func69, Tryd.ntmps69
    go_upto_region 2 with fail
    go_quiet ((first | (go_at_call 55; exact quiet_left (l00In_any _ _ _ _))))
    go_wp2_with fail
    go_ret
    exact ⟨ret_bool (by rw [HP.out]; simp [*]), below_drewN (Below.refl _ _) _⟩
  have HP2 : Hid (paB sy st ⟨q, p, xs⟩ = allIn xs 0 (sy - 1)) := Lib.hid (by rw [HP.out]; simp [*])
  go_enter Tryd.func69, Tryd.ntmps69
  go_upto_region 2 with fail
  go_quiet ((first | (go_at_call 55; exact quiet_left (l00In_any _ _ _ _))))
  clear a1 a2 a3 w1 w2
  go_upto_region 5 with fail
  go_loopw [6] (fun i wr => ∃ j : Nat, j ≤ n ∧ i = .int .i64 (j : Int) ∧ Hid (allIn (xs.take j) 0 (sy - 1) = true) ∧ Below w.heap.size w wr) (fun i _ => n - (intOf i).toNat)
  case atStart => exact ⟨0, Nat.zero_le _, rfl, Lib.hid rfl, below_drewN (Below.refl _ _) _⟩
  case round =>
    obtain ⟨j, hj, rfl, he, hz⟩ := hrel
    rename World => W0
    have m0' := (hz.cell (p := ⟨g, 0, none⟩) (World.block_lt_of_cell? w _ m0)).trans m0
    have x2' := (hz.cell (p := ⟨h, 2, none⟩) (World.block_lt_of_cell? w _ x2)).trans x2
    clear m0 m1 m2 x0 x1 x2
    by_cases hlt : j < n
    · obtain ⟨b, off, rfl, _, hc⟩ := (hx.below hz).at_ hlt
      cases a4 : inB (xs[j]'(by rw [HL.out]; exact hlt)) 0 (sy - 1)
      · go_upto_region 7 with fail
        go_quiet ((first | (go_at_call 55; exact quiet_left (l00In_any _ _ _ _))))
        go_wp2_with fail
        go_ret
        exact ⟨ret_bool (by rw [HP2.out]; exact allIn_at hlt HL.out (by simp [a4])), below_drewN hz _⟩
      · go_upto_region 7 with fail
        go_quiet ((first | (go_at_call 55; exact quiet_left (l00In_any _ _ _ _))))
        go_wp2_with fail
        go_roundw
        case rel => exact ⟨j + 1, by omega, by go_num, allIn_next hlt HL.out (by simp [a4]) he.out, below_drewN hz _⟩
        case measure => simp [intOf]; omega
    · go_wp2_with fail
      go_ret
      exact ⟨ret_bool (by rw [HP2.out]; exact allIn_end (by omega) HL.out he.out), hz⟩

set_option maxRecDepth 100000 in
set_option maxHeartbeats 8000000 in
theorem ancestorsS_any (sy st : Int) (B : Option Addr) (m k : Nat) (rs : List R3) (q p : Int) (A : Option Addr) (n c : Nat) (xs : List Int) (b : Int) (w : World) (hr : S3 w B m rs) (hx : SI w A n xs) (hm : m ≤ 1048576) (hn : n ≤ 1048576) :
    Calls Tryd.prog 30 #[.agg #[.int .i64 sy, .int .i64 st, .slice B m k], .agg #[.int .i64 q, .int .i64 p, .slice A n c], .int .i64 b] w (PasB w (ancR sy st rs ⟨q, p, xs⟩ b)) := by
  obtain ⟨V, hW_⟩ : ∃ W, W = (w.alloc (.cells #[.int .i64 sy, .int .i64 st, .slice B m k] 43)).alloc (.cells #[.int .i64 q, .int .i64 p, .slice A n c] 58) := ⟨_, rfl⟩
  have s_1 : (w.alloc (.cells #[.int .i64 sy, .int .i64 st, .slice B m k] 43)).heap.size = w.heap.size + 1 := by simp
  have b0 : Blk V w.heap.size 43 #[.int .i64 sy, .int .i64 st, .slice B m k] := by rw [hW_]; exact (Blk.new w _ _).alloc _
  have b1 : Blk V (w.heap.size + 1) 58 #[.int .i64 q, .int .i64 p, .slice A n c] := by rw [hW_, ← s_1]; exact Blk.new _ _ _
  have y0 : Below w.heap.size w V := by rw [hW_]; exact ((Below.refl _ _).alloc (Nat.le_refl _) _).alloc (by simp) _
  have HV := Lib.hid hW_
  clear hW_ s_1
  have hMV : MachAt V w.heap.size sy st B m k := ⟨b0.cell 0, b0.cell 1, b0.cell 2⟩
  have hPV : PartAt V (w.heap.size + 1) 0 q p A n c := ⟨b1.cell 0, b1.cell 1, b1.cell 2⟩
  have HMA := Lib.hid hMV
  have HB1 := Lib.hid b1
  have HPA := Lib.hid hPV
  have HR := Lib.hid (hr.below y0)
  have HX := Lib.hid (hx.below y0)
  have HY0 := Lib.hid y0
  have HIS := Lib.hid (l05Is_any w.heap.size sy st B m k rs V hMV (hr.below y0) hm)
  clear b0 b1 y0 hr hx hMV hPV
  cases hmb : machB sy st rs with
  | false =>
    have HE : Hid (ancR sy st rs ⟨q, p, xs⟩ b = (pas [], 1)) := Lib.hid (by unfold ancR; rw [hmb]; rfl)
    rw [hmb] at HIS
    clear hmb
    go_enter Tryd.func30, Tryd.ntmps30
    go_upto_region 1 with fail
    rw [← HV.out]
    go_wp2_with (go_at_call 54; refine HIS.out.mono ?_; rintro e w2 ⟨rfl, z2⟩)
    exact bodyPost_ret (v := .tuple #[.slice none 0 0, .int .i64 1]) (by simp [results, Tryd.results30, go_sem]) rfl (pasB HE.out rfl OPs.void (HY0.out.trans (z2.mono HY0.out.size)))
  | true =>
    rw [hmb] at HIS
    have HM := Lib.hid hmb
    obtain ⟨p1, p2, p3, p4, _, _⟩ := machB_parts hmb
    have HG : Hid (∀ W, Below V.heap.size V W → Calls Tryd.prog 69 #[.pointer (some ⟨w.heap.size, 0, none⟩), .pointer (some ⟨w.heap.size + 1, 0, none⟩)] W fun e w' => e = .returned (.bool (paB sy st ⟨q, p, xs⟩)) ∧ Below W.heap.size W w') := Lib.hid (fun W z => l26Good_any _ _ sy st B m k q p A n c xs W (HMA.out.below z) (HPA.out.below z) (HX.out.below z) hn p1 p2 p3 p4)
    clear hmb
    cases hv : paB sy st ⟨q, p, xs⟩ with
    | false =>
      have HE : Hid (ancR sy st rs ⟨q, p, xs⟩ b = (pas [], 1)) := Lib.hid (by unfold ancR; rw [HM.out, hv]; rfl)
      rw [hv] at HG
      clear hv p1 p2 p3 p4
      go_enter Tryd.func30, Tryd.ntmps30
      go_upto_region 1 with fail
      rw [← HV.out]
      go_wp2_with (first
        | (go_at_call 54; refine HIS.out.mono ?_; rintro e w2 ⟨rfl, z2⟩)
        | (go_at_call 69; refine (HG.out _ z2).mono ?_; rintro e w3 ⟨rfl, z3⟩))
      exact bodyPost_ret (v := .tuple #[.slice none 0 0, .int .i64 1]) (by simp [results, Tryd.results30, go_sem]) rfl (pasB HE.out rfl OPs.void ((HY0.out.trans (z2.mono HY0.out.size)).trans (z3.mono (by have := HY0.out.size; have := z2.size; omega))))
    | true =>
      rw [hv] at HG
      have HOK := Lib.hid (paB_ok hv)
      have HVV : Hid ((machB sy st rs && paB sy st ⟨q, p, xs⟩) = true) := Lib.hid (by rw [HM.out, hv]; rfl)
      clear hv p1 p2 p3 p4
      go_enter Tryd.func30, Tryd.ntmps30
      go_upto_region 1 with fail
      rw [← HV.out]
      go_upto_region 3 with (first
        | (go_at_call 54; refine HIS.out.mono ?_; rintro e w2 ⟨rfl, z2⟩)
        | (go_at_call 69; refine (HG.out _ z2).mono ?_; rintro e w3 ⟨rfl, z3⟩))
      have hz3 := z2.trans (z3.mono z2.size)
      have HZ3 := Lib.hid (HY0.out.trans (hz3.mono HY0.out.size))
      have HM3 := Lib.hid (HMA.out.below hz3)
      have HR3 := Lib.hid (HR.out.below hz3)
      have HX3 := Lib.hid (HX.out.below hz3)
      have HB3 := Lib.hid (HB1.out.below' hz3)
      clear z2 z3 hz3 HIS HG
      cases hb : inB b 0 60 with
      | false =>
        have HE : Hid (ancR sy st rs ⟨q, p, xs⟩ b = (pas [], 2)) := Lib.hid (by unfold ancR; rw [HVV.out, hb]; rfl)
        have HB := Lib.hid hb
        clear hb
        go_wp2_with (go_at_call 55; refine (l00In_is HB.out _).mono ?_; rintro e w' ⟨rfl, rfl⟩)
        exact bodyPost_ret (v := .tuple #[.slice none 0 0, .int .i64 2]) (by simp [results, Tryd.results30, go_sem]) rfl (pasB HE.out rfl OPs.void HZ3.out)
      | true =>
        have hb' : 0 ≤ b ∧ b ≤ 60 := by simpa [inB_iff] using hb
        obtain ⟨hb0, hb1⟩ := hb'
        obtain ⟨D, rfl⟩ : ∃ D : Nat, b = (D : Int) := ⟨b.toNat, by omega⟩
        have HE : Hid (ancR sy st rs ⟨q, p, xs⟩ (D : Int) = listR (ancF sy rs D [⟨q, p, xs⟩])) := Lib.hid (by unfold ancR; rw [HVV.out, hb, Int.toNat_natCast]; rfl)
        have HB := Lib.hid hb
        clear hb
        go_upto_region 5 with (go_at_call 55; refine (l00In_is HB.out _).mono ?_; rintro e w' ⟨rfl, rfl⟩)
        have hB3 := HB3.out
        have u0 : w3.cell? ⟨(w.heap.size + 1), 0, none⟩ = some (.int .i64 q) := hB3.cell 0
        have u1 : w3.cell? ⟨(w.heap.size + 1), 1, none⟩ = some (.int .i64 p) := hB3.cell 1
        have u2 : w3.cell? ⟨(w.heap.size + 1), 2, none⟩ = some (.slice A n c) := hB3.cell 2
        clear hB3
        go_region_held3 (fun w' => w'.cell? ⟨w.heap.size + 1, 0, none⟩ = some (.int .i64 q) ∧ w'.cell? ⟨w.heap.size + 1, 1, none⟩ = some (.int .i64 p) ∧ w'.cell? ⟨w.heap.size + 1, 2, none⟩ = some (.slice A n c))
          (first | (go_keep; done) | (exact ⟨(HB3.out.below' z4).cell 0, (HB3.out.below' z4).cell 1, (HB3.out.below' z4).cell 2⟩))
          ((go_at_call 70; refine (l00Own_any A n c xs _ (HX3.out.drewN 1) hn).mono ?_; rintro e w4 ⟨L, a, rfl, oL', z4'⟩; have z4 : Below w3.heap.size w3 w4 := below_undrew (n := 1) z4'; have oL : Own w4 w3.heap.size 2 1 L xs.length a (ints xs) := oL'))
        have HZ4 := Lib.hid (HZ3.out.trans (z4.mono HZ3.out.size))
        have HM4 := Lib.hid (HM3.out.below z4)
        have HR4 := Lib.hid (HR3.out.below z4)
        have HOL := Lib.hid (oL.mono HZ3.out.size)
        clear z4 z4' oL oL' u0 u1 u2 HM3 HR3 HX3 HB3
        obtain ⟨W5, hW_⟩ : ∃ W_, W_ = w4.alloc (.cells #[.int .i64 q, .int .i64 p, .slice L xs.length a] 58) := ⟨_, rfl⟩
        have b5 : Blk W5 w4.heap.size 58 #[.int .i64 q, .int .i64 p, .slice L xs.length a] := by rw [hW_]; exact Blk.new w4 _ _
        have z5 : Below w4.heap.size w4 W5 := by rw [hW_]; exact (Below.refl _ _).alloc (Nat.le_refl _) _
        have HW5 := Lib.hid hW_
        clear hW_
        have hHd : Own W5 w4.heap.size 58 3 (some ⟨w4.heap.size, 0, none⟩) 1 1 ([(⟨q, p, L, a, xs⟩ : Pm)].flatMap Pm.cells) := by rw [HW5.out]; exact Own.lit w4 #[.int .i64 q, .int .i64 p, .slice L xs.length a] _ 1 3 w4.heap.size rfl (by simp [maxLen]) (Nat.le_refl _)
        have HO5 : Hid (OPs W5 w.heap.size (some ⟨w4.heap.size, 0, none⟩) 1 1 [⟨q, p, L, a, xs⟩]) := Lib.hid (OPs.one (hHd.mono HZ4.out.size) (HOL.out.below z5))
        have HZ5 := Lib.hid (HZ4.out.trans (z5.mono HZ4.out.size))
        have HM5 := Lib.hid (HM4.out.below z5)
        have HR5 := Lib.hid (HR4.out.below z5)
        clear hHd z5 b5
        go_wp2_with fail
        rw [← HW5.out]
        clear HW5 HM4 HR4 HOL HZ4 HZ3
        go_loopw [2, 8] (fun i v wr => ∃ (j : Nat) (A' : Option Addr) (c' : Nat) (us : List Pm), j ≤ D ∧ i = .int .i64 ((D - j : Nat) : Int) ∧ v = .slice A' us.length c' ∧ Hid (OPs wr w.heap.size A' us.length c' us) ∧ Hid (ancF sy rs D [⟨q, p, xs⟩] = ancF sy rs (D - j) (pas us)) ∧ Hid (∀ x ∈ pas us, PaOk sy st x ∧ x.cs.length ≤ 60) ∧ Hid (us.length ≤ 300) ∧ Hid (Below W5.heap.size W5 wr)) (fun i _ _ => (intOf i).toNat)
        case atStart => exact ⟨0, _, 1, [⟨q, p, L, a, xs⟩], by omega, rfl, rfl, HO5, Lib.hid rfl, Lib.hid (fun x hx => by obtain rfl := List.mem_singleton.1 hx; exact HOK.out), Lib.hid (by simp), Lib.hid (Below.refl _ _)⟩
        case round =>
          obtain ⟨j, A', c', us, hj, rfl, rfl, HO1, HD1, HOK1, HN1, HB⟩ := hrel
          rename World => W0
          have hu3 := HN1.out
          have HZ := Lib.hid (HZ5.out.trans (HB.out.mono HZ5.out.size))
          obtain ⟨T, hT⟩ : ∃ T, T = D - j := ⟨_, rfl⟩
          rw [← hT]
          have HT := Lib.hid hT
          have hT60 : T ≤ 60 := by omega
          clear hT
          by_cases hT0 : T = 0
          · subst hT0
            have j1 : ¬ (0 : Int) < ((0 : Nat) : Int) := by omega
            have HY : Hid (ancR sy st rs ⟨q, p, xs⟩ (D : Int) = (pas us, 0)) := Lib.hid (by rw [HE.out, HD1.out, ← HT.out]; rfl)
            go_wp2_with fail
            exact bodyPost_ret (v := .tuple #[.slice A' us.length c', .int .i64 0]) (by simp [results, Tryd.results30, go_sem]) rfl (pasB HY.out rfl HO1.out HZ.out)
          have j1 : 0 < T := by omega
          have HJ : Hid (D - j = (D - (j + 1)) + 1) := Lib.hid (by have := HT.out; omega)
          have HCALL := Lib.hid (l26Next_any w.heap.size w.heap.size sy st B m k rs A' us.length c' us W0 (HM5.out.below HB.out) (HR5.out.below HB.out) HO1.out HM.out HOK1.out (by omega))
          cases hnx : nextF sy rs (pas us) with
          | none =>
            have HNO : Hid (ancR sy st rs ⟨q, p, xs⟩ (D : Int) = (pas [], 5)) := Lib.hid (by rw [HE.out, HD1.out, HJ.out, ancF_full hnx]; rfl)
            have HC2 := Lib.hid (HCALL.out.mono fun e w2 h => h.no hnx)
            clear hnx
            go_wp2_with (go_at_call 71; refine HC2.out.mono ?_; rintro e w2 ⟨rfl, z2⟩)
            exact bodyPost_ret (v := .tuple #[.slice none 0 0, .int .i64 5]) (by simp [results, Tryd.results30, go_sem]) rfl (pasB HNO.out rfl OPs.void (HZ.out.trans (z2.mono HZ.out.size)))
          | some l =>
            have HD2 : Hid (ancF sy rs D [⟨q, p, xs⟩] = ancF sy rs (D - (j + 1)) l) := Lib.hid (by rw [HD1.out, HJ.out, ancF_next hnx])
            have HOK2 := Lib.hid (nextF_ok HM.out HOK1.out hnx)
            have HC2 := Lib.hid (HCALL.out.mono fun e w2 h => h.yes hnx)
            have HW0 : Hid (w.heap.size ≤ W0.heap.size) := Lib.hid HZ.out.size
            have HB0 : Hid (W5.heap.size ≤ W0.heap.size) := Lib.hid HB.out.size
            clear hnx
            go_wp2_with (go_at_call 71; refine HC2.out.mono ?_; rintro e w7 ⟨⟨A2, c2, ts2, rfl, hO2, hp2⟩, z2⟩; have HO2 := Lib.hid (hO2.mono HW0.out); have HP2 := Lib.hid hp2; have HZ2 := Lib.hid (HB.out.trans (z2.mono HB0.out)); clear hO2 hp2 z2)
            have HN2 : Hid (ts2.length ≤ 300) := Lib.hid (by have h1 := HOK2.out.2; rw [← HP2.out] at h1; simpa [pas] using h1)
            go_roundw
            case rel => exact ⟨j + 1, A2, c2, ts2, by have := HT.out; omega, by congr 1; have := HT.out; omega, rfl, HO2, by rw [HP2.out]; exact HD2, by rw [HP2.out]; exact Lib.hid HOK2.out.1, HN2, HZ2⟩
            case measure => simp [intOf]; omega
end Go.Proofs.YtokglpdlhacnaaaDoor

/-
  AncestorsOf on both sides, with the length of the list that is returned.
-/
namespace Go.Proofs.YtokglpdlhacnaaaDoor
open Go.RowKit

def PasR (w : World) (r : List Pa × Int) (e : Ending) (w' : World) : Prop :=
  ∃ A c ts, e = .returned (.tuple #[.slice A r.1.length c, .int .i64 r.2]) ∧ OPs w' w.heap.size A r.1.length c ts ∧ pas ts = r.1 ∧ Below w.heap.size w w'
theorem PasB.toR {w w' : World} {r : List Pa × Int} {e : Ending} (h : PasB w r e w') : PasR w r e w' := by
  obtain ⟨A, c, ts, h1, h2, h3, h4⟩ := h
  have hl : ts.length = r.1.length := by rw [← h3]; simp [pas]
  rw [hl] at h1 h2
  exact ⟨A, c, ts, h1, h2, h3, h4⟩
theorem ancestorsI_r (sy st : Int) (B : Option Addr) (m k : Nat) (rs : List R3) (q p : Int) (A : Option Addr) (n c : Nat) (xs : List Int) (b : Int) (w : World) (hr : S3 w B m rs) (hx : SI w A n xs) (hm : m ≤ 1048576) (hn : n ≤ 1048576) (ht : Tab w) :
    Calls Tryd.prog 32 #[.agg #[.int .i64 sy, .int .i64 st, .slice B m k], .agg #[.int .i64 q, .int .i64 p, .slice A n c], .int .i64 b] w (PasR w (ancR sy st rs ⟨q, p, xs⟩ b)) :=
  (ancestorsI_any sy st B m k rs q p A n c xs b w hr hx hm hn ht).mono fun _ _ h => h.toR
theorem ancestorsS_r (sy st : Int) (B : Option Addr) (m k : Nat) (rs : List R3) (q p : Int) (A : Option Addr) (n c : Nat) (xs : List Int) (b : Int) (w : World) (hr : S3 w B m rs) (hx : SI w A n xs) (hm : m ≤ 1048576) (hn : n ≤ 1048576) :
    Calls Tryd.prog 30 #[.agg #[.int .i64 sy, .int .i64 st, .slice B m k], .agg #[.int .i64 q, .int .i64 p, .slice A n c], .int .i64 b] w (PasR w (ancR sy st rs ⟨q, p, xs⟩ b)) :=
  (ancestorsS_any sy st B m k rs q p A n c xs b w hr hx hm hn).mono fun _ _ h => h.toR
end Go.Proofs.YtokglpdlhacnaaaDoor

/-
  Slices of partial configurations whose numbers are marked one after the other (turned by program from TusM).
-/
namespace Go.Proofs.YtokglpdlhacnaaaDoor
open Go.RowKit

theorem flat_splitP {α β : Type} {f : α → List β} {ts : List α} {k : Nat} {t : α} (h : ts[k]? = some t) : ts.flatMap f = (ts.take k).flatMap f ++ (f t ++ (ts.drop (k + 1)).flatMap f) := by
  obtain ⟨hk, he⟩ := List.getElem?_eq_some_iff.1 h
  have e : ts = ts.take k ++ t :: ts.drop (k + 1) := by rw [← he, ← List.drop_eq_getElem_cons hk, List.take_append_drop]
  conv => lhs; rw [e]
  rw [List.flatMap_append, List.flatMap_cons]
theorem flat_splitP_set {α β : Type} {f : α → List β} {ts : List α} {k : Nat} {t : α} (u : α) (h : ts[k]? = some t) : (ts.set k u).flatMap f = (ts.take k).flatMap f ++ (f u ++ (ts.drop (k + 1)).flatMap f) := by
  obtain ⟨hk, he⟩ := List.getElem?_eq_some_iff.1 h
  have e : (ts.set k u)[k]? = some u := by simp [hk]
  rw [flat_splitP e]
  congr 1
  · rw [List.take_set_of_le (Nat.le_refl k)]
  · congr 2
    rw [List.drop_set_of_lt (by omega)]
section
variable {w w' : World} {lo n c s : Nat} {e : TypeId} {A : Option Addr} {cs : List Value} {rows : List Rw}
/-- A store into a cell of the spine. -/
theorem Recs.cellP {b off : Nat} (h : Recs w lo e s (some ⟨b, off, none⟩) n c cs rows) {j : Nat} (hj : j < cs.length) (u : Value) : Recs (w.setCell ⟨b, off + j, none⟩ u) lo e s (some ⟨b, off, none⟩) n c (cs.set j u) rows :=
  ⟨h.spine.set_ hj u, fun r hr => Own.far (h.each r hr) (p := ⟨b, off + j, none⟩) (fun hb => h.row_ne r hr b rfl hb) u, h.apt, h.types⟩
/-- A row that is written. -/
theorem Recs.rowP {l1 l2 : List Rw} {r r' : Rw} (h : Recs w lo e s A n c cs (l1 ++ r :: l2)) (hA : r'.A = r.A) (he : r'.e = r.e) (ho : r'.own w' lo) (hf : ∀ b, blk r.A ≠ some b → w'.heap[b]? = w.heap[b]?) : Recs w' lo e s A n c cs (l1 ++ r' :: l2) := by
  have hp := h.apt
  rw [List.pairwise_append, List.pairwise_cons] at hp
  obtain ⟨p1, ⟨p2, p3⟩, p4⟩ := hp
  have hr : r ∈ l1 ++ r :: l2 := by simp
  refine ⟨h.spine.kept (fun b hb _ _ => hf b (fun hb' => h.row_ne r hr b hb hb')), fun x hx => ?_, ?_, fun x hx => ?_⟩
  · rcases List.mem_append.1 hx with h1 | h1
    · exact Own.kept (h.each x (by simp [h1])) (fun b hb _ _ => hf b (fun hb' => p4 x h1 r (by simp) b hb hb'))
    · rcases List.mem_cons.1 h1 with rfl | h1
      · exact ho
      · exact Own.kept (h.each x (by simp [h1])) (fun b hb _ _ => hf b (fun hb' => p2 x h1 b hb' hb))
  · rw [List.pairwise_append, List.pairwise_cons]
    refine ⟨p1, ⟨fun x hx b hb => p2 x hx b (hA ▸ hb), p3⟩, fun x hx y hy => ?_⟩
    rcases List.mem_cons.1 hy with rfl | hy
    · intro b hb hb'; exact p4 x hx r (by simp) b hb (hA ▸ hb')
    · exact p4 x hx y (by simp [hy])
  · rcases List.mem_append.1 hx with h1 | h1
    · exact h.types x (by simp [h1])
    · rcases List.mem_cons.1 h1 with rfl | h1
      · rw [he]; exact h.types r hr
      · exact h.types x (by simp [h1])
end
section
variable {w w' : World} {lo n c : Nat} {A : Option Addr} {ts : List Pm}
theorem OPs.setq {b off k : Nat} {t : Pm} (h : OPs w lo (some ⟨b, off, none⟩) n c ts) (hT : ts[k]? = some t) (p : Int) : OPs (w.setCell ⟨b, off + k * 3, none⟩ (.int .i64 p)) lo (some ⟨b, off, none⟩) n c (ts.set k { t with q := p }) := by
  have hk := (List.getElem?_eq_some_iff.1 hT).1
  have h1 := Recs.cellP h (j := k * 3) (by rw [flat_len Pm.cells_len]; omega) (.int .i64 p)
  have h2 : (ts.flatMap Pm.cells).set (k * 3) (.int .i64 p) = (ts.set k { t with q := p }).flatMap Pm.cells := flat_set (j := 0) Pm.cells_len hT (by omega) rfl
  have h3 : (ts.set k { t with q := p }).flatMap Pm.rows = ts.flatMap Pm.rows := by rw [flat_splitP_set _ hT, flat_splitP hT]; rfl
  unfold OPs
  rw [← h2, h3]
  exact h1
theorem OPs.setp {b off k : Nat} {t : Pm} (h : OPs w lo (some ⟨b, off, none⟩) n c ts) (hT : ts[k]? = some t) (p : Int) : OPs (w.setCell ⟨b, off + k * 3 + 1, none⟩ (.int .i64 p)) lo (some ⟨b, off, none⟩) n c (ts.set k { t with p := p }) := by
  have hk := (List.getElem?_eq_some_iff.1 hT).1
  have h1 := Recs.cellP h (j := k * 3 + 1) (by rw [flat_len Pm.cells_len]; omega) (.int .i64 p)
  have h2 : (ts.flatMap Pm.cells).set (k * 3 + 1) (.int .i64 p) = (ts.set k { t with p := p }).flatMap Pm.cells := flat_set (j := 1) Pm.cells_len hT (by omega) rfl
  have h3 : (ts.set k { t with p := p }).flatMap Pm.rows = ts.flatMap Pm.rows := by rw [flat_splitP_set _ hT, flat_splitP hT]; rfl
  unfold OPs
  rw [← h2, h3]
  rw [← Nat.add_assoc] at h1
  exact h1
theorem OPs.setL {k : Nat} {t : Pm} {xs : List Int} (h : OPs w lo A n c ts) (hT : ts[k]? = some t) (hl : xs.length = t.xs.length) (ho : Own w' lo 2 1 t.L t.xs.length t.a (ints xs)) (hf : ∀ b, blk t.L ≠ some b → w'.heap[b]? = w.heap[b]?) : OPs w' lo A n c (ts.set k { t with xs := xs }) := by
  have h2 : (ts.set k { t with xs := xs }).flatMap Pm.cells = ts.flatMap Pm.cells := by rw [flat_splitP_set _ hT, flat_splitP hT]; simp [Pm.cells, hl]
  unfold OPs at h ⊢
  rw [flat_splitP (f := Pm.rows) hT] at h
  rw [h2, flat_splitP_set _ hT]
  have h' : Recs w lo 58 3 A n c (ts.flatMap Pm.cells) ((ts.take k).flatMap Pm.rows ++ Rw.i 2 t.L t.a t.xs :: (ts.drop (k + 1)).flatMap Pm.rows) := by
    exact h
  exact Recs.rowP (r' := Rw.i 2 t.L t.a xs) h' rfl rfl (by show Own w' lo _ 1 t.L xs.length t.a (ints xs); rw [hl]; exact ho) hf
end
/-! ### marks -/
def Pm.size (t : Pm) : Nat := 2 + t.xs.length
def Pm.mark (p : Int) (t : Pm) : Pm := ⟨p, p + 1, t.L, t.a, marks (p + 2) t.xs.length⟩
def offP (ts : List Pm) (k : Nat) : Nat := ((ts.take k).map Pm.size).sum
theorem offP_zero (ts : List Pm) : offP ts 0 = 0 := by simp [offP]
theorem sum_take_nextP {f : Pm → Nat} {ts : List Pm} {t : Pm} {k : Nat} (hT : ts[k]? = some t) : ((ts.take (k + 1)).map f).sum = ((ts.take k).map f).sum + f t := by
  obtain ⟨hk, rfl⟩ := List.getElem?_eq_some_iff.1 hT
  rw [List.take_succ_eq_append_getElem hk, List.map_append, List.sum_append]
  simp only [List.map_cons, List.map_nil, List.sum_cons, List.sum_nil, Nat.add_zero]
theorem offP_next {ts : List Pm} {t : Pm} {k : Nat} (hT : ts[k]? = some t) : offP ts (k + 1) = offP ts k + t.size := sum_take_nextP hT
theorem offP_le (ts : List Pm) (b : Nat) (h : ∀ t ∈ ts, t.size ≤ b) (k : Nat) : offP ts k ≤ ts.length * b := by
  have key : ∀ us : List Pm, (∀ t ∈ us, t.size ≤ b) → (us.map Pm.size).sum ≤ us.length * b := by
    intro us
    induction us with
    | nil => simp
    | cons x r ih =>
      intro hu
      have h1 := hu x (by simp)
      have h2 := ih (fun y hy => hu y (by simp [hy]))
      simp only [List.map_cons, List.sum_cons, List.length_cons, Nat.succ_mul]
      omega
  refine Nat.le_trans (key _ (fun t ht => h t (List.mem_of_mem_take ht))) (Nat.mul_le_mul_right _ ?_)
  simp; omega
/-- Behind k marked configurations. -/
def markPa (p : Int) (ts : List Pm) (k : Nat) : List Pm := ts.mapIdx (fun i t => if i < k then t.mark (p + (offP ts i : Int)) else t)
theorem markPa_zero (p : Int) (ts : List Pm) : markPa p ts 0 = ts := by
  unfold markPa
  apply List.ext_getElem?
  intro i
  simp
theorem markPa_get {p : Int} {ts : List Pm} {k i : Nat} {t : Pm} (h : ts[i]? = some t) : (markPa p ts k)[i]? = some (if i < k then t.mark (p + (offP ts i : Int)) else t) := by
  unfold markPa; simp [h]
theorem markPa_len (p : Int) (ts : List Pm) (k : Nat) : (markPa p ts k).length = ts.length := by simp [markPa]
theorem markPa_next {p : Int} {ts : List Pm} {k : Nat} {t : Pm} (h : ts[k]? = some t) : (markPa p ts k).set k (t.mark (p + (offP ts k : Int))) = markPa p ts (k + 1) := by
  obtain ⟨hk, he⟩ := List.getElem?_eq_some_iff.1 h
  apply List.ext_getElem?
  intro i
  by_cases hi : i = k
  · subst hi
    rw [List.getElem?_set_self (by rw [markPa_len]; exact hk), markPa_get h]
    simp
  · rw [List.getElem?_set_ne (by omega)]
    by_cases hlt : i < ts.length
    · rw [markPa_get (List.getElem?_eq_getElem hlt), markPa_get (List.getElem?_eq_getElem hlt)]
      congr 1
      by_cases h1 : i < k
      · rw [if_pos h1, if_pos (by omega)]
      · rw [if_neg h1, if_neg (by omega)]
    · rw [List.getElem?_eq_none (by rw [markPa_len]; omega), List.getElem?_eq_none (by rw [markPa_len]; omega)]
end Go.Proofs.YtokglpdlhacnaaaDoor

/-
  Contracts of the laws' helpers over Partial: szPartial, toPartial, eqPartial, markPartial.
-/
namespace Go.Proofs.YtokglpdlhacnaaaDoor
open Go.RowKit

set_option maxHeartbeats 400000 in
theorem szPartial_any (d0 : Int) (d1 : Int) (A0 : Option Addr) (n0 c0 : Nat) (left : Int) (w : World) (h0 : n0 ≤ 9223372036854775807) (g0 : 0 ≤ left) (g1 : left ≤ 1048576) :
    Calls Tryd.prog 29 #[.agg #[.int .i64 d0, .int .i64 d1, .slice A0 n0 c0], .int .i64 left] w (SzP w left ((n0 : Int))) := by
  obtain ⟨W, hW⟩ : ∃ W, W = w.alloc (.cells #[.int .i64 d0, .int .i64 d1, .slice A0 n0 c0] 53) := ⟨_, rfl⟩
  have b0 : Blk W w.heap.size 53 #[.int .i64 d0, .int .i64 d1, .slice A0 n0 c0] := by rw [hW]; exact Blk.new w _ _
  have z0 : Below w.heap.size w W := by rw [hW]; exact (Below.refl _ _).alloc (Nat.le_refl _) _
  have HW := Lib.hid hW
  clear hW
  go_enter Tryd.func29, Tryd.ntmps29
  go_wp2_with fail
  rw [← HW.out]
  refine (szI_p A0 n0 c0 left W h0 (by omega) (by omega)).mono ?_
  rintro e w1 ⟨z1, rfl, l1, u1, e1, b1⟩
  have E1 := Lib.hid e1
  clear e1
  have y1 : Below w.heap.size w w1 := z0.trans (b1.mono z0.size)
  by_cases hneg1 : z1 < 0
  · go_wp2_with fail
    go_ret
    exact ⟨-1, rfl, by omega, by omega, by omega, y1⟩
  go_wp2_with fail
  go_ret
  exact ⟨z1, rfl, by omega, by omega, fun _ => by have t1 := E1.out (by omega); omega, y1⟩

def ToPartial (w : World) (d0 : Int) (d1 : Int) (n0 : Nat) (x0 : List Int) (e : Ending) (w' : World) : Prop :=
  ∃ B0, e = .returned (.agg #[.int .i64 d0, .int .i64 d1, .slice B0 n0 n0]) ∧ Own w' w.heap.size 2 1 B0 n0 n0 (ints x0) ∧ Below w.heap.size w w'

set_option maxHeartbeats 1000000 in
theorem toPartial_any (d0 : Int) (d1 : Int) (A0 : Option Addr) (n0 c0 : Nat) (x0 : List Int) (w : World) (r0 : SI w A0 n0 x0) (h0 : n0 ≤ 1048576) :
    Calls Tryd.prog 31 #[.agg #[.int .i64 d0, .int .i64 d1, .slice A0 n0 c0]] w (ToPartial w d0 d1 n0 x0) := by
  obtain ⟨W, hW⟩ : ∃ W, W = ((w.alloc (.cells #[.int .i64 d0, .int .i64 d1, .slice A0 n0 c0] 53)).alloc (.cells #[.int .i64 0, .int .i64 0, .slice none 0 0] 58)).alloc (.cells #[.int .i64 d0, .int .i64 d1, .slice none 0 0] 58) := ⟨_, rfl⟩
  have s1 : (w.alloc (.cells #[.int .i64 d0, .int .i64 d1, .slice A0 n0 c0] 53)).heap.size = w.heap.size + 1 := by simp
  have s2 : ((w.alloc (.cells #[.int .i64 d0, .int .i64 d1, .slice A0 n0 c0] 53)).alloc (.cells #[.int .i64 0, .int .i64 0, .slice none 0 0] 58)).heap.size = w.heap.size + 1 + 1 := by simp
  have b0 : Blk W w.heap.size 53 #[.int .i64 d0, .int .i64 d1, .slice A0 n0 c0] := by rw [hW]; exact ((Blk.new w _ _).alloc _).alloc _
  have b1 : Blk W (w.heap.size + 1) 58 #[.int .i64 0, .int .i64 0, .slice none 0 0] := by rw [hW, ← s1]; exact (Blk.new _ _ _).alloc _
  have b2 : Blk W (w.heap.size + 1 + 1) 58 #[.int .i64 d0, .int .i64 d1, .slice none 0 0] := by rw [hW, ← s2]; exact Blk.new _ _ _
  have y0 : Below w.heap.size w W := by rw [hW]; exact (((Below.refl _ _).alloc (Nat.le_refl _) _).alloc (by simp) _).alloc (by simp; omega) _
  have hz : w.heap.size + 1 + 1 < W.heap.size := b2.lt
  have HW := Lib.hid hW
  clear hW s1 s2
  go_enter Tryd.func31, Tryd.ntmps31
  go_wp2_with fail
  rw [← HW.out]
  clear HW
  refine (toI _ _ _ x0 _ (r0.below y0) h0).mono ?_
  rintro e w0 ⟨B0, rfl, o0, bz0⟩
  have b0 := b0.below' bz0
  have b1 := b1.below' bz0
  have b2 := b2.below' bz0
  have yc0 : Below w.heap.size w w0 := y0.trans (bz0.mono y0.size)
  have hw0 : W.heap.size ≤ w0.heap.size := by have := bz0.size; omega
  have p0 : w0.cell? ⟨w.heap.size + 1 + 1, 2, none⟩ = some (.slice none 0 0) := b2.cell 2
  have pf0 := b2.frozen 2
  have a0 : w0.cell? ⟨w.heap.size + 1 + 1, 0, none⟩ = some (.int .i64 d0) := b2.cell 0
  have a1 : w0.cell? ⟨w.heap.size + 1 + 1, 1, none⟩ = some (.int .i64 d1) := b2.cell 1
  have c0_ : w0.cell? ⟨w.heap.size + 1, 0, none⟩ = some (.int .i64 0) := b1.cell 0
  have f0_ := b1.frozen 0
  have c1_ : w0.cell? ⟨w.heap.size + 1, 1, none⟩ = some (.int .i64 0) := b1.cell 1
  have f1_ := b1.frozen 1
  have c2_ : w0.cell? ⟨w.heap.size + 1, 2, none⟩ = some (.slice none 0 0) := b1.cell 2
  have f2_ := b1.frozen 2
  go_wp2_with fail
  have dB : Blk ((((w0.setCell ⟨w.heap.size + 1 + 1, 2, none⟩ (.slice B0 n0 n0)).setCell ⟨w.heap.size + 1, 0, none⟩ (.int .i64 d0)).setCell ⟨w.heap.size + 1, 1, none⟩ (.int .i64 d1)).setCell ⟨w.heap.size + 1, 2, none⟩ (.slice B0 n0 n0)) (w.heap.size + 1) 58 #[.int .i64 d0, .int .i64 d1, .slice B0 n0 n0] := (((b1.far (p := ⟨w.heap.size + 1 + 1, 2, none⟩) (by simp) _).set_ 0 _).set_ 1 _).set_ 2 _
  have m0 : Own ((((w0.setCell ⟨w.heap.size + 1 + 1, 2, none⟩ (.slice B0 n0 n0)).setCell ⟨w.heap.size + 1, 0, none⟩ (.int .i64 d0)).setCell ⟨w.heap.size + 1, 1, none⟩ (.int .i64 d1)).setCell ⟨w.heap.size + 1, 2, none⟩ (.slice B0 n0 n0)) W.heap.size 2 1 B0 n0 n0 (ints x0) := (((o0.far (fun e => by have := o0.blk_ge _ e; simp at this; omega) _).far (fun e => by have := o0.blk_ge _ e; simp at this; omega) _).far (fun e => by have := o0.blk_ge _ e; simp at this; omega) _).far (fun e => by have := o0.blk_ge _ e; simp at this; omega) _
  have yf : Below w.heap.size w ((((w0.setCell ⟨w.heap.size + 1 + 1, 2, none⟩ (.slice B0 n0 n0)).setCell ⟨w.heap.size + 1, 0, none⟩ (.int .i64 d0)).setCell ⟨w.heap.size + 1, 1, none⟩ (.int .i64 d1)).setCell ⟨w.heap.size + 1, 2, none⟩ (.slice B0 n0 n0)) := (((yc0.setCell (by simp; omega) _).setCell (by simp) _).setCell (by simp) _).setCell (by simp) _
  generalize (((w0.setCell ⟨w.heap.size + 1 + 1, 2, none⟩ (.slice B0 n0 n0)).setCell ⟨w.heap.size + 1, 0, none⟩ (.int .i64 d0)).setCell ⟨w.heap.size + 1, 1, none⟩ (.int .i64 d1)).setCell ⟨w.heap.size + 1, 2, none⟩ (.slice B0 n0 n0) = wf at *
  have g0_ : wf.cell? ⟨w.heap.size + 1, 0, none⟩ = some (.int .i64 d0) := dB.cell 0
  have g1_ : wf.cell? ⟨w.heap.size + 1, 1, none⟩ = some (.int .i64 d1) := dB.cell 1
  have g2_ : wf.cell? ⟨w.heap.size + 1, 2, none⟩ = some (.slice B0 n0 n0) := dB.cell 2
  have hres : ToPartial w d0 d1 n0 x0 (.returned (.agg #[.int .i64 d0, .int .i64 d1, .slice B0 n0 n0])) wf := ⟨B0, rfl, m0.mono (by omega), yf⟩
  exact bodyPost_ret (v := .agg #[.int .i64 d0, .int .i64 d1, .slice B0 n0 n0]) (by simp [results, Tryd.results31, go_sem, g0_, g1_, g2_]) rfl hres

def samePartialB (d0 d0' : Int) (d1 d1' : Int) (x0 x0' : List Int) : Bool :=
  decide (d0 = d0') && decide (d1 = d1') && sameI x0 x0'
theorem samePartialB_self (d0 : Int) (d1 : Int) (x0 : List Int) : samePartialB d0 d0 d1 d1 x0 x0 = true := by simp [samePartialB, sameI]

set_option maxHeartbeats 1000000 in
theorem eqPartial_any (d0 : Int) (d1 : Int) (A0 : Option Addr) (n0 c0 : Nat) (x0 : List Int) (d0' : Int) (d1' : Int) (A0' : Option Addr) (n0' c0' : Nat) (x0' : List Int) (w : World) (r0 : SI w A0 n0 x0) (r0' : SI w A0' n0' x0') (h0 : n0 ≤ 1048576) :
    Calls Tryd.prog 34 #[.agg #[.int .i64 d0, .int .i64 d1, .slice A0 n0 c0], .agg #[.int .i64 d0', .int .i64 d1', .slice A0' n0' c0']] w fun e w' => e = .returned (.bool (samePartialB d0 d0' d1 d1' x0 x0')) ∧ Below w.heap.size w w' := by
  obtain ⟨W, hW⟩ : ∃ W, W = (w.alloc (.cells #[.int .i64 d0, .int .i64 d1, .slice A0 n0 c0] 58)).alloc (.cells #[.int .i64 d0', .int .i64 d1', .slice A0' n0' c0'] 58) := ⟨_, rfl⟩
  have s1 : (w.alloc (.cells #[.int .i64 d0, .int .i64 d1, .slice A0 n0 c0] 58)).heap.size = w.heap.size + 1 := by simp
  have b0 : Blk W w.heap.size 58 #[.int .i64 d0, .int .i64 d1, .slice A0 n0 c0] := by rw [hW]; exact (Blk.new w _ _).alloc _
  have b1 : Blk W (w.heap.size + 1) 58 #[.int .i64 d0', .int .i64 d1', .slice A0' n0' c0'] := by rw [hW, ← s1]; exact Blk.new _ _ _
  have y0 : Below w.heap.size w W := by rw [hW]; exact ((Below.refl _ _).alloc (Nat.le_refl _) _).alloc (by simp) _
  have HW := Lib.hid hW
  clear hW s1
  cases hd_d0 : (d0 != d0')
  · skip
    have HD_d0 := Lib.hid (show d0 = d0' by simpa using hd_d0)
    cases hd_d1 : (d1 != d1')
    · skip
      have HD_d1 := Lib.hid (show d1 = d1' by simpa using hd_d1)
      go_enter Tryd.func34, Tryd.ntmps34
      go_wp2_with fail
      rw [← HW.out]
      clear hd_d0 hd_d1
      refine (eqI _ _ _ _ _ _ x0 x0' _ (r0.below y0) (r0'.below y0) (by omega)).mono ?_
      rintro e w0' ⟨rfl, q0, rfl⟩
      have bz0 : Below W.heap.size W (W.drewN q0) := below_drewN (Below.refl _ _) _
      generalize W.drewN q0 = w0 at *
      have yy0 : Below w.heap.size w w0 := y0.trans (bz0.mono y0.size)
      have b0 := b0.below' bz0
      have b1 := b1.below' bz0
      cases hs0 : sameI x0 x0'
      · have HS := Lib.hid hs0
        clear hs0
        go_wp2_with fail
        go_ret
        exact ⟨ret_bool (by unfold samePartialB; rw [HS.out]; simp), yy0⟩
      · skip
        have HS0 := Lib.hid hs0
        clear hs0
        go_wp2_with fail
        go_ret
        exact ⟨ret_bool (by unfold samePartialB; rw [HS0.out]; simp [HD_d0.out, HD_d1.out]), yy0⟩
    · have HD := Lib.hid (show ¬ d1 = d1' by simpa using hd_d1)
      go_enter Tryd.func34, Tryd.ntmps34
      go_wp2_with fail
      rw [← HW.out]
      go_ret
      exact ⟨ret_bool (by unfold samePartialB; simp [HD.out]), y0⟩
  · have HD := Lib.hid (show ¬ d0 = d0' by simpa using hd_d0)
    go_enter Tryd.func34, Tryd.ntmps34
    go_wp2_with fail
    rw [← HW.out]
    go_ret
    exact ⟨ret_bool (by unfold samePartialB; simp [HD.out]), y0⟩

set_option maxHeartbeats 400000 in
theorem markPartial_m (T : List TypeId) (d0 : Int) (d1 : Int) (A0 : Option Addr) (n0 c0 : Nat) (p : Int) (w : World) (lo hi : Nat) (m0 : Mk w lo hi 2 1 A0 n0) (h0 : n0 ≤ 1048576) (tI : 2 ∈ T) (tX : 58 ∉ T) (g0 : 0 ≤ p) (g1 : p ≤ 9223372036800000000) :
    Calls Tryd.prog 35 #[.agg #[.int .i64 d0, .int .i64 d1, .slice A0 n0 c0], .int .i64 p] w (MarkP T w lo hi (n0) p) := by
  obtain ⟨W, hW⟩ : ∃ W, W = w.alloc (.cells #[.int .i64 d0, .int .i64 d1, .slice A0 n0 c0] 58) := ⟨_, rfl⟩
  have b0 : Blk W w.heap.size 58 #[.int .i64 d0, .int .i64 d1, .slice A0 n0 c0] := by rw [hW]; exact Blk.new w _ _
  have z0 : Below w.heap.size w W := by rw [hW]; exact (Below.refl _ _).alloc (Nat.le_refl _) _
  have HW := Lib.hid hW
  clear hW
  have TI := Lib.hid tI
  have TX := Lib.hid tX
  clear tI tX
  go_enter Tryd.func35, Tryd.ntmps35
  have f0 : MkF T lo hi w W := MkF.of_below z0
  go_wp2_with fail
  rw [← HW.out]
  refine (markI_m T _ _ _ _ _ lo hi (m0.mkf f0) TI.out (by omega) (by omega)).mono ?_
  rintro e w0 ⟨rfl, ff0⟩
  have f1 := f0.trans ff0
  have b0 := b0.mkf ff0 TX.out
  go_wp2_with fail
  go_ret
  exact ⟨ret_int (by omega), f1⟩
end Go.Proofs.YtokglpdlhacnaaaDoor
