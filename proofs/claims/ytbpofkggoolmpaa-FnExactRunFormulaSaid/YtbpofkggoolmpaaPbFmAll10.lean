/-
  Contract of the method that moves the head of a formula tape over a repeater.
-/
import Derived.Test.YtbpofkggoolmpaaPbFmAll9
namespace Go.Proofs.Ytbpofkggoolmpaa
open Go.RowKit

/-- Stores into the box alone. -/
theorem FmO.boxed {w w' : World} {lo c d k g : Nat} {A B C : Option Addr} {ts us : List Sl} {os : List Int} {cs : Array Value} (h : FmO w lo A c ts B d us C k os) (hb : Blk w g 31 cs) (hk : ∀ b, b ≠ g → w'.heap[b]? = w.heap[b]?) : FmO w' lo A c ts B d us C k os :=
  h.far hb (by decide) (by decide) hk
theorem keep3 {w : World} {g i j l : Nat} {x y z : Value} : ∀ b, b ≠ g → (((w.setCell ⟨g, i, none⟩ x).setCell ⟨g, j, none⟩ y).setCell ⟨g, l, none⟩ z).heap[b]? = w.heap[b]? := fun _ hb =>
  (Below.heap_setCell _ _ _ _ hb).trans ((Below.heap_setCell _ _ _ _ hb).trans (Below.heap_setCell _ _ _ _ hb))
theorem below3 {w0 w : World} {lo g i j l : Nat} {x y z : Value} (h : Below lo w0 w) (hl : lo ≤ g) : Below lo w0 (((w.setCell ⟨g, i, none⟩ x).setCell ⟨g, j, none⟩ y).setCell ⟨g, l, none⟩ z) := ((h.setCell hl _).setCell hl _).setCell hl _

set_option maxRecDepth 100000 in
set_option maxHeartbeats 4000000 in
theorem passRepeater_any (g lo : Nat) (f : Fm) (i : Nat) (side : Int) (E : Option Addr) (en ec kk : Nat) (xs : List Int) (wa w : World) (hF : FmBox wa lo g f) (hs : FmSz f) (hi : i < f.R.length) (hside : side = 1 ∨ side = -1) (z : Below wa.heap.size wa w) (hE : Own w kk 2 1 E en ec (ints xs)) (hk : wa.heap.size ≤ kk) (hel : en ≤ 1000) :
    Calls Try.prog 189 #[.pointer (some ⟨g, 0, none⟩), .int .i64 (i : Int), .int .i64 side, .slice E en ec] w (TurnP w lo g (passF f (i : Int) side xs)) := by
  obtain ⟨A, c, ts, B, d, us, C, k, hb, ⟨hO, eW, eR⟩, hlg⟩ := hF
  obtain ⟨q, h, a, FW, FR, os⟩ := f
  obtain ⟨s1, s2, s3, s4, s5, s6, s7, s8, s9, s10⟩ := hs
  dsimp only at eW eR hb hO s1 s2 s3 s4 s5 s6 s7 s8 s9 s10 hi
  subst eW eR
  have hen : xs.length = en := by have := hE.len; simp [ints] at this; omega
  subst hen
  rw [nums_len] at s2 s3 s4 s5 s6 hi
  rw [nums_len] at s3
  obtain ⟨t, bA, offA, hT, htm, rfl, hblA, hcA, _⟩ := (hO.below z).1.sii.pick (k := i) (by omega)
  obtain ⟨u, bB, offB, hU, hum, rfl, hblB, hcB, _⟩ := (hO.below z).2.1.sii.pick (k := i) hi
  obtain ⟨bB', offB', he, _, _, hcs, hfs⟩ := (hO.below z).2.1.1.at_ (k := i) (by simpa using hi)
  cases he
  have hO1 := hO.putR z hU.out (u := ⟨E, ec, xs⟩) rfl hE hk (by have := hb.lt; omega)
  have hw := z.size
  have hgw := hb.lt
  have hbw := hb.below' z
  have hgA : g ≠ bA := fun e => hbw.aptt (hO.below z).1.1 (by decide) (by rw [e]; rfl)
  have hgB : g ≠ bB := fun e => hbw.aptt (hO.below z).2.1.1 (by decide) (by rw [e]; rfl)
  have hAB : bA ≠ bB := fun e => hO.2.2.2.spine bA rfl (by rw [e]; rfl)
  have htl : t.xs.length ≤ 1000 := s7 _ (List.mem_map.2 ⟨t, htm, rfl⟩)
  have hb1 := hbw.far (p := ⟨bB, offB + i, none⟩) hgB (.slice E xs.length ec)
  have hz1 : Below lo w (w.setCell ⟨bB, offB + i, none⟩ (.slice E xs.length ec)) := (Below.refl _ _).setCell (hO.2.1.1.blk_ge bB rfl) _
  have hfr1 : FrF w (w.setCell ⟨bB, offB + i, none⟩ (.slice E xs.length ec)) := (FrF.below (Below.refl _ _)).setS (hO.below z).2.1.1 _
  have hcA1 : (w.setCell ⟨bB, offB + i, none⟩ (.slice E xs.length ec)).cell? ⟨bA, offA + i, none⟩ = some (.slice t.A t.xs.length t.c) := by
    rw [World.cell?_of_block (Below.heap_setCell _ _ _ _ hAB)]; exact hcA
  have HO1 : Hid (FmO (w.setCell ⟨bB, offB + i, none⟩ (.slice E xs.length ec)) lo (some ⟨bA, offA, none⟩) c ts (some ⟨bB, offB, none⟩) d (us.set i ⟨E, ec, xs⟩) C k os) := Lib.hid hO1
  have i1 : (0 : Int) ≤ (i : Int) := by omega
  have i2 : (i : Int) < (us.length : Int) := by omega
  have i3 : (i : Int) < (ts.length : Int) := by omega
  have i4 : i < ts.length := by omega
  have wi : IntKind.i64.wrap ((i : Int) + 1) = (i : Int) + 1 := IntWalk.i64_in _ (by omega)
  have wt : IntKind.i64.wrap ((t.xs.length : Int) - 1) = (t.xs.length : Int) - 1 := IntWalk.i64_in _ (by omega)
  have HTE : Hid (rowAt (nums ts) (i : Int) = t.xs) := Lib.hid (rowAt_eq hT.out)
  have HSZ : Hid (∀ (h2 a2 : Int), 0 ≤ h2 → h2 ≤ us.length → -1 ≤ a2 → a2 ≤ 1000 → FmSz ⟨q, h2, a2, nums ts, (nums us).set i xs, os⟩) := Lib.hid (fun h2 a2 q1 q2 q3 q4 => by
    refine ⟨q1, ?_, ?_, ?_, ?_, ?_, s7, ?_, q3, q4⟩
    · simp [nums_len]; omega
    · simp [nums_len]; omega
    · simp [nums_len]; omega
    · simp [nums_len]; omega
    · simp [nums_len]; omega
    · intro x hx
      rcases List.mem_or_eq_of_mem_set hx with h | h
      · exact s8 x h
      · rw [h]; exact hel)
  have v0 : w.cell? ⟨g, 0, none⟩ = some (.int .i64 q) := hbw.cell 0
  have v1 : w.cell? ⟨g, 1, none⟩ = some (.int .i64 h) := hbw.cell 1
  have v2 : w.cell? ⟨g, 2, none⟩ = some (.int .i64 a) := hbw.cell 2
  have v3 : w.cell? ⟨g, 3, none⟩ = some (.slice (some ⟨bA, offA, none⟩) ts.length c) := hbw.cell 3
  have v4 : w.cell? ⟨g, 4, none⟩ = some (.slice (some ⟨bB, offB, none⟩) us.length d) := hbw.cell 4
  have v5 : w.cell? ⟨g, 5, none⟩ = some (.slice C os.length k) := hbw.cell 5
  clear hO hO1 hT hU htm hum hE s1 s2 s3 s4 s5 s6 s7 s8 s9 s10 hcA hcB
  rcases hside with rfl | rfl
  · go_enter Try.func189, Try.ntmps189
    go_upto_region 1 with fail
    generalize w.setCell ⟨bB, offB + i, none⟩ (.slice E xs.length ec) = W1 at *
    clear v0 v1 v2 v3 v4 v5 hcs hfs
    have v0 : W1.cell? ⟨g, 0, none⟩ = some (.int .i64 q) := hb1.cell 0
    have v1 : W1.cell? ⟨g, 1, none⟩ = some (.int .i64 h) := hb1.cell 1
    have v2 : W1.cell? ⟨g, 2, none⟩ = some (.int .i64 a) := hb1.cell 2
    have v3 : W1.cell? ⟨g, 3, none⟩ = some (.slice (some ⟨bA, offA, none⟩) ts.length c) := hb1.cell 3
    have v4 : W1.cell? ⟨g, 4, none⟩ = some (.slice (some ⟨bB, offB, none⟩) us.length d) := hb1.cell 4
    have v5 : W1.cell? ⟨g, 5, none⟩ = some (.slice C os.length k) := hb1.cell 5
    have f0 := hb1.frozen 0
    have f1 := hb1.frozen 1
    have f2 := hb1.frozen 2
    have f3 := hb1.frozen 3
    have f4 := hb1.frozen 4
    have f5 := hb1.frozen 5
    go_upto_region 7 with (first | (go_at_call 258; refine (sizeI_any _ _ _ _ (by omega)).mono ?_; rintro e w' ⟨rfl, rfl⟩) | fail)
    have hbf : Blk (((W1.setCell ⟨g, 1, none⟩ (.int .i64 (i : Int))).setCell ⟨g, 1, none⟩ (.int .i64 ((i : Int) + 1))).setCell ⟨g, 2, none⟩ (.int .i64 0)) g 31 #[.int .i64 q, .int .i64 ((i : Int) + 1), .int .i64 0, .slice (some ⟨bA, offA, none⟩) ts.length c, .slice (some ⟨bB, offB, none⟩) us.length d, .slice C os.length k] := (((hb1.set_ 1 (.int .i64 (i : Int))).set_ 1 (.int .i64 ((i : Int) + 1))).set_ 2 (.int .i64 0))
    have hOf : FmO (((W1.setCell ⟨g, 1, none⟩ (.int .i64 (i : Int))).setCell ⟨g, 1, none⟩ (.int .i64 ((i : Int) + 1))).setCell ⟨g, 2, none⟩ (.int .i64 0)) lo (some ⟨bA, offA, none⟩) c ts (some ⟨bB, offB, none⟩) d (us.set i ⟨E, ec, xs⟩) C k os := HO1.out.boxed hb1 keep3
    have hzf : Below lo w (((W1.setCell ⟨g, 1, none⟩ (.int .i64 (i : Int))).setCell ⟨g, 1, none⟩ (.int .i64 ((i : Int) + 1))).setCell ⟨g, 2, none⟩ (.int .i64 0)) := below3 hz1 hlg
    have frf : FrF w (((W1.setCell ⟨g, 1, none⟩ (.int .i64 (i : Int))).setCell ⟨g, 1, none⟩ (.int .i64 ((i : Int) + 1))).setCell ⟨g, 2, none⟩ (.int .i64 0)) := hfr1.box hb1 keep3
    clear v0 v1 v2 v3 v4 v5 f0 f1 f2 f3 f4 f5 hb1 HO1 hz1 hcA1 hfr1
    generalize (((W1.setCell ⟨g, 1, none⟩ (.int .i64 (i : Int))).setCell ⟨g, 1, none⟩ (.int .i64 ((i : Int) + 1))).setCell ⟨g, 2, none⟩ (.int .i64 0)) = W2 at *
    have hF2 : FmBox W2 lo g ⟨q, ((i : Int) + 1), 0, nums ts, (nums us).set i xs, os⟩ := ⟨_, c, ts, _, d, us.set i ⟨E, ec, xs⟩, C, k, by rw [List.length_set]; exact hbf, ⟨hOf, rfl, nums_set _ _ _⟩, hlg⟩
    have HWD := Lib.hid (widen_any g lo _ W2 hF2 (HSZ.out ((i : Int) + 1) 0 (by omega) (by omega) (by omega) (by omega)))
    have HPF : Hid (widenF ⟨q, ((i : Int) + 1), 0, nums ts, (nums us).set i xs, os⟩ = passF ⟨q, h, a, nums ts, nums us, os⟩ (i : Int) 1 xs) := Lib.hid (by
      unfold passF
      dsimp only
      rw [HTE.out, Int.toNat_natCast]
      simp)
    rw [HPF.out] at HWD
    clear hF2 hbf hOf
    generalize passF ⟨q, h, a, nums ts, nums us, os⟩ (i : Int) 1 xs = fr at *
    go_wp2_with fail
    refine HWD.out.mono ?_
    rintro e W3 ⟨⟨uu, rfl⟩, hF3, hz3, hfr3⟩
    go_wp2_with fail
    go_end0
    exact ⟨⟨_, rfl⟩, hF3, hzf.trans hz3, frf.trans hfr3⟩
  · go_enter Try.func189, Try.ntmps189
    go_upto_region 1 with fail
    generalize w.setCell ⟨bB, offB + i, none⟩ (.slice E xs.length ec) = W1 at *
    clear v0 v1 v2 v3 v4 v5 hcs hfs
    have v0 : W1.cell? ⟨g, 0, none⟩ = some (.int .i64 q) := hb1.cell 0
    have v1 : W1.cell? ⟨g, 1, none⟩ = some (.int .i64 h) := hb1.cell 1
    have v2 : W1.cell? ⟨g, 2, none⟩ = some (.int .i64 a) := hb1.cell 2
    have v3 : W1.cell? ⟨g, 3, none⟩ = some (.slice (some ⟨bA, offA, none⟩) ts.length c) := hb1.cell 3
    have v4 : W1.cell? ⟨g, 4, none⟩ = some (.slice (some ⟨bB, offB, none⟩) us.length d) := hb1.cell 4
    have v5 : W1.cell? ⟨g, 5, none⟩ = some (.slice C os.length k) := hb1.cell 5
    have f0 := hb1.frozen 0
    have f1 := hb1.frozen 1
    have f2 := hb1.frozen 2
    have f3 := hb1.frozen 3
    have f4 := hb1.frozen 4
    have f5 := hb1.frozen 5
    go_upto_region 7 with (first | (go_at_call 258; refine (sizeI_any _ _ _ _ (by omega)).mono ?_; rintro e w' ⟨rfl, rfl⟩) | fail)
    have hbf : Blk (((W1.setCell ⟨g, 1, none⟩ (.int .i64 (i : Int))).setCell ⟨g, 2, none⟩ (.int .i64 0)).setCell ⟨g, 2, none⟩ (.int .i64 ((t.xs.length : Int) - 1))) g 31 #[.int .i64 q, .int .i64 (i : Int), .int .i64 ((t.xs.length : Int) - 1), .slice (some ⟨bA, offA, none⟩) ts.length c, .slice (some ⟨bB, offB, none⟩) us.length d, .slice C os.length k] := (((hb1.set_ 1 (.int .i64 (i : Int))).set_ 2 (.int .i64 0)).set_ 2 (.int .i64 ((t.xs.length : Int) - 1)))
    have hOf : FmO (((W1.setCell ⟨g, 1, none⟩ (.int .i64 (i : Int))).setCell ⟨g, 2, none⟩ (.int .i64 0)).setCell ⟨g, 2, none⟩ (.int .i64 ((t.xs.length : Int) - 1))) lo (some ⟨bA, offA, none⟩) c ts (some ⟨bB, offB, none⟩) d (us.set i ⟨E, ec, xs⟩) C k os := HO1.out.boxed hb1 keep3
    have hzf : Below lo w (((W1.setCell ⟨g, 1, none⟩ (.int .i64 (i : Int))).setCell ⟨g, 2, none⟩ (.int .i64 0)).setCell ⟨g, 2, none⟩ (.int .i64 ((t.xs.length : Int) - 1))) := below3 hz1 hlg
    have frf : FrF w (((W1.setCell ⟨g, 1, none⟩ (.int .i64 (i : Int))).setCell ⟨g, 2, none⟩ (.int .i64 0)).setCell ⟨g, 2, none⟩ (.int .i64 ((t.xs.length : Int) - 1))) := hfr1.box hb1 keep3
    clear v0 v1 v2 v3 v4 v5 f0 f1 f2 f3 f4 f5 hb1 HO1 hz1 hcA1 hfr1
    generalize (((W1.setCell ⟨g, 1, none⟩ (.int .i64 (i : Int))).setCell ⟨g, 2, none⟩ (.int .i64 0)).setCell ⟨g, 2, none⟩ (.int .i64 ((t.xs.length : Int) - 1))) = W2 at *
    have hF2 : FmBox W2 lo g ⟨q, (i : Int), ((t.xs.length : Int) - 1), nums ts, (nums us).set i xs, os⟩ := ⟨_, c, ts, _, d, us.set i ⟨E, ec, xs⟩, C, k, by rw [List.length_set]; exact hbf, ⟨hOf, rfl, nums_set _ _ _⟩, hlg⟩
    have HWD := Lib.hid (widen_any g lo _ W2 hF2 (HSZ.out (i : Int) ((t.xs.length : Int) - 1) (by omega) (by omega) (by omega) (by omega)))
    have HPF : Hid (widenF ⟨q, (i : Int), ((t.xs.length : Int) - 1), nums ts, (nums us).set i xs, os⟩ = passF ⟨q, h, a, nums ts, nums us, os⟩ (i : Int) (-1) xs) := Lib.hid (by
      unfold passF
      dsimp only
      rw [HTE.out, Int.toNat_natCast]
      simp)
    rw [HPF.out] at HWD
    clear hF2 hbf hOf
    generalize passF ⟨q, h, a, nums ts, nums us, os⟩ (i : Int) (-1) xs = fr at *
    go_wp2_with fail
    refine HWD.out.mono ?_
    rintro e W3 ⟨⟨uu, rfl⟩, hF3, hz3, hfr3⟩
    go_wp2_with fail
    go_end0
    exact ⟨⟨_, rfl⟩, hF3, hzf.trans hz3, frf.trans hfr3⟩
end Go.Proofs.Ytbpofkggoolmpaa
