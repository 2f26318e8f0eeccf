/-
  Contract of the reference's step of a formula tape.
-/
import Derived.Test.YtbpofkggoolmpaaPbFmAll2
import Derived.Test.YtbpofkggoolmpaaPbFmAll11
import Derived.Test.YtbpofkggoolmpaaPbFmAll12
import Derived.Test.YtbpofkggoolmpaaPbFmAll13
import Derived.Test.YtbpofkggoolmpaaPbFmAll17
namespace Go.Proofs.Ytbpofkggoolmpaa
open Go.RowKit

/-- A step ahead of the test of sizes. -/
def movedF (sy : Int) (rs : List R3) (f : Fm) : Fm × Int × Int :=
  match moveF sy rs f with
  | none => (Fm.zero, 0, 6)
  | some (g, kd) => (g, kd, 0)
theorem movedF_some {sy : Int} {rs : List R3} {f g : Fm} {kd : Int} (h : moveF sy rs f = some (g, kd)) : movedF sy rs f = (g, kd, 0) := by unfold movedF; rw [h]
theorem movedF_none {sy : Int} {rs : List R3} {f : Fm} (h : moveF sy rs f = none) : movedF sy rs f = (Fm.zero, 0, 6) := by unfold movedF; rw [h]
theorem rowAt_set {M : List (List Int)} {i : Nat} {y : List Int} (h : i < M.length) : rowAt (M.set i y) (i : Int) = y := by
  unfold rowAt
  rw [Int.toNat_natCast, List.getD_eq_getElem?_getD, List.getElem?_set_self h]; rfl

set_option maxRecDepth 100000 in
set_option maxHeartbeats 2000000 in
theorem l27Step_any (gm g0 : Nat) (sy st : Int) (A0 : Option Addr) (n0 k0 : Nat) (rs : List R3) (q0 h0 a0 : Int) (A9 : Option Addr) (n9 c9 : Nat) (ts0 : List Sl) (B9 : Option Addr) (m9 d9 : Nat) (us0 : List Sl) (C9 : Option Addr) (l9 e9 : Nat) (os0 : List Int) (w : World) (hmm : MachAt w gm sy st A0 n0 k0) (hr : S3 w A0 n0 rs) (hm : machB sy st rs = true)
    (hg : FmAt w g0 ⟨q0, h0, a0, nums ts0, nums us0, os0⟩ A9 n9 c9 B9 m9 d9 C9 l9 e9) (hx : SII w A9 n9 ts0) (hy : SII w B9 m9 us0) (hz : SI w C9 l9 os0) (hf : fmB sy st ⟨q0, h0, a0, nums ts0, nums us0, os0⟩ = true) :
    Calls Try.prog 181 #[.pointer (some ⟨gm, 0, none⟩), .pointer (some ⟨g0, 0, none⟩)] w (NewFmI3 w (movedF sy rs ⟨q0, h0, a0, nums ts0, nums us0, os0⟩)) := by
  obtain ⟨hsz, hoff, hws, hrs⟩ := fmB_sz hf
  obtain ⟨pq0, pq1⟩ := (fmB_parts hf).2.2.2.2.2.2.2.2
  have hal0 := (fmB_parts hf).2.2.2.2.2.2.2.1
  obtain ⟨s1', s2', s3', s4'⟩ := machB_bounds hm
  have hgl := World.block_lt_of_cell? w _ hg.1
  have hgm := hmm.lt
  have HOW : Hid (∀ W', Below w.heap.size w W' → Calls Try.prog 103 #[.pointer (some ⟨g0, 0, none⟩)] W' (NewFmV W' ⟨q0, h0, a0, nums ts0, nums us0, os0⟩)) := Lib.hid (fun W' z => l27Own_any g0 q0 h0 a0 A9 n9 c9 ts0 B9 m9 d9 us0 C9 l9 e9 os0 W' ⟨(z.cell (p := ⟨g0, 0, none⟩) hgl).trans hg.1, (z.cell (p := ⟨g0, 1, none⟩) hgl).trans hg.2.1, (z.cell (p := ⟨g0, 2, none⟩) hgl).trans hg.2.2.1, (z.cell (p := ⟨g0, 3, none⟩) hgl).trans hg.2.2.2.1, (z.cell (p := ⟨g0, 4, none⟩) hgl).trans hg.2.2.2.2.1, (z.cell (p := ⟨g0, 5, none⟩) hgl).trans hg.2.2.2.2.2⟩ (hx.below z) (hy.below z) (hz.below z)
    (by obtain ⟨s1, s2, s3, s4, s5, s6, _⟩ := hsz; have := hx.len; have := nums_len ts0; dsimp only at s3 s6; omega)
    (by obtain ⟨s1, s2, s3, s4, s5, s6, _⟩ := hsz; have := hy.len; have := nums_len us0; dsimp only at s3 s6; omega)
    (by obtain ⟨s1, s2, s3, s4, s5, s6, _⟩ := hsz; have := hz.len; dsimp only at s4 s6; omega)
    (fun t ht => by have := hsz.2.2.2.2.2.2.1 _ (List.mem_map.2 ⟨t, ht, rfl⟩); omega)
    (fun t ht => by have := hsz.2.2.2.2.2.2.2.1 _ (List.mem_map.2 ⟨t, ht, rfl⟩); omega))
  clear hx hy hz hg hgl
  generalize (⟨q0, h0, a0, nums ts0, nums us0, os0⟩ : Fm) = f at *
  obtain ⟨res, hres⟩ : ∃ res, res = movedF sy rs f := ⟨_, rfl⟩
  rw [← hres]
  obtain ⟨W, hW_⟩ : ∃ W, W = w.alloc (.cells #[.int .i64 0, .int .i64 0, .int .i64 0, .slice none 0 0, .slice none 0 0, .slice none 0 0] 31) := ⟨_, rfl⟩
  have bR : Blk W w.heap.size 31 #[.int .i64 0, .int .i64 0, .int .i64 0, .slice none 0 0, .slice none 0 0, .slice none 0 0] := by rw [hW_]; exact Blk.new w _ _
  have y0 : Below w.heap.size w W := by rw [hW_]; exact (Below.refl _ _).alloc (Nat.le_refl _) _
  have HW := Lib.hid hW_
  clear hW_
  have hWs : w.heap.size < W.heap.size := bR.lt
  go_enter Try.func181, Try.ntmps181
  go_upto_region 1 with fail
  rw [← HW.out]
  go_wp2_with fail
  refine (HOW.out W y0).mono ?_
  rintro e W1 ⟨A, c, ts, B, d, us, C, k, rfl, hR1, z1⟩
  obtain ⟨q, h, a, FW, FR, os⟩ := f
  obtain ⟨hO1, eW, eR⟩ := hR1
  dsimp only at eW eR hO1
  subst eW eR
  obtain ⟨W2, hW_⟩ : ∃ W_, W_ = W1.alloc (.cells #[.int .i64 q, .int .i64 h, .int .i64 a, .slice A ts.length c, .slice B us.length d, .slice C os.length k] 31) := ⟨_, rfl⟩
  have b2 : Blk W2 W1.heap.size 31 #[.int .i64 q, .int .i64 h, .int .i64 a, .slice A ts.length c, .slice B us.length d, .slice C os.length k] := by rw [hW_]; exact Blk.new W1 _ _
  have z2 : Below W1.heap.size W1 W2 := by rw [hW_]; exact (Below.refl _ _).alloc (Nat.le_refl _) _
  have HW2 := Lib.hid hW_
  clear hW_
  go_upto_region 2 with fail
  rw [← HW2.out]
  have hO := hO1.below z2
  have hlg : W.heap.size ≤ W1.heap.size := z1.size
  have z02 : Below W.heap.size W W2 := z1.trans (z2.mono z1.size)
  clear hO1 HOW HW2
  obtain ⟨g, hgg⟩ : ∃ g, g = W1.heap.size := ⟨_, rfl⟩
  rw [← hgg] at hlg b2 ⊢
  clear z1 z2 hgg W1
  have hb := b2
  have HSZ := Lib.hid hsz
  have hsz0 := hsz
  obtain ⟨s1, s2, s3, s4, s5, s6, s7, s8, s9, s10⟩ := hsz
  dsimp only at s1 s2 s3 s4 s5 s6 s7 s8 s9 s10 hal0 pq0 pq1 hws hrs hoff
  rw [nums_len] at s2 s3 s4 s5 s6
  rw [nums_len] at s3
  obtain ⟨hN, rfl⟩ : ∃ hN : Nat, h = (hN : Int) := ⟨h.toNat, by omega⟩
  obtain ⟨t, bb, off, hT, htm, rfl, hbl, hc, _⟩ := hO.1.sii.pick (k := hN) (by omega)
  have hrw := rowAt_eq hT.out
  rw [hrw] at hal0
  have htl : t.xs.length ≤ 1000 := s7 _ (List.mem_map.2 ⟨t, htm, rfl⟩)
  have hgw := hb.lt
  have hw : W.heap.size ≤ W2.heap.size := z02.size
  have y2 : Below w.heap.size w W2 := y0.trans (z02.mono y0.size)
  have hrow := hO.1.2.1 t htm
  have hgb : g ≠ bb := fun e => hb.aptt hO.1.1 (by decide) (by rw [e]; rfl)
  have i1 : (0 : Int) ≤ (hN : Int) := by omega
  have i2 : (hN : Int) < (ts.length : Int) := by omega
  have HTM := Lib.hid htm
  have HTT := hT
  have bR2 := bR.below' z02
  have KS : Hid (∀ W', Below W2.heap.size W2 W' → W'.cell? ⟨bb, off + hN, none⟩ = some (.slice t.A t.xs.length t.c)) := Lib.hid (fun W' z => (z.cell (p := ⟨bb, off + hN, none⟩) hbl).trans hc)
  cases hon : onB ⟨q, (hN : Int), a, nums ts, nums us, os⟩
  rotate_left
  · unfold onB at hon
    dsimp only at hon
    rw [hrw, inB_iff] at hon
    obtain ⟨aN, rfl⟩ : ∃ aN : Nat, a = (aN : Int) := ⟨a.toNat, by omega⟩
    have hax : aN < t.xs.length := by omega
    obtain ⟨x, hx⟩ : ∃ x, x = t.xs.getD aN 0 := ⟨_, rfl⟩
    have hxe : t.xs[aN]? = some x := by rw [hx, List.getD_eq_getElem?_getD, List.getElem?_eq_getElem hax]; rfl
    have hx01 := hws _ (List.mem_map.2 ⟨t, htm, rfl⟩) x (List.mem_of_getElem? hxe)
    obtain ⟨idx, hidx, hil, hget, p0, p1, hv⟩ := rule_parts hm pq0 pq1 hx01.1 hx01.2
    obtain ⟨r, hrr⟩ : ∃ r, r = hereR sy rs ⟨q, (hN : Int), (aN : Int), nums ts, nums us, os⟩ := ⟨_, rfl⟩
    have hr2 : ruleAt sy rs q x = r := by rw [hrr]; unfold hereR; dsimp only; rw [hrw, Int.toNat_natCast, ← hx]
    rw [hr2] at hget hv
    have hrn : rs.length = n0 := hr.len
    obtain ⟨r', b0, off0, hr', _, rfl, hb0l, c0_, c1_, c2_⟩ := hr.pick (k := idx) (by omega)
    obtain rfl : r = r' := by have e2 := hr'.out; rw [hget] at e2; exact Option.some.inj e2
    obtain ⟨tb, tof, htA, htlo, htbl, hcx, hfx⟩ := hrow.at_ (k := aN) (by simpa [ints] using hax)
    have hcx' : W2.cell? ⟨tb, tof + aN, none⟩ = some (.int .i64 x) := by
      rw [hcx]
      have := hxe
      rw [List.getElem?_eq_getElem hax] at this
      simp [ints, Option.some.inj this]
    have hilt : idx < n0 := by omega
    have hgt : g ≠ tb := fun e => hb.aptt hrow (by decide) (by rw [htA, e]; rfl)
    have HTA := Lib.hid htA
    have i3 : (0 : Int) ≤ (aN : Int) := by omega
    have i4 : (aN : Int) < (t.xs.length : Int) := by omega
    have i5 : (0 : Int) ≤ (idx : Int) := by omega
    have i6 : (idx : Int) < (n0 : Int) := by omega
    have wmul : IntKind.i64.wrap (q * sy) = q * sy := IntWalk.i64_in _ (by omega)
    have wadd : IntKind.i64.wrap (q * sy + x) = (idx : Int) := by rw [hidx]; exact IntWalk.i64_in _ (by omega)
    have HV := Lib.hid hv
    have HFX : Hid (∀ W', Below W2.heap.size W2 W' → W'.frozen? ⟨tb, tof + aN, none⟩ = false ∧ W'.cell? ⟨tb, tof + aN, none⟩ = some (.int .i64 x)) := Lib.hid (fun W' z => ⟨(z.frozen (p := ⟨tb, tof + aN, none⟩) htbl).trans hfx, (z.cell (p := ⟨tb, tof + aN, none⟩) htbl).trans hcx'⟩)
    have HRES : Hid (res = if isRuleB r then (wallF ⟨q, (hN : Int), (aN : Int), nums ts, nums us, os⟩ r, 0, 0) else (Fm.zero, 0, 6)) := Lib.hid (by
      have ho : onB ⟨q, (hN : Int), (aN : Int), nums ts, nums us, os⟩ = true := by unfold onB; dsimp only; rw [hrw, inB_iff]; omega
      rw [hres]
      unfold movedF moveF
      rw [ho]
      have : ruleAt sy rs q ((rowAt (nums ts) (hN : Int)).getD (aN : Int).toNat 0) = r := by rw [hrr]; rfl
      simp only [if_true, this]
      cases isRuleB r <;> rfl)
    have KR : Hid (∀ W', Below W2.heap.size W2 W' → W'.cell? ⟨gm, 2, none⟩ = some (.slice (some ⟨b0, off0, none⟩) n0 k0) ∧ W'.cell? ⟨gm, 0, none⟩ = some (.int .i64 sy) ∧ W'.cell? ⟨g, 0, none⟩ = some (.int .i64 q) ∧ W'.cell? ⟨g, 2, none⟩ = some (.int .i64 (aN : Int)) ∧ W'.cell? ⟨tb, tof + aN, none⟩ = some (.int .i64 x) ∧ W'.cell? ⟨b0, off0 + idx * 3, none⟩ = some (.int .i64 r.a) ∧ W'.cell? ⟨b0, off0 + idx * 3 + 1, none⟩ = some (.int .i64 r.b) ∧ W'.cell? ⟨b0, off0 + idx * 3 + 2, none⟩ = some (.int .i64 r.c)) := Lib.hid (fun W' z => by
      have z2 : Below w.heap.size w W' := y2.trans (z.mono y2.size)
      exact ⟨(z2.cell (p := ⟨gm, 2, none⟩) hgm).trans hmm.2.2, (z2.cell (p := ⟨gm, 0, none⟩) hgm).trans hmm.1, (hb.below' z).cell 0, (hb.below' z).cell 2, (HFX.out _ z).2, (z2.cell (p := ⟨b0, _, none⟩) hb0l).trans c0_, (z2.cell (p := ⟨b0, _, none⟩) hb0l).trans c1_, (z2.cell (p := ⟨b0, _, none⟩) hb0l).trans c2_⟩)
    have v0 : W2.cell? ⟨g, 0, none⟩ = some (.int .i64 q) := b2.cell 0
    have v1 : W2.cell? ⟨g, 1, none⟩ = some (.int .i64 (hN : Int)) := b2.cell 1
    have v2 : W2.cell? ⟨g, 2, none⟩ = some (.int .i64 (aN : Int)) := b2.cell 2
    have v3 : W2.cell? ⟨g, 3, none⟩ = some (.slice (some ⟨bb, off, none⟩) ts.length c) := b2.cell 3
    have v4 : W2.cell? ⟨g, 4, none⟩ = some (.slice B us.length d) := b2.cell 4
    have v5 : W2.cell? ⟨g, 5, none⟩ = some (.slice C os.length k) := b2.cell 5
    have HB := Lib.hid hb
    have HO := Lib.hid hO
    clear hb b2 hO hcx hcx' hfx c0_ c1_ c2_ hget hr' hx hxe hidx p0 p1 hv hrw hrow htm hT htA hrr hr2 hm hmm hr hres hsz0 s1 s2 s3 s4 s5 s6 s7 s8 s9 s10 hon hws hrs hoff hal0
    have dge : decide ((aN : Int) ≥ 0) = true := by simp
    go_upto_region 4 with fail
    have hp2 : Below W2.heap.size W2 W2.drew := below_drewN (Below.refl _ _) 1
    rw [HTA.out]
    clear hc v0 v1 v2 v3 v4 v5 KS
    refine wp_region_noPanic ?_
    refine wp_region_held_drew (S := (fun w' => w'.cell? ⟨gm, 2, none⟩ = some (.slice (some ⟨b0, off0, none⟩) n0 k0) ∧ w'.cell? ⟨gm, 0, none⟩ = some (.int .i64 sy) ∧ w'.cell? ⟨g, 0, none⟩ = some (.int .i64 q) ∧ w'.cell? ⟨g, 2, none⟩ = some (.int .i64 (aN : Int)) ∧ w'.cell? ⟨tb, tof + aN, none⟩ = some (.int .i64 x) ∧ w'.cell? ⟨b0, off0 + idx * 3, none⟩ = some (.int .i64 r.a) ∧ w'.cell? ⟨b0, off0 + idx * 3 + 1, none⟩ = some (.int .i64 r.b) ∧ w'.cell? ⟨b0, off0 + idx * 3 + 2, none⟩ = some (.int .i64 r.c))) (by kernel_rfl) ?_ (fun hHeld => ?_)
    · exact KR.out _ hp2
    generalize W2.drew = Wc at *
    refine wpAnyH_take (i := 0) (v := ?_) rfl (by kernel_rfl) (by kernel_rfl) (by kernel_rfl) (fun _ _ _ h => h) (Or.inl ⟨by rfl, ?_⟩) (by assumption) ?_
    rotate_left
    · intro w hSw
      try dsimp only at hSw
      obtain ⟨hs0_, hs1_, hs2_, hs3_, hs4_, hs5_, hs6_, hs7_⟩ := hSw
      go_simp
      try with_reducible rfl
    try simp only [Act.put, List.setIfInBounds_toArray]
    refine wpAnyH_take (i := 1) (v := ?_) rfl (by kernel_rfl) (by kernel_rfl) (by kernel_rfl) (fun _ _ _ h => h) (Or.inl ⟨by rfl, ?_⟩) (by assumption) ?_
    rotate_left
    · intro w hSw
      try dsimp only at hSw
      obtain ⟨hs0_, hs1_, hs2_, hs3_, hs4_, hs5_, hs6_, hs7_⟩ := hSw
      go_simp
      try with_reducible rfl
    try simp only [Act.put]
    refine wpAnyH_take (i := 2) (v := ?_) rfl (by kernel_rfl) (by kernel_rfl) (by kernel_rfl) (fun _ _ _ h => h) (Or.inl ⟨by rfl, ?_⟩) (by assumption) ?_
    rotate_left
    · intro w hSw
      try dsimp only at hSw
      obtain ⟨hs0_, hs1_, hs2_, hs3_, hs4_, hs5_, hs6_, hs7_⟩ := hSw
      go_simp
      try with_reducible rfl
    try simp only [Act.put]
    refine wpAnyH_take (i := 3) (v := ?_) rfl (by kernel_rfl) (by kernel_rfl) (by kernel_rfl) (fun _ _ _ h => h) (Or.inl ⟨by rfl, ?_⟩) (by assumption) ?_
    rotate_left
    · intro w hSw
      try dsimp only at hSw
      obtain ⟨hs0_, hs1_, hs2_, hs3_, hs4_, hs5_, hs6_, hs7_⟩ := hSw
      go_simp
      try with_reducible rfl
    try simp only [Act.put]
    refine wpAnyH_take (i := 4) (v := ?_) rfl (by kernel_rfl) (by kernel_rfl) (by kernel_rfl) (fun _ _ _ h => h) (Or.inl ⟨by rfl, ?_⟩) (by assumption) ?_
    rotate_left
    · intro w hSw
      try dsimp only at hSw
      obtain ⟨hs0_, hs1_, hs2_, hs3_, hs4_, hs5_, hs6_, hs7_⟩ := hSw
      go_simp
      try with_reducible rfl
    try simp only [Act.put]
    refine wpAnyH_take (i := 5) (v := ?_) rfl (by kernel_rfl) (by kernel_rfl) (by kernel_rfl) (fun _ _ _ h => h) (Or.inl ⟨by rfl, ?_⟩) (by assumption) ?_
    rotate_left
    · intro w hSw
      try dsimp only at hSw
      obtain ⟨hs0_, hs1_, hs2_, hs3_, hs4_, hs5_, hs6_, hs7_⟩ := hSw
      go_simp
      try with_reducible rfl
    try simp only [Act.put]
    refine wpAnyH_take (i := 6) (v := ?_) rfl (by kernel_rfl) (by kernel_rfl) (by kernel_rfl) (fun _ _ _ h => h) (Or.inl ⟨by rfl, ?_⟩) (by assumption) ?_
    rotate_left
    · intro w hSw
      try dsimp only at hSw
      obtain ⟨hs0_, hs1_, hs2_, hs3_, hs4_, hs5_, hs6_, hs7_⟩ := hSw
      go_simp
      try with_reducible rfl
    try simp only [Act.put]
    refine wpAnyH_take (i := 7) (v := ?_) rfl (by kernel_rfl) (by kernel_rfl) (by kernel_rfl) (fun _ _ _ h => h) (Or.inl ⟨by rfl, ?_⟩) (by assumption) ?_
    rotate_left
    · intro w hSw
      try dsimp only at hSw
      obtain ⟨hs0_, hs1_, hs2_, hs3_, hs4_, hs5_, hs6_, hs7_⟩ := hSw
      go_simp
      try with_reducible rfl
    try simp only [Act.put]
    refine wpAnyH_take (i := 8) (v := ?_) rfl (by kernel_rfl) (by kernel_rfl) (by kernel_rfl) (fun _ _ _ h => h) (Or.inl ⟨by rfl, ?_⟩) (by assumption) ?_
    rotate_left
    · intro w hSw
      try dsimp only at hSw
      obtain ⟨hs0_, hs1_, hs2_, hs3_, hs4_, hs5_, hs6_, hs7_⟩ := hSw
      go_simp
      try with_reducible rfl
    try simp only [Act.put]
    refine wpAnyH_take (i := 9) (v := ?_) rfl (by kernel_rfl) (by kernel_rfl) (by kernel_rfl) (fun _ _ _ h => h) (Or.inl ⟨by rfl, ?_⟩) (by assumption) ?_
    rotate_left
    · intro w hSw
      try dsimp only at hSw
      obtain ⟨hs0_, hs1_, hs2_, hs3_, hs4_, hs5_, hs6_, hs7_⟩ := hSw
      go_simp
      try with_reducible rfl
    try simp only [Act.put]
    refine wpAnyH_take (i := 10) (v := ?_) rfl (by kernel_rfl) (by kernel_rfl) (by kernel_rfl) (fun _ _ _ h => h) (Or.inl ⟨by rfl, ?_⟩) (by assumption) ?_
    rotate_left
    · intro w hSw
      try dsimp only at hSw
      obtain ⟨hs0_, hs1_, hs2_, hs3_, hs4_, hs5_, hs6_, hs7_⟩ := hSw
      go_simp
      try with_reducible rfl
    try simp only [Act.put]
    refine wpAnyH_take (i := 11) (v := ?_) rfl (by kernel_rfl) (by kernel_rfl) (by kernel_rfl) (fun _ _ _ h => h) (Or.inl ⟨by rfl, ?_⟩) (by assumption) ?_
    rotate_left
    · intro w hSw
      try dsimp only at hSw
      obtain ⟨hs0_, hs1_, hs2_, hs3_, hs4_, hs5_, hs6_, hs7_⟩ := hSw
      go_simp
      try with_reducible rfl
    try simp only [Act.put]
    refine wpAnyH_take (i := 12) (v := ?_) rfl (by kernel_rfl) (by kernel_rfl) (by kernel_rfl) (fun _ _ _ h => h) (Or.inl ⟨by rfl, ?_⟩) (by assumption) ?_
    rotate_left
    · intro w hSw
      try dsimp only at hSw
      obtain ⟨hs0_, hs1_, hs2_, hs3_, hs4_, hs5_, hs6_, hs7_⟩ := hSw
      go_simp
      try with_reducible rfl
    try simp only [Act.put]
    refine wpAnyH_take (i := 13) (v := ?_) rfl (by kernel_rfl) (by kernel_rfl) (by kernel_rfl) (fun _ _ _ h => h) (Or.inl ⟨by rfl, ?_⟩) (by assumption) ?_
    rotate_left
    · intro w hSw
      try dsimp only at hSw
      obtain ⟨hs0_, hs1_, hs2_, hs3_, hs4_, hs5_, hs6_, hs7_⟩ := hSw
      go_simp
      try with_reducible rfl
    try simp only [Act.put]
    refine wpAnyH_take (i := 14) (v := ?_) rfl (by kernel_rfl) (by kernel_rfl) (by kernel_rfl) (fun _ _ _ h => h) (Or.inl ⟨by rfl, ?_⟩) (by assumption) ?_
    rotate_left
    · intro w hSw
      try dsimp only at hSw
      obtain ⟨hs0_, hs1_, hs2_, hs3_, hs4_, hs5_, hs6_, hs7_⟩ := hSw
      go_simp
      try with_reducible rfl
    try simp only [Act.put]
    refine wpAnyH_take (i := 15) (v := ?_) rfl (by kernel_rfl) (by kernel_rfl) (by kernel_rfl) (fun _ _ _ h => h) (Or.inl ⟨by rfl, ?_⟩) (by assumption) ?_
    rotate_left
    · intro w hSw
      try dsimp only at hSw
      obtain ⟨hs0_, hs1_, hs2_, hs3_, hs4_, hs5_, hs6_, hs7_⟩ := hSw
      go_simp
      try with_reducible rfl
    try simp only [Act.put]
    refine wpAnyH_take (i := 16) (v := ?_) rfl (by kernel_rfl) (by kernel_rfl) (by kernel_rfl) (fun _ _ _ h => h) (Or.inl ⟨by rfl, ?_⟩) (by assumption) ?_
    rotate_left
    · intro w hSw
      try dsimp only at hSw
      obtain ⟨hs0_, hs1_, hs2_, hs3_, hs4_, hs5_, hs6_, hs7_⟩ := hSw
      go_simp
      try with_reducible rfl
    try simp only [Act.put]
    refine wpAnyH_take (i := 17) (v := ?_) rfl (by kernel_rfl) (by kernel_rfl) (by kernel_rfl) (fun _ _ _ h => h) (Or.inl ⟨by rfl, ?_⟩) (by assumption) ?_
    rotate_left
    · intro w hSw
      try dsimp only at hSw
      obtain ⟨hs0_, hs1_, hs2_, hs3_, hs4_, hs5_, hs6_, hs7_⟩ := hSw
      go_simp
      try with_reducible rfl
    try simp only [Act.put]
    refine wpAnyH_take (i := 18) (v := ?_) rfl (by kernel_rfl) (by kernel_rfl) (by kernel_rfl) (fun _ _ _ h => h) (Or.inl ⟨by rfl, ?_⟩) (by assumption) ?_
    rotate_left
    · intro w hSw
      try dsimp only at hSw
      obtain ⟨hs0_, hs1_, hs2_, hs3_, hs4_, hs5_, hs6_, hs7_⟩ := hSw
      go_simp
      try with_reducible rfl
    try simp only [Act.put]
    try simp only [List.getElem_toArray, List.getElem_cons_zero, List.getElem_cons_succ, List.setIfInBounds_toArray, List.set_cons_zero, List.set_cons_succ]
    refine wpAnyH_ready (rs := [19]) (by kernel_rfl) (by simp) ?_
    refine AllReadyH.cons rfl (fun K hK => ?_) ?_
    · go_simp
      obtain ⟨Wn, g13, hWn, hg, z, h13, l13, hp3⟩ := alloc_pack3 hp2 hp2.size #[.int .i64 0, .int .i64 0, .int .i64 0] 229
      rw [hWn, ← hg]
      have hpc := hp3
      clear hWn hg z
      refine hK.out _ _ ?_ (fun hHeld => ?_)
      · exact KR.out _ hpc
      clear hK K
      try simp only [Act.put, List.setIfInBounds_toArray, List.set_cons_zero, List.set_cons_succ]
      try simp only [putAll, markAll, dstAt, Act.put, List.getElem_toArray, List.getElem?_toArray, List.getElem_cons_zero, List.getElem_cons_succ, List.getElem?_cons_zero, List.getElem?_cons_succ, Option.bind_some, List.setIfInBounds_toArray, List.set_cons_zero, List.set_cons_succ]
      refine wpAnyH_ready (rs := [20]) (by kernel_rfl) (by simp) ?_
      refine AllReadyH.cons rfl (fun K hK => ?_) ?_
      · skip
        have x0 : Wn.cell? ⟨g13, 0, none⟩ = some (.int .i64 0) := h13.cell 0
        have x1 : Wn.cell? ⟨g13, 1, none⟩ = some (.int .i64 0) := h13.cell 1
        have x2 : Wn.cell? ⟨g13, 2, none⟩ = some (.int .i64 0) := h13.cell 2
        have f0 := h13.frozen 0
        have f1 := h13.frozen 1
        have f2 := h13.frozen 2
        go_simp
        clear x0 x1 x2 f0 f1 f2
        have dB : Blk (((Wn.setCell ⟨g13, 0, none⟩ (.int .i64 r.a)).setCell ⟨g13, 1, none⟩ (.int .i64 r.b)).setCell ⟨g13, 2, none⟩ (.int .i64 r.c)) g13 229 #[.int .i64 r.a, .int .i64 r.b, .int .i64 r.c] := (((h13).set_ 0 (.int .i64 r.a)).set_ 1 (.int .i64 r.b)).set_ 2 (.int .i64 r.c)
        have yS : ∀ (lo : Nat) (w0 : World), Below lo w0 Wn → lo ≤ g13 → Below lo w0 (((Wn.setCell ⟨g13, 0, none⟩ (.int .i64 r.a)).setCell ⟨g13, 1, none⟩ (.int .i64 r.b)).setCell ⟨g13, 2, none⟩ (.int .i64 r.c)) := fun lo w0 h hl => (((h.setCell hl _).setCell hl _).setCell hl _)
        have kS : ∀ k, k ≠ g13 → (((Wn.setCell ⟨g13, 0, none⟩ (.int .i64 r.a)).setCell ⟨g13, 1, none⟩ (.int .i64 r.b)).setCell ⟨g13, 2, none⟩ (.int .i64 r.c)).heap[k]? = Wn.heap[k]? := fun k hk => ((Below.heap_setCell _ _ _ _ hk).trans ((Below.heap_setCell _ _ _ _ hk).trans (Below.heap_setCell _ _ _ _ hk)))
        generalize ((Wn.setCell ⟨g13, 0, none⟩ (.int .i64 r.a)).setCell ⟨g13, 1, none⟩ (.int .i64 r.b)).setCell ⟨g13, 2, none⟩ (.int .i64 r.c) = wf at *
        have hpf := yS _ _ hp3 l13
        have hpc := hpf
        refine hK.out _ _ ?_ (fun hHeld => ?_)
        · exact KR.out _ hpc
        clear hK K
        try simp only [Act.put, List.setIfInBounds_toArray]
        refine wpAnyH_done (by kernel_rfl) ?_ _
        refine NoPanic.normal ?_
        clear KR hpc hp3 hp2
        obtain ⟨ra, rb, rc⟩ := r
        dsimp only at dB
        cases hru : isRuleB ⟨ra, rb, rc⟩
        · have HN : Hid (res = (Fm.zero, 0, 6)) := Lib.hid (by rw [HRES.out, hru]; rfl)
          have hz : ra = 0 ∧ rb = 0 ∧ rc = -1 := by
            unfold isRuleB at hru
            simpa using hru
          obtain ⟨rfl, rfl, rfl⟩ := hz
          obtain rfl := HN.out
          clear hru
          go_upto_region 5 with fail
          have hp7 : Below wf.heap.size wf wf.drew := below_drewN (Below.refl _ _) 1
          refine wp_region_noPanic ?_
          refine wp_region_held_drew (S := (fun w' => w'.cell? ⟨g13, 0, none⟩ = some (.int .i64 0) ∧ w'.cell? ⟨g13, 1, none⟩ = some (.int .i64 0) ∧ w'.cell? ⟨g13, 2, none⟩ = some (.int .i64 (-1)))) (by kernel_rfl) ?_ (fun hHeld => ?_)
          · exact ⟨(dB.below' hp7).cell 0, (dB.below' hp7).cell 1, (dB.below' hp7).cell 2⟩
          generalize wf.drew = Wd at *
          refine wpAnyH_take (i := 0) (v := ?_) rfl (by kernel_rfl) (by kernel_rfl) (by kernel_rfl) (fun _ _ _ h => h) (Or.inl ⟨by rfl, ?_⟩) (by assumption) ?_
          rotate_left
          · intro w hSw
            try dsimp only at hSw
            obtain ⟨hs0_, hs1_, hs2_⟩ := hSw
            go_simp
            try with_reducible rfl
          try simp only [Act.put, List.setIfInBounds_toArray]
          try simp only [List.getElem_toArray, List.getElem_cons_zero, List.set_cons_zero, List.set_cons_succ]
          refine wpAnyH_ready (rs := [1]) (by kernel_rfl) (by simp) ?_
          refine AllReadyH.cons rfl (fun K hK => ?_) ?_
          · go_simp
            refine (l05None_any _).mono ?_
            rintro e W7 ⟨rfl, z7⟩
            replace hp7 := hp7.trans (z7.mono hp7.size)
            refine hK.out _ _ ?_ (fun hHeld => ?_)
            · exact ⟨(dB.below' hp7).cell 0, (dB.below' hp7).cell 1, (dB.below' hp7).cell 2⟩
            clear hK K
            try simp only [Act.put, List.setIfInBounds_toArray, List.set_cons_zero, List.set_cons_succ]
            try simp only [putAll, markAll, dstAt, Act.put, List.getElem_toArray, List.getElem?_toArray, List.getElem_cons_zero, List.getElem_cons_succ, List.getElem?_cons_zero, List.getElem?_cons_succ, Option.bind_some, List.setIfInBounds_toArray, List.set_cons_zero, List.set_cons_succ]
            refine wpAnyH_ready (rs := [2]) (by kernel_rfl) (by simp) ?_
            refine AllReadyH.cons rfl (fun K hK => ?_) ?_
            · go_simp
              refine hK.out _ _ ?_ (fun hHeld => ?_)
              · exact ⟨(dB.below' hp7).cell 0, (dB.below' hp7).cell 1, (dB.below' hp7).cell 2⟩
              clear hK K
              try simp only [Act.put, List.setIfInBounds_toArray, List.set_cons_zero, List.set_cons_succ]
              refine wpAnyH_done (by kernel_rfl) ?_ _
              refine NoPanic.normal ?_
              have zz : Below W2.heap.size W2 W7 := hpf.trans (hp7.mono hpf.size)
              have bR7 := bR2.below' zz
              have y3 : Below w.heap.size w W7 := y2.trans (zz.mono y2.size)
              have x0 : W7.cell? ⟨w.heap.size, 0, none⟩ = some (.int .i64 0) := bR7.cell 0
              have x1 : W7.cell? ⟨w.heap.size, 1, none⟩ = some (.int .i64 0) := bR7.cell 1
              have x2 : W7.cell? ⟨w.heap.size, 2, none⟩ = some (.int .i64 0) := bR7.cell 2
              have x3 : W7.cell? ⟨w.heap.size, 3, none⟩ = some (.slice none 0 0) := bR7.cell 3
              have x4 : W7.cell? ⟨w.heap.size, 4, none⟩ = some (.slice none 0 0) := bR7.cell 4
              have x5 : W7.cell? ⟨w.heap.size, 5, none⟩ = some (.slice none 0 0) := bR7.cell 5
              have f0 := bR7.frozen 0
              have f1 := bR7.frozen 1
              have f2 := bR7.frozen 2
              have f3 := bR7.frozen 3
              have f4 := bR7.frozen 4
              have f5 := bR7.frozen 5
              go_wp2_with fail
              clear x0 x1 x2 x3 x4 x5
              have dC : Blk ((((((W7.setCell ⟨w.heap.size, 0, none⟩ (.int .i64 0)).setCell ⟨w.heap.size, 1, none⟩ (.int .i64 0)).setCell ⟨w.heap.size, 2, none⟩ (.int .i64 0)).setCell ⟨w.heap.size, 3, none⟩ (.slice none 0 0)).setCell ⟨w.heap.size, 4, none⟩ (.slice none 0 0)).setCell ⟨w.heap.size, 5, none⟩ (.slice none 0 0)) w.heap.size 31 #[.int .i64 0, .int .i64 0, .int .i64 0, .slice none 0 0, .slice none 0 0, .slice none 0 0] := fm_set bR7 (.int .i64 0) (.int .i64 0) (.int .i64 0) (.slice none 0 0) (.slice none 0 0) (.slice none 0 0)
              have yT : ∀ (lo : Nat) (w0 : World), Below lo w0 W7 → lo ≤ w.heap.size → Below lo w0 ((((((W7.setCell ⟨w.heap.size, 0, none⟩ (.int .i64 0)).setCell ⟨w.heap.size, 1, none⟩ (.int .i64 0)).setCell ⟨w.heap.size, 2, none⟩ (.int .i64 0)).setCell ⟨w.heap.size, 3, none⟩ (.slice none 0 0)).setCell ⟨w.heap.size, 4, none⟩ (.slice none 0 0)).setCell ⟨w.heap.size, 5, none⟩ (.slice none 0 0)) := fun lo w0 h hl => fm_below h hl (.int .i64 0) (.int .i64 0) (.int .i64 0) (.slice none 0 0) (.slice none 0 0) (.slice none 0 0)
              have kT : ∀ k, k ≠ w.heap.size → ((((((W7.setCell ⟨w.heap.size, 0, none⟩ (.int .i64 0)).setCell ⟨w.heap.size, 1, none⟩ (.int .i64 0)).setCell ⟨w.heap.size, 2, none⟩ (.int .i64 0)).setCell ⟨w.heap.size, 3, none⟩ (.slice none 0 0)).setCell ⟨w.heap.size, 4, none⟩ (.slice none 0 0)).setCell ⟨w.heap.size, 5, none⟩ (.slice none 0 0)).heap[k]? = W7.heap[k]? := fun k hk => fm_kept (.int .i64 0) (.int .i64 0) (.int .i64 0) (.slice none 0 0) (.slice none 0 0) (.slice none 0 0) k hk
              generalize (((((W7.setCell ⟨w.heap.size, 0, none⟩ (.int .i64 0)).setCell ⟨w.heap.size, 1, none⟩ (.int .i64 0)).setCell ⟨w.heap.size, 2, none⟩ (.int .i64 0)).setCell ⟨w.heap.size, 3, none⟩ (.slice none 0 0)).setCell ⟨w.heap.size, 4, none⟩ (.slice none 0 0)).setCell ⟨w.heap.size, 5, none⟩ (.slice none 0 0) = wg at *
              have x0 : wg.cell? ⟨w.heap.size, 0, none⟩ = some (.int .i64 0) := dC.cell 0
              have x1 : wg.cell? ⟨w.heap.size, 1, none⟩ = some (.int .i64 0) := dC.cell 1
              have x2 : wg.cell? ⟨w.heap.size, 2, none⟩ = some (.int .i64 0) := dC.cell 2
              have x3 : wg.cell? ⟨w.heap.size, 3, none⟩ = some (.slice none 0 0) := dC.cell 3
              have x4 : wg.cell? ⟨w.heap.size, 4, none⟩ = some (.slice none 0 0) := dC.cell 4
              have x5 : wg.cell? ⟨w.heap.size, 5, none⟩ = some (.slice none 0 0) := dC.cell 5
              have hres : NewFmI3 w (Fm.zero, 0, 6) (.returned (.tuple #[.agg #[.int .i64 0, .int .i64 0, .int .i64 0, .slice none 0 0, .slice none 0 0, .slice none 0 0], .int .i64 0, .int .i64 6])) wg := ⟨none, 0, [], none, 0, [], none, 0, rfl, FmR.zero _ _, yT _ _ y3 (Nat.le_refl _)⟩
              exact bodyPost_ret (v := .tuple #[.agg #[.int .i64 0, .int .i64 0, .int .i64 0, .slice none 0 0, .slice none 0 0, .slice none 0 0], .int .i64 0, .int .i64 6]) (by simp [results, Try.results181, go_sem, x0, x1, x2, x3, x4, x5]) rfl hres
            exact AllReadyH.nil
          exact AllReadyH.nil
        have hvv := HV.out
        unfold validRuleB at hvv
        rw [hru] at hvv
        simp only [Bool.not_true, Bool.false_or, Bool.and_eq_true, Bool.or_eq_true, beq_iff_eq, inB_iff] at hvv
        obtain ⟨⟨⟨ra0, ra1⟩, hrb⟩, rc0, rc1⟩ := hvv
        have rb0 : -1 ≤ rb := by omega
        have rb1 : rb ≤ 1 := by omega
        have d0 : (rb == 0) = false := by rw [beq_eq_false_iff_ne]; omega
        have HN : Hid (res = (wallF ⟨q, (hN : Int), (aN : Int), nums ts, nums us, os⟩ ⟨ra, rb, rc⟩, 0, 0)) := Lib.hid (by rw [HRES.out, hru]; rfl)
        clear hru hrb HRES HV
        go_upto_region 5 with fail
        have hp7 : Below wf.heap.size wf wf.drew := below_drewN (Below.refl _ _) 1
        refine wp_region_noPanic ?_
        refine wp_region_held_drew (S := (fun w' => w'.cell? ⟨g13, 0, none⟩ = some (.int .i64 ra) ∧ w'.cell? ⟨g13, 1, none⟩ = some (.int .i64 rb) ∧ w'.cell? ⟨g13, 2, none⟩ = some (.int .i64 rc))) (by kernel_rfl) ?_ (fun hHeld => ?_)
        · exact ⟨(dB.below' hp7).cell 0, (dB.below' hp7).cell 1, (dB.below' hp7).cell 2⟩
        generalize wf.drew = Wd at *
        refine wpAnyH_take (i := 0) (v := ?_) rfl (by kernel_rfl) (by kernel_rfl) (by kernel_rfl) (fun _ _ _ h => h) (Or.inl ⟨by rfl, ?_⟩) (by assumption) ?_
        rotate_left
        · intro w hSw
          try dsimp only at hSw
          obtain ⟨hs0_, hs1_, hs2_⟩ := hSw
          go_simp
          try with_reducible rfl
        try simp only [Act.put, List.setIfInBounds_toArray]
        try simp only [List.getElem_toArray, List.getElem_cons_zero, List.set_cons_zero, List.set_cons_succ]
        refine wpAnyH_ready (rs := [1]) (by kernel_rfl) (by simp) ?_
        refine AllReadyH.cons rfl (fun K hK => ?_) ?_
        · go_simp
          refine (l05None_any _).mono ?_
          rintro e W7 ⟨rfl, z7⟩
          replace hp7 := hp7.trans (z7.mono hp7.size)
          refine hK.out _ _ ?_ (fun hHeld => ?_)
          · exact ⟨(dB.below' hp7).cell 0, (dB.below' hp7).cell 1, (dB.below' hp7).cell 2⟩
          clear hK K
          try simp only [Act.put, List.setIfInBounds_toArray, List.set_cons_zero, List.set_cons_succ]
          try simp only [putAll, markAll, dstAt, Act.put, List.getElem_toArray, List.getElem?_toArray, List.getElem_cons_zero, List.getElem_cons_succ, List.getElem?_cons_zero, List.getElem?_cons_succ, Option.bind_some, List.setIfInBounds_toArray, List.set_cons_zero, List.set_cons_succ]
          refine wpAnyH_ready (rs := [2]) (by kernel_rfl) (by simp) ?_
          refine AllReadyH.cons rfl (fun K hK => ?_) ?_
          · go_simp
            refine hK.out _ _ ?_ (fun hHeld => ?_)
            · exact ⟨(dB.below' hp7).cell 0, (dB.below' hp7).cell 1, (dB.below' hp7).cell 2⟩
            clear hK K
            try simp only [Act.put, List.setIfInBounds_toArray, List.set_cons_zero, List.set_cons_succ]
            refine wpAnyH_done (by kernel_rfl) ?_ _
            refine NoPanic.normal ?_
            have zd : Below W2.heap.size W2 W7 := hpf.trans (hp7.mono hpf.size)
            have dd3 := dB.below' hp7
            have hb3 := HB.out.below' zd
            have hO3 := HO.out.below zd
            obtain ⟨hfx3, hcx3⟩ := HFX.out _ zd
            have g13n : g13 ≠ tb := by omega
            have g13m : g13 ≠ g := by omega
            clear hpf hp7 dB
            have v0 : W7.cell? ⟨g, 0, none⟩ = some (.int .i64 q) := hb3.cell 0
            have v1 : W7.cell? ⟨g, 1, none⟩ = some (.int .i64 (hN : Int)) := hb3.cell 1
            have v2 : W7.cell? ⟨g, 2, none⟩ = some (.int .i64 (aN : Int)) := hb3.cell 2
            have v3 : W7.cell? ⟨g, 3, none⟩ = some (.slice (some ⟨bb, off, none⟩) ts.length c) := hb3.cell 3
            have v4 : W7.cell? ⟨g, 4, none⟩ = some (.slice B us.length d) := hb3.cell 4
            have v5 : W7.cell? ⟨g, 5, none⟩ = some (.slice C os.length k) := hb3.cell 5
            have e0 : W7.cell? ⟨g13, 0, none⟩ = some (.int .i64 ra) := dd3.cell 0
            have e1 : W7.cell? ⟨g13, 1, none⟩ = some (.int .i64 rb) := dd3.cell 1
            have e2 : W7.cell? ⟨g13, 2, none⟩ = some (.int .i64 rc) := dd3.cell 2
            go_upto_region 8 with fail
            have hO5 := hO3.setW HTT.out HTA.out hax ra
            have hb5 := hb3.far (p := ⟨tb, tof + aN, none⟩) hgt (.int .i64 ra)
            have dB5 := dd3.far (p := ⟨tb, tof + aN, none⟩) g13n (.int .i64 ra)
            have hz5 : Below W.heap.size W2 (W7.setCell ⟨tb, tof + aN, none⟩ (.int .i64 ra)) := (zd.mono hw).setCell htlo _
            clear v0 v1 v2 v3 v4 v5 e0 e1 e2 hfx3 hcx3 hb3 hO3 dd3
            generalize W7.setCell ⟨tb, tof + aN, none⟩ (.int .i64 ra) = W5 at *
            have v0 : W5.cell? ⟨g, 0, none⟩ = some (.int .i64 q) := hb5.cell 0
            have v1 : W5.cell? ⟨g, 1, none⟩ = some (.int .i64 (hN : Int)) := hb5.cell 1
            have v2 : W5.cell? ⟨g, 2, none⟩ = some (.int .i64 (aN : Int)) := hb5.cell 2
            have v3 : W5.cell? ⟨g, 3, none⟩ = some (.slice (some ⟨bb, off, none⟩) ts.length c) := hb5.cell 3
            have v4 : W5.cell? ⟨g, 4, none⟩ = some (.slice B us.length d) := hb5.cell 4
            have v5 : W5.cell? ⟨g, 5, none⟩ = some (.slice C os.length k) := hb5.cell 5
            have f0 := hb5.frozen 0
            have f1 := hb5.frozen 1
            have f2 := hb5.frozen 2
            have f3 := hb5.frozen 3
            have f4 := hb5.frozen 4
            have f5 := hb5.frozen 5
            have e0 : W5.cell? ⟨g13, 0, none⟩ = some (.int .i64 ra) := dB5.cell 0
            have e1 : W5.cell? ⟨g13, 1, none⟩ = some (.int .i64 rb) := dB5.cell 1
            have e2 : W5.cell? ⟨g13, 2, none⟩ = some (.int .i64 rc) := dB5.cell 2
            go_upto_region 9 with fail
            have hO6 := hO5.boxed hb5 (w' := W5.setCell ⟨g, 0, none⟩ (.int .i64 rc)) (fun b hb => Below.heap_setCell _ _ _ _ hb)
            have dB6 := dB5.far (p := ⟨g, 0, none⟩) g13m (.int .i64 rc)
            have hz6 : Below W.heap.size W2 (W5.setCell ⟨g, 0, none⟩ (.int .i64 rc)) := hz5.setCell hlg _
            have hb6 : Blk (W5.setCell ⟨g, 0, none⟩ (.int .i64 rc)) g 31 #[.int .i64 rc, .int .i64 (hN : Int), .int .i64 (aN : Int), .slice (some ⟨bb, off, none⟩) ts.length c, .slice B us.length d, .slice C os.length k] := hb5.set_ 0 _
            clear v0 v1 v2 v3 v4 v5 f0 f1 f2 f3 f4 f5 e0 e1 e2 hb5 hO5 dB5 hz5
            generalize W5.setCell ⟨g, 0, none⟩ (.int .i64 rc) = W6 at *
            have v0 : W6.cell? ⟨g, 0, none⟩ = some (.int .i64 rc) := hb6.cell 0
            have v1 : W6.cell? ⟨g, 1, none⟩ = some (.int .i64 (hN : Int)) := hb6.cell 1
            have v2 : W6.cell? ⟨g, 2, none⟩ = some (.int .i64 (aN : Int)) := hb6.cell 2
            have v3 : W6.cell? ⟨g, 3, none⟩ = some (.slice (some ⟨bb, off, none⟩) ts.length c) := hb6.cell 3
            have v4 : W6.cell? ⟨g, 4, none⟩ = some (.slice B us.length d) := hb6.cell 4
            have v5 : W6.cell? ⟨g, 5, none⟩ = some (.slice C os.length k) := hb6.cell 5
            have f0 := hb6.frozen 0
            have f1 := hb6.frozen 1
            have f2 := hb6.frozen 2
            have f3 := hb6.frozen 3
            have f4 := hb6.frozen 4
            have f5 := hb6.frozen 5
            have e0 : W6.cell? ⟨g13, 0, none⟩ = some (.int .i64 ra) := dB6.cell 0
            have e1 : W6.cell? ⟨g13, 1, none⟩ = some (.int .i64 rb) := dB6.cell 1
            have e2 : W6.cell? ⟨g13, 2, none⟩ = some (.int .i64 rc) := dB6.cell 2
            have waN : IntKind.i64.wrap ((aN : Int) + rb) = (aN : Int) + rb := IntWalk.i64_in _ (by omega)
            go_upto_region 10 with fail
            have hO8 := hO6.boxed hb6 (w' := W6.setCell ⟨g, 2, none⟩ (.int .i64 ((aN : Int) + rb))) (fun b hb => Below.heap_setCell _ _ _ _ hb)
            have hz8 : Below W.heap.size W2 (W6.setCell ⟨g, 2, none⟩ (.int .i64 ((aN : Int) + rb))) := hz6.setCell hlg _
            have hb8 : Blk (W6.setCell ⟨g, 2, none⟩ (.int .i64 ((aN : Int) + rb))) g 31 #[.int .i64 rc, .int .i64 (hN : Int), .int .i64 ((aN : Int) + rb), .slice (some ⟨bb, off, none⟩) ts.length c, .slice B us.length d, .slice C os.length k] := hb6.set_ 2 _
            clear v0 v1 v2 v3 v4 v5 f0 f1 f2 f3 f4 f5 e0 e1 e2 hb6 hO6 dB6 hz6
            generalize W6.setCell ⟨g, 2, none⟩ (.int .i64 ((aN : Int) + rb)) = W8 at *
            have hF8 : FmBox W8 W.heap.size g ⟨rc, (hN : Int), (aN : Int) + rb, (nums ts).set hN (t.xs.set aN ra), nums us, os⟩ := ⟨_, c, ts.set hN ⟨t.A, t.c, t.xs.set aN ra⟩, B, d, us, C, k, by rw [List.length_set]; exact hb8, ⟨hO8, nums_set _ _ _, rfl⟩, hlg⟩
            have hsz8 : FmSz ⟨rc, (hN : Int), (aN : Int) + rb, (nums ts).set hN (t.xs.set aN ra), nums us, os⟩ := by
              obtain ⟨p1, p2, p3, p4, p5, p6, p7, p8, p9, p10⟩ := HSZ.out
              refine ⟨p1, p2, by rw [List.length_set]; exact p3, p4, p5, p6, ?_, p8, by show -1 ≤ (aN : Int) + rb; omega, by show (aN : Int) + rb ≤ 1000; omega⟩
              intro y hy
              rcases List.mem_or_eq_of_mem_set hy with hh | hh
              · exact p7 y hh
              · rw [hh, List.length_set]; exact htl
            have hal8 : (aN : Int) + rb ≤ ((rowAt ((nums ts).set hN (t.xs.set aN ra)) (hN : Int)).length : Int) := by
              rw [rowAt_set (by rw [nums_len]; omega), List.length_set]; omega
            have HST := Lib.hid (l27Settle_any g W.heap.size _ W8 hF8 hsz8 hal8)
            have HWE : Hid (widenF ⟨rc, (hN : Int), (aN : Int) + rb, (nums ts).set hN (t.xs.set aN ra), nums us, os⟩ = wallF ⟨q, (hN : Int), (aN : Int), nums ts, nums us, os⟩ ⟨ra, rb, rc⟩) := Lib.hid (by
              unfold wallF
              dsimp only
              rw [rowAt_eq HTT.out, Int.toNat_natCast, Int.toNat_natCast])
            rw [HWE.out] at HST
            clear hF8 hsz8 hb8 hO8 hal8 HWE HFX
            generalize wallF ⟨q, (hN : Int), (aN : Int), nums ts, nums us, os⟩ ⟨ra, rb, rc⟩ = gf at *
            obtain rfl := HN.out
            go_wp2_with fail
            refine HST.out.mono ?_
            rintro e W9 ⟨⟨uu, rfl⟩, hF9, hz9, fr9⟩
            have z29 : Below W.heap.size W2 W9 := hz8.trans hz9
            have z09 : Below W.heap.size W W9 := z02.trans (z29.mono (Nat.le_refl _))
            have bR9 := bR.below' z09
            have y9 : Below w.heap.size w W9 := y0.trans (z09.mono y0.size)
            obtain ⟨A', c', ts', B', d', us', C', k', hb', hR', hl'⟩ := hF9
            obtain ⟨q', h', a', FW', FR', os'⟩ := gf
            dsimp only at hb' hR' ⊢
            have v0 : W9.cell? ⟨g, 0, none⟩ = some (.int .i64 q') := hb'.cell 0
            have v1 : W9.cell? ⟨g, 1, none⟩ = some (.int .i64 h') := hb'.cell 1
            have v2 : W9.cell? ⟨g, 2, none⟩ = some (.int .i64 a') := hb'.cell 2
            have v3 : W9.cell? ⟨g, 3, none⟩ = some (.slice A' ts'.length c') := hb'.cell 3
            have v4 : W9.cell? ⟨g, 4, none⟩ = some (.slice B' us'.length d') := hb'.cell 4
            have v5 : W9.cell? ⟨g, 5, none⟩ = some (.slice C' os'.length k') := hb'.cell 5
            have x0 : W9.cell? ⟨w.heap.size, 0, none⟩ = some (.int .i64 0) := bR9.cell 0
            have x1 : W9.cell? ⟨w.heap.size, 1, none⟩ = some (.int .i64 0) := bR9.cell 1
            have x2 : W9.cell? ⟨w.heap.size, 2, none⟩ = some (.int .i64 0) := bR9.cell 2
            have x3 : W9.cell? ⟨w.heap.size, 3, none⟩ = some (.slice none 0 0) := bR9.cell 3
            have x4 : W9.cell? ⟨w.heap.size, 4, none⟩ = some (.slice none 0 0) := bR9.cell 4
            have x5 : W9.cell? ⟨w.heap.size, 5, none⟩ = some (.slice none 0 0) := bR9.cell 5
            have f0 := bR9.frozen 0
            have f1 := bR9.frozen 1
            have f2 := bR9.frozen 2
            have f3 := bR9.frozen 3
            have f4 := bR9.frozen 4
            have f5 := bR9.frozen 5
            have hgn : g ≠ w.heap.size := by omega
            go_wp2_with fail
            clear x0 x1 x2 x3 x4 x5 v0 v1 v2 v3 v4 v5
            have dC : Blk ((((((W9.setCell ⟨w.heap.size, 0, none⟩ (.int .i64 q')).setCell ⟨w.heap.size, 1, none⟩ (.int .i64 h')).setCell ⟨w.heap.size, 2, none⟩ (.int .i64 a')).setCell ⟨w.heap.size, 3, none⟩ (.slice A' ts'.length c')).setCell ⟨w.heap.size, 4, none⟩ (.slice B' us'.length d')).setCell ⟨w.heap.size, 5, none⟩ (.slice C' os'.length k')) w.heap.size 31 #[.int .i64 q', .int .i64 h', .int .i64 a', .slice A' ts'.length c', .slice B' us'.length d', .slice C' os'.length k'] := fm_set bR9 (.int .i64 q') (.int .i64 h') (.int .i64 a') (.slice A' ts'.length c') (.slice B' us'.length d') (.slice C' os'.length k')
            have yT : ∀ (lo : Nat) (w0 : World), Below lo w0 W9 → lo ≤ w.heap.size → Below lo w0 ((((((W9.setCell ⟨w.heap.size, 0, none⟩ (.int .i64 q')).setCell ⟨w.heap.size, 1, none⟩ (.int .i64 h')).setCell ⟨w.heap.size, 2, none⟩ (.int .i64 a')).setCell ⟨w.heap.size, 3, none⟩ (.slice A' ts'.length c')).setCell ⟨w.heap.size, 4, none⟩ (.slice B' us'.length d')).setCell ⟨w.heap.size, 5, none⟩ (.slice C' os'.length k')) := fun lo w0 h hl => fm_below h hl (.int .i64 q') (.int .i64 h') (.int .i64 a') (.slice A' ts'.length c') (.slice B' us'.length d') (.slice C' os'.length k')
            have kT : ∀ k, k ≠ w.heap.size → ((((((W9.setCell ⟨w.heap.size, 0, none⟩ (.int .i64 q')).setCell ⟨w.heap.size, 1, none⟩ (.int .i64 h')).setCell ⟨w.heap.size, 2, none⟩ (.int .i64 a')).setCell ⟨w.heap.size, 3, none⟩ (.slice A' ts'.length c')).setCell ⟨w.heap.size, 4, none⟩ (.slice B' us'.length d')).setCell ⟨w.heap.size, 5, none⟩ (.slice C' os'.length k')).heap[k]? = W9.heap[k]? := fun k hk => fm_kept (.int .i64 q') (.int .i64 h') (.int .i64 a') (.slice A' ts'.length c') (.slice B' us'.length d') (.slice C' os'.length k') k hk
            generalize (((((W9.setCell ⟨w.heap.size, 0, none⟩ (.int .i64 q')).setCell ⟨w.heap.size, 1, none⟩ (.int .i64 h')).setCell ⟨w.heap.size, 2, none⟩ (.int .i64 a')).setCell ⟨w.heap.size, 3, none⟩ (.slice A' ts'.length c')).setCell ⟨w.heap.size, 4, none⟩ (.slice B' us'.length d')).setCell ⟨w.heap.size, 5, none⟩ (.slice C' os'.length k') = wg at *
            have x0 : wg.cell? ⟨w.heap.size, 0, none⟩ = some (.int .i64 q') := dC.cell 0
            have x1 : wg.cell? ⟨w.heap.size, 1, none⟩ = some (.int .i64 h') := dC.cell 1
            have x2 : wg.cell? ⟨w.heap.size, 2, none⟩ = some (.int .i64 a') := dC.cell 2
            have x3 : wg.cell? ⟨w.heap.size, 3, none⟩ = some (.slice A' ts'.length c') := dC.cell 3
            have x4 : wg.cell? ⟨w.heap.size, 4, none⟩ = some (.slice B' us'.length d') := dC.cell 4
            have x5 : wg.cell? ⟨w.heap.size, 5, none⟩ = some (.slice C' os'.length k') := dC.cell 5
            have hRf : FmR wg w.heap.size ⟨q', h', a', FW', FR', os'⟩ A' c' ts' B' d' us' C' k' := ⟨(hR'.1.far bR9 (by decide) (by decide) kT).mono y0.size, hR'.2⟩
            have hres : NewFmI3 w (⟨q', h', a', FW', FR', os'⟩, 0, 0) (.returned (.tuple #[.agg #[.int .i64 q', .int .i64 h', .int .i64 a', .slice A' ts'.length c', .slice B' us'.length d', .slice C' os'.length k'], .int .i64 0, .int .i64 0])) wg := ⟨A', c', ts', B', d', us', C', k', rfl, hRf, yT _ _ y9 (Nat.le_refl _)⟩
            exact bodyPost_ret (v := .tuple #[.agg #[.int .i64 q', .int .i64 h', .int .i64 a', .slice A' ts'.length c', .slice B' us'.length d', .slice C' os'.length k'], .int .i64 0, .int .i64 0]) (by simp [results, Try.results181, go_sem, x0, x1, x2, x3, x4, x5]) rfl hres
          exact AllReadyH.nil
        exact AllReadyH.nil
      exact AllReadyH.nil
    exact AllReadyH.nil
  obtain ⟨i, hi, hcase⟩ := onF_rep hf hon
  have hi2 : i < us.length := by have h2 : i < (nums us).length := hi; rw [nums_len] at h2; exact h2
  obtain ⟨u, bB, offB, hU, hum, rfl, hblB, hcB, hrowB⟩ := hO.2.1.sii.pick (k := i) hi2
  have hrR : rowAt (nums us) (i : Int) = u.xs := rowAt_eq hU.out
  have HRR := Lib.hid hrR
  obtain ⟨hu1, hu2, hu3⟩ := hrs u.xs (List.mem_map.2 ⟨u, hum, rfl⟩)
  have hgB : g ≠ bB := fun e => hb.aptt hO.2.1.1 (by decide) (by rw [e]; rfl)
  have hAB : bb ≠ bB := fun e => hO.2.2.2.spine bb rfl (by rw [e]; rfl)
  have hlB := hO.2.1.1.blk_ge bB rfl
  have hlA := hO.1.1.blk_ge bb rfl
  have hUU := hU
  have j1 : (0 : Int) ≤ (i : Int) := by omega
  have j2 : (i : Int) < (us.length : Int) := by omega
  have hS7 := Lib.hid s7
  have HWK : Hid (∀ W', Below W2.heap.size W2 W' → W'.cell? ⟨bb, off + hN, none⟩ = some (.slice t.A t.xs.length t.c)) := KS
  have HRW : Hid (∀ W', Below W2.heap.size W2 W' → SI W' u.A u.xs.length u.xs) := Lib.hid (fun W' z => hrowB.below z)
  have HRT : Hid (∀ W', Below W2.heap.size W2 W' → SI W' t.A t.xs.length t.xs) := Lib.hid (fun W' z => ((hrow.below z).asI))
  have KF : Hid (∀ W', Below W2.heap.size W2 W' → W'.cell? ⟨g, 0, none⟩ = some (.int .i64 q) ∧ W'.cell? ⟨g, 4, none⟩ = some (.slice (some ⟨bB, offB, none⟩) us.length d) ∧ W'.cell? ⟨bB, offB + i, none⟩ = some (.slice u.A u.xs.length u.c)) := Lib.hid (fun W' z => ⟨(hb.below' z).cell 0, (hb.below' z).cell 4, (z.cell (p := ⟨bB, offB + i, none⟩) hblB).trans hcB⟩)
  have HSH : Hid (∀ sd : Int, sd = 1 ∨ sd = -1 → ∀ W', Below W2.heap.size W2 W' → Calls Try.prog 253 #[.pointer (some ⟨gm, 0, none⟩), .int .i64 q, .slice u.A u.xs.length u.c, .int .i64 sd] W' (ShiftP W' (shiftF sy rs q u.xs sd))) := Lib.hid (fun sd hsd W' z => l27Shift_any gm sy st A0 n0 k0 rs q u.A u.xs.length u.c u.xs sd W' (hmm.below (y2.trans (z.mono y2.size))) (hr.below (y2.trans (z.mono y2.size))) (hrowB.below z) hm pq0 pq1 hu3 (by omega) hu1 hsd)
  have HSL : Hid (∀ sd out, shiftF sy rs q u.xs sd = some out → out.length ≤ 20) := Lib.hid (fun sd out h => by have := shiftGo_len _ _ _ _ _ h; omega)
  have HF0 := Lib.hid hf
  have HOFF := Lib.hid hoff
  have HB := Lib.hid hb
  have HO := Lib.hid hO
  have hwl : ts.length = us.length + 1 := s3
  have HWL := Lib.hid hwl
  have hui : us.length ≤ 3 := s6
  rcases hcase with ⟨hca, hcb, hcc⟩ | ⟨hca, hcb, hcc⟩
  · replace hca : a = -1 := hca
    subst hca
    replace hcc : (i : Int) = (hN : Int) - 1 := hcc
    have hii : hN = i + 1 := by omega
    have hmv : (∀ out, shiftF sy rs q u.xs (-1) = some out → moveF sy rs ⟨q, (hN : Int), (-1), nums ts, nums us, os⟩ = some (passF ⟨q, (hN : Int), (-1), nums ts, nums us, os⟩ (i : Int) (-1) out, 1)) ∧ (shiftF sy rs q u.xs (-1) = none → moveF sy rs ⟨q, (hN : Int), (-1), nums ts, nums us, os⟩ = some (unrollF ⟨q, (hN : Int), (-1), nums ts, nums us, os⟩ (i : Int) (-1), 2)) := by
      refine ⟨fun out ho => ?_, fun ho => ?_⟩ <;>
      · unfold moveF
        rw [hon]
        have e1 : ((hN : Int) - 1) = (i : Int) := by omega
        simp [e1, hrR, ho]
    have HMP := Lib.hid hmv.1
    have HMU := Lib.hid hmv.2
    have HRES := Lib.hid hres
    clear hmv hres hsz0 s1 s2 s3 s4 s5 s6 s7 s8 s9 s10 hon hws hrs hoff hal0 hi hcb hrR hu3 hcB hrowB hum hU hb hO hc hm hmm hr hrow htm hT hrw hf hwl
    have v0 : W2.cell? ⟨g, 0, none⟩ = some (.int .i64 q) := b2.cell 0
    have v1 : W2.cell? ⟨g, 1, none⟩ = some (.int .i64 (hN : Int)) := b2.cell 1
    have v2 : W2.cell? ⟨g, 2, none⟩ = some (.int .i64 (-1)) := b2.cell 2
    have v3 : W2.cell? ⟨g, 3, none⟩ = some (.slice (some ⟨bb, off, none⟩) ts.length c) := b2.cell 3
    have v4 : W2.cell? ⟨g, 4, none⟩ = some (.slice (some ⟨bB, offB, none⟩) us.length d) := b2.cell 4
    have v5 : W2.cell? ⟨g, 5, none⟩ = some (.slice C os.length k) := b2.cell 5
    have HC : Hid ((hN : Int) - 1 = (i : Int)) := Lib.hid (by omega)
    have k1 : 1 ≤ hN := by omega
    have wk : IntKind.i64.wrap ((hN : Int) - 1) = (hN : Int) - 1 := IntWalk.i64_in _ (by omega)
    have wh1 : IntKind.i64.wrap ((hN : Int) + -1) = (hN : Int) - 1 := by rw [IntWalk.i64_in _ (by omega)]; omega
    have j3 : (i : Int) < (ts.length : Int) := by omega
    have HII := Lib.hid hii
    clear hcc hii
    have hwc := KS.out W2 (Below.refl _ _)
    go_upto_region 17 with fail
    rw [HC.out]
    have hp : Below W2.heap.size W2 W2.drew := below_drewN (Below.refl _ _) 1
    clear v0 v1 v2 v3 v4 v5 hwc b2
    refine wp_region_noPanic ?_
    refine wp_region_held_drew (S := (fun w' => w'.cell? ⟨g, 0, none⟩ = some (.int .i64 q) ∧ w'.cell? ⟨g, 4, none⟩ = some (.slice (some ⟨bB, offB, none⟩) us.length d) ∧ w'.cell? ⟨bB, offB + i, none⟩ = some (.slice u.A u.xs.length u.c))) (by kernel_rfl) ?_ (fun hHeld => ?_)
    · exact KF.out _ hp
    generalize W2.drew = Wx at *
    refine wpAnyH_take (i := 0) (v := ?_) rfl (by kernel_rfl) (by kernel_rfl) (by kernel_rfl) (fun _ _ _ h => h) (Or.inl ⟨by rfl, ?_⟩) (by assumption) ?_
    rotate_left
    · intro w hSw
      try dsimp only at hSw
      obtain ⟨hs0_, hs1_, hs2_⟩ := hSw
      go_simp
      try with_reducible rfl
    try simp only [Act.put, List.setIfInBounds_toArray]
    refine wpAnyH_take (i := 1) (v := ?_) rfl (by kernel_rfl) (by kernel_rfl) (by kernel_rfl) (fun _ _ _ h => h) (Or.inl ⟨by rfl, ?_⟩) (by assumption) ?_
    rotate_left
    · intro w hSw
      try dsimp only at hSw
      obtain ⟨hs0_, hs1_, hs2_⟩ := hSw
      go_simp
      try with_reducible rfl
    try simp only [Act.put]
    refine wpAnyH_take (i := 2) (v := ?_) rfl (by kernel_rfl) (by kernel_rfl) (by kernel_rfl) (fun _ _ _ h => h) (Or.inl ⟨by rfl, ?_⟩) (by assumption) ?_
    rotate_left
    · intro w hSw
      try dsimp only at hSw
      obtain ⟨hs0_, hs1_, hs2_⟩ := hSw
      go_simp
      try with_reducible rfl
    try simp only [Act.put]
    refine wpAnyH_take (i := 3) (v := ?_) rfl (by kernel_rfl) (by kernel_rfl) (by kernel_rfl) (fun _ _ _ h => h) (Or.inl ⟨by rfl, ?_⟩) (by assumption) ?_
    rotate_left
    · intro w hSw
      try dsimp only at hSw
      obtain ⟨hs0_, hs1_, hs2_⟩ := hSw
      go_simp
      try with_reducible rfl
    try simp only [Act.put]
    refine wpAnyH_take (i := 4) (v := ?_) rfl (by kernel_rfl) (by kernel_rfl) (by kernel_rfl) (fun _ _ _ h => h) (Or.inl ⟨by rfl, ?_⟩) (by assumption) ?_
    rotate_left
    · intro w hSw
      try dsimp only at hSw
      obtain ⟨hs0_, hs1_, hs2_⟩ := hSw
      go_simp
      try with_reducible rfl
    try simp only [Act.put]
    refine wpAnyH_take (i := 5) (v := ?_) rfl (by kernel_rfl) (by kernel_rfl) (by kernel_rfl) (fun _ _ _ h => h) (Or.inl ⟨by rfl, ?_⟩) (by assumption) ?_
    rotate_left
    · intro w hSw
      try dsimp only at hSw
      obtain ⟨hs0_, hs1_, hs2_⟩ := hSw
      go_simp
      try with_reducible rfl
    try simp only [Act.put]
    refine wpAnyH_take (i := 6) (v := ?_) rfl (by kernel_rfl) (by kernel_rfl) (by kernel_rfl) (fun _ _ _ h => h) (Or.inl ⟨by rfl, ?_⟩) (by assumption) ?_
    rotate_left
    · intro w hSw
      try dsimp only at hSw
      obtain ⟨hs0_, hs1_, hs2_⟩ := hSw
      go_simp
      try with_reducible rfl
    try simp only [Act.put]
    refine wpAnyH_take (i := 7) (v := ?_) rfl (by kernel_rfl) (by kernel_rfl) (by kernel_rfl) (fun _ _ _ h => h) (Or.inl ⟨by rfl, ?_⟩) (by assumption) ?_
    rotate_left
    · intro w hSw
      try dsimp only at hSw
      obtain ⟨hs0_, hs1_, hs2_⟩ := hSw
      go_simp
      try with_reducible rfl
    try simp only [Act.put]
    refine wpAnyH_take (i := 8) (v := ?_) rfl (by kernel_rfl) (by kernel_rfl) (by kernel_rfl) (fun _ _ _ h => h) (Or.inl ⟨by rfl, ?_⟩) (by assumption) ?_
    rotate_left
    · intro w hSw
      try dsimp only at hSw
      obtain ⟨hs0_, hs1_, hs2_⟩ := hSw
      go_simp
      try with_reducible rfl
    try simp only [Act.put]
    try simp only [List.getElem_toArray, List.getElem_cons_zero, List.getElem_cons_succ, List.setIfInBounds_toArray, List.set_cons_zero, List.set_cons_succ]
    refine wpAnyH_ready (rs := [9]) (by kernel_rfl) (by simp) ?_
    refine AllReadyH.cons rfl (fun K hK => ?_) ?_
    · go_simp
      refine (HSH.out (-1) (by simp) _ hp).mono ?_
      rintro e W3 hS
      obtain ⟨E, en, ec, nn, code, rfl, z2, hcs⟩ := shiftP_open hS
      have HCS := Lib.hid hcs
      have hp2 := hp.trans (z2.mono hp.size)
      clear hS hcs
      refine hK.out _ _ ?_ (fun hHeld => ?_)
      · exact KF.out _ hp2
      clear hK K
      try simp only [Act.put, List.setIfInBounds_toArray, List.set_cons_zero, List.set_cons_succ]
      refine wpAnyH_take (i := 10) (v := ?_) rfl (by kernel_rfl) (by kernel_rfl) (by kernel_rfl) (fun _ _ _ h => h) (Or.inl ⟨by rfl, ?_⟩) (by assumption) ?_
      rotate_left
      · intro w hSw
        try dsimp only at hSw
        obtain ⟨hs0_, hs1_, hs2_⟩ := hSw
        go_simp
        try with_reducible rfl
      try simp only [Act.put, List.setIfInBounds_toArray]
      refine wpAnyH_take (i := 11) (v := ?_) rfl (by kernel_rfl) (by kernel_rfl) (by kernel_rfl) (fun _ _ _ h => h) (Or.inl ⟨by rfl, ?_⟩) (by assumption) ?_
      rotate_left
      · intro w hSw
        try dsimp only at hSw
        obtain ⟨hs0_, hs1_, hs2_⟩ := hSw
        go_simp
        try with_reducible rfl
      try simp only [Act.put]
      refine wpAnyH_take (i := 12) (v := ?_) rfl (by kernel_rfl) (by kernel_rfl) (by kernel_rfl) (fun _ _ _ h => h) (Or.inl ⟨by rfl, ?_⟩) (by assumption) ?_
      rotate_left
      · intro w hSw
        try dsimp only at hSw
        obtain ⟨hs0_, hs1_, hs2_⟩ := hSw
        go_simp
        try with_reducible rfl
      try simp only [Act.put]
      refine wpAnyH_take (i := 13) (v := ?_) rfl (by kernel_rfl) (by kernel_rfl) (by kernel_rfl) (fun _ _ _ h => h) (Or.inl ⟨by rfl, ?_⟩) (by assumption) ?_
      rotate_left
      · intro w hSw
        try dsimp only at hSw
        obtain ⟨hs0_, hs1_, hs2_⟩ := hSw
        go_simp
        try with_reducible rfl
      try simp only [Act.put]
      refine wpAnyH_take (i := 14) (v := ?_) rfl (by kernel_rfl) (by kernel_rfl) (by kernel_rfl) (fun _ _ _ h => h) (Or.inl ⟨by rfl, ?_⟩) (by assumption) ?_
      rotate_left
      · intro w hSw
        try dsimp only at hSw
        obtain ⟨hs0_, hs1_, hs2_⟩ := hSw
        go_simp
        try with_reducible rfl
      try simp only [Act.put]
      refine wpAnyH_take (i := 15) (v := ?_) rfl (by kernel_rfl) (by kernel_rfl) (by kernel_rfl) (fun _ _ _ h => h) (Or.inl ⟨by rfl, ?_⟩) (by assumption) ?_
      rotate_left
      · intro w hSw
        try dsimp only at hSw
        obtain ⟨hs0_, hs1_, hs2_⟩ := hSw
        go_simp
        try with_reducible rfl
      try simp only [Act.put]
      try simp only [List.getElem_toArray, List.getElem_cons_zero, List.getElem_cons_succ, List.setIfInBounds_toArray, List.set_cons_zero, List.set_cons_succ]
      refine wpAnyH_ready (rs := [16]) (by kernel_rfl) (by simp) ?_
      refine AllReadyH.cons rfl (fun K hK => ?_) ?_
      · go_simp
        refine hK.out _ _ ?_ (fun hHeld => ?_)
        · exact KF.out _ hp2
        clear hK K
        try simp only [Act.put, List.setIfInBounds_toArray, List.set_cons_zero, List.set_cons_succ]
        refine wpAnyH_done (by kernel_rfl) ?_ _
        refine NoPanic.normal ?_
        have hb3 := HB.out.below' hp2
        have hO3 := HO.out.below hp2
        have bR3 := bR2.below' hp2
        rcases HCS.out with ⟨rfl, out, hso, rfl, oE⟩ | ⟨hne, hno⟩
        · have hol := HSL.out _ out hso
          have HN : Hid (res = (passF ⟨q, (hN : Int), (-1), nums ts, nums us, os⟩ (i : Int) (-1) out, 1, 0)) := Lib.hid (by rw [HRES.out]; exact movedF_some (HMP.out out hso))
          obtain ⟨bB2, offB2, heB, _, _, hcsB, hfsB⟩ := hO3.2.1.1.at_ (k := i) (by simpa using hi2)
          cases heB
          have hO4 : FmO (W3.setCell ⟨bB, offB + i, none⟩ (.slice E out.length ec)) W.heap.size (some ⟨bb, off, none⟩) c ts (some ⟨bB, offB, none⟩) d (us.set i ⟨E, ec, out⟩) C k os := HO.out.putR hp2 hUU.out (u := ⟨E, ec, out⟩) rfl oE hp.size (Nat.le_trans hw hp.size)
          have v0 : W3.cell? ⟨g, 0, none⟩ = some (.int .i64 q) := hb3.cell 0
          have v1 : W3.cell? ⟨g, 1, none⟩ = some (.int .i64 (hN : Int)) := hb3.cell 1
          have v2 : W3.cell? ⟨g, 2, none⟩ = some (.int .i64 (-1)) := hb3.cell 2
          have v3 : W3.cell? ⟨g, 3, none⟩ = some (.slice (some ⟨bb, off, none⟩) ts.length c) := hb3.cell 3
          have v4 : W3.cell? ⟨g, 4, none⟩ = some (.slice (some ⟨bB, offB, none⟩) us.length d) := hb3.cell 4
          have v5 : W3.cell? ⟨g, 5, none⟩ = some (.slice C os.length k) := hb3.cell 5
          clear HCS HSH HSL HMP HMU HRES hso KF hcsB
          go_upto_region 20 with fail
          have hb4 := hb3.far (p := ⟨bB, offB + i, none⟩) hgB (.slice E out.length ec)
          have hz4 : Below W.heap.size W2 (W3.setCell ⟨bB, offB + i, none⟩ (.slice E out.length ec)) := (hp2.mono hw).setCell hlB _
          clear v0 v1 v2 v3 v4 v5 hfsB hb3 hO3 bR3
          generalize W3.setCell ⟨bB, offB + i, none⟩ (.slice E out.length ec) = W4 at *
          have v0 : W4.cell? ⟨g, 0, none⟩ = some (.int .i64 q) := hb4.cell 0
          have v1 : W4.cell? ⟨g, 1, none⟩ = some (.int .i64 (hN : Int)) := hb4.cell 1
          have v2 : W4.cell? ⟨g, 2, none⟩ = some (.int .i64 (-1)) := hb4.cell 2
          have v3 : W4.cell? ⟨g, 3, none⟩ = some (.slice (some ⟨bb, off, none⟩) ts.length c) := hb4.cell 3
          have v4 : W4.cell? ⟨g, 4, none⟩ = some (.slice (some ⟨bB, offB, none⟩) us.length d) := hb4.cell 4
          have v5 : W4.cell? ⟨g, 5, none⟩ = some (.slice C os.length k) := hb4.cell 5
          have f0 := hb4.frozen 0
          have f1 := hb4.frozen 1
          have f2 := hb4.frozen 2
          have f3 := hb4.frozen 3
          have f4 := hb4.frozen 4
          have f5 := hb4.frozen 5
          go_upto_region 21 with fail
          rw [HC.out]
          have hO5 := hO4.boxed hb4 (w' := W4.setCell ⟨g, 1, none⟩ (.int .i64 (i : Int))) (fun b hb => Below.heap_setCell _ _ _ _ hb)
          have hz5 : Below W.heap.size W2 (W4.setCell ⟨g, 1, none⟩ (.int .i64 (i : Int))) := hz4.setCell hlg _
          have hb5 : Blk (W4.setCell ⟨g, 1, none⟩ (.int .i64 (i : Int))) g 31 #[.int .i64 q, .int .i64 (i : Int), .int .i64 (-1), .slice (some ⟨bb, off, none⟩) ts.length c, .slice (some ⟨bB, offB, none⟩) us.length d, .slice C os.length k] := hb4.set_ 1 _
          clear v0 v1 v2 v3 v4 v5 f0 f1 f2 f3 f4 f5 hb4 hO4 hz4
          generalize W4.setCell ⟨g, 1, none⟩ (.int .i64 (i : Int)) = W5 at *
          have v0 : W5.cell? ⟨g, 0, none⟩ = some (.int .i64 q) := hb5.cell 0
          have v1 : W5.cell? ⟨g, 1, none⟩ = some (.int .i64 (i : Int)) := hb5.cell 1
          have v2 : W5.cell? ⟨g, 2, none⟩ = some (.int .i64 (-1)) := hb5.cell 2
          have v3 : W5.cell? ⟨g, 3, none⟩ = some (.slice (some ⟨bb, off, none⟩) ts.length c) := hb5.cell 3
          have v4 : W5.cell? ⟨g, 4, none⟩ = some (.slice (some ⟨bB, offB, none⟩) us.length d) := hb5.cell 4
          have v5 : W5.cell? ⟨g, 5, none⟩ = some (.slice C os.length k) := hb5.cell 5
          have f0 := hb5.frozen 0
          have f1 := hb5.frozen 1
          have f2 := hb5.frozen 2
          have f3 := hb5.frozen 3
          have f4 := hb5.frozen 4
          have f5 := hb5.frozen 5
          go_upto_region 22 with fail
          have hO6 := hO5.boxed hb5 (w' := W5.setCell ⟨g, 2, none⟩ (.int .i64 0)) (fun b hb => Below.heap_setCell _ _ _ _ hb)
          have hz6 : Below W.heap.size W2 (W5.setCell ⟨g, 2, none⟩ (.int .i64 0)) := hz5.setCell hlg _
          have hb6 : Blk (W5.setCell ⟨g, 2, none⟩ (.int .i64 0)) g 31 #[.int .i64 q, .int .i64 (i : Int), .int .i64 0, .slice (some ⟨bb, off, none⟩) ts.length c, .slice (some ⟨bB, offB, none⟩) us.length d, .slice C os.length k] := hb5.set_ 2 _
          clear v0 v1 v2 v3 v4 v5 f0 f1 f2 f3 f4 f5 hb5 hO5 hz5
          generalize W5.setCell ⟨g, 2, none⟩ (.int .i64 0) = W6 at *
          have v0 : W6.cell? ⟨g, 0, none⟩ = some (.int .i64 q) := hb6.cell 0
          have v1 : W6.cell? ⟨g, 1, none⟩ = some (.int .i64 (i : Int)) := hb6.cell 1
          have v2 : W6.cell? ⟨g, 2, none⟩ = some (.int .i64 0) := hb6.cell 2
          have v3 : W6.cell? ⟨g, 3, none⟩ = some (.slice (some ⟨bb, off, none⟩) ts.length c) := hb6.cell 3
          have v4 : W6.cell? ⟨g, 4, none⟩ = some (.slice (some ⟨bB, offB, none⟩) us.length d) := hb6.cell 4
          have v5 : W6.cell? ⟨g, 5, none⟩ = some (.slice C os.length k) := hb6.cell 5
          have f0 := hb6.frozen 0
          have f1 := hb6.frozen 1
          have f2 := hb6.frozen 2
          have f3 := hb6.frozen 3
          have f4 := hb6.frozen 4
          have f5 := hb6.frozen 5
          obtain ⟨t2, bb2, off2, hT2, htm2, he2, hbl2, hc2, _⟩ := hO6.1.sii.pick (k := i) (by omega)
          cases he2
          have ht2 : t2.xs.length ≤ 1000 := hS7.out _ (List.mem_map.2 ⟨t2, htm2, rfl⟩)
          have wl : IntKind.i64.wrap ((t2.xs.length : Int) - 1) = (t2.xs.length : Int) - 1 := IntWalk.i64_in _ (by omega)
          go_upto_region 24 with fail
          have hO8 := hO6.boxed hb6 (w' := W6.setCell ⟨g, 2, none⟩ (.int .i64 ((t2.xs.length : Int) - 1))) (fun b hb => Below.heap_setCell _ _ _ _ hb)
          have hz8 : Below W.heap.size W2 (W6.setCell ⟨g, 2, none⟩ (.int .i64 ((t2.xs.length : Int) - 1))) := hz6.setCell hlg _
          have hb8 : Blk (W6.setCell ⟨g, 2, none⟩ (.int .i64 ((t2.xs.length : Int) - 1))) g 31 #[.int .i64 q, .int .i64 (i : Int), .int .i64 ((t2.xs.length : Int) - 1), .slice (some ⟨bb, off, none⟩) ts.length c, .slice (some ⟨bB, offB, none⟩) us.length d, .slice C os.length k] := hb6.set_ 2 _
          clear v0 v1 v2 v3 v4 v5 f0 f1 f2 f3 f4 f5 hb6 hO6 hz6 hc2 hbl2
          generalize W6.setCell ⟨g, 2, none⟩ (.int .i64 ((t2.xs.length : Int) - 1)) = W8 at *
          have hF8 : FmBox W8 W.heap.size g ⟨q, (i : Int), (t2.xs.length : Int) - 1, nums ts, (nums us).set i out, os⟩ := ⟨_, c, ts, _, d, us.set i ⟨E, ec, out⟩, C, k, by rw [List.length_set]; exact hb8, ⟨hO8, rfl, nums_set _ _ _⟩, hlg⟩
          have hsz8 : FmSz ⟨q, (i : Int), (t2.xs.length : Int) - 1, nums ts, (nums us).set i out, os⟩ := by
            obtain ⟨p1, p2, p3, p4, p5, p6, p7, p8, p9, p10⟩ := HSZ.out
            refine ⟨by show (0 : Int) ≤ (i : Int); omega, ?_, by rw [List.length_set]; exact p3, by rw [List.length_set]; exact p4, by rw [List.length_set]; exact p5, by rw [List.length_set]; exact p6, p7, ?_, ?_, ?_⟩
            · show (i : Int) ≤ (((nums us).set i out).length : Int)
              rw [List.length_set, nums_len]; omega
            · intro y hy
              rcases List.mem_or_eq_of_mem_set hy with hh | hh
              · exact p8 y hh
              · rw [hh]; omega
            · show -1 ≤ (t2.xs.length : Int) - 1
              omega
            · show (t2.xs.length : Int) - 1 ≤ 1000
              omega
          have hal8 : (⟨q, (i : Int), (t2.xs.length : Int) - 1, nums ts, (nums us).set i out, os⟩ : Fm).a ≤ ((rowAt (⟨q, (i : Int), (t2.xs.length : Int) - 1, nums ts, (nums us).set i out, os⟩ : Fm).W (⟨q, (i : Int), (t2.xs.length : Int) - 1, nums ts, (nums us).set i out, os⟩ : Fm).h).length : Int) := by
            show (t2.xs.length : Int) - 1 ≤ ((rowAt (nums ts) (i : Int)).length : Int)
            rw [rowAt_eq hT2.out]; omega
          have HST := Lib.hid (l27Settle_any g W.heap.size _ W8 hF8 hsz8 hal8)
          have HWE : Hid (widenF ⟨q, (i : Int), (t2.xs.length : Int) - 1, nums ts, (nums us).set i out, os⟩ = passF ⟨q, (hN : Int), (-1), nums ts, nums us, os⟩ (i : Int) (-1) out) := Lib.hid (by
            unfold passF
            dsimp only
            rw [if_neg (by decide), if_pos rfl, rowAt_eq hT2.out, Int.toNat_natCast])
          rw [HWE.out] at HST
          clear hF8 hsz8 hb8 hO8 hal8 HWE
          generalize passF ⟨q, (hN : Int), (-1), nums ts, nums us, os⟩ (i : Int) (-1) out = gf at *
          obtain rfl := HN.out
          go_wp2_with fail
          refine HST.out.mono ?_
          rintro e W9 ⟨⟨uu, rfl⟩, hF9, hz9, fr9⟩
          have z29 : Below W.heap.size W2 W9 := hz8.trans hz9
          have z09 : Below W.heap.size W W9 := z02.trans (z29.mono (Nat.le_refl _))
          have bR9 := bR.below' z09
          have y9 : Below w.heap.size w W9 := y0.trans (z09.mono y0.size)
          obtain ⟨A', c', ts', B', d', us', C', k', hb', hR', hl'⟩ := hF9
          obtain ⟨q', h', a', FW', FR', os'⟩ := gf
          dsimp only at hb' hR' ⊢
          have v0 : W9.cell? ⟨g, 0, none⟩ = some (.int .i64 q') := hb'.cell 0
          have v1 : W9.cell? ⟨g, 1, none⟩ = some (.int .i64 h') := hb'.cell 1
          have v2 : W9.cell? ⟨g, 2, none⟩ = some (.int .i64 a') := hb'.cell 2
          have v3 : W9.cell? ⟨g, 3, none⟩ = some (.slice A' ts'.length c') := hb'.cell 3
          have v4 : W9.cell? ⟨g, 4, none⟩ = some (.slice B' us'.length d') := hb'.cell 4
          have v5 : W9.cell? ⟨g, 5, none⟩ = some (.slice C' os'.length k') := hb'.cell 5
          have x0 : W9.cell? ⟨w.heap.size, 0, none⟩ = some (.int .i64 0) := bR9.cell 0
          have x1 : W9.cell? ⟨w.heap.size, 1, none⟩ = some (.int .i64 0) := bR9.cell 1
          have x2 : W9.cell? ⟨w.heap.size, 2, none⟩ = some (.int .i64 0) := bR9.cell 2
          have x3 : W9.cell? ⟨w.heap.size, 3, none⟩ = some (.slice none 0 0) := bR9.cell 3
          have x4 : W9.cell? ⟨w.heap.size, 4, none⟩ = some (.slice none 0 0) := bR9.cell 4
          have x5 : W9.cell? ⟨w.heap.size, 5, none⟩ = some (.slice none 0 0) := bR9.cell 5
          have f0 := bR9.frozen 0
          have f1 := bR9.frozen 1
          have f2 := bR9.frozen 2
          have f3 := bR9.frozen 3
          have f4 := bR9.frozen 4
          have f5 := bR9.frozen 5
          have hgn : g ≠ w.heap.size := by omega
          go_wp2_with fail
          clear x0 x1 x2 x3 x4 x5 v0 v1 v2 v3 v4 v5
          have dC : Blk ((((((W9.setCell ⟨w.heap.size, 0, none⟩ (.int .i64 q')).setCell ⟨w.heap.size, 1, none⟩ (.int .i64 h')).setCell ⟨w.heap.size, 2, none⟩ (.int .i64 a')).setCell ⟨w.heap.size, 3, none⟩ (.slice A' ts'.length c')).setCell ⟨w.heap.size, 4, none⟩ (.slice B' us'.length d')).setCell ⟨w.heap.size, 5, none⟩ (.slice C' os'.length k')) w.heap.size 31 #[.int .i64 q', .int .i64 h', .int .i64 a', .slice A' ts'.length c', .slice B' us'.length d', .slice C' os'.length k'] := fm_set bR9 (.int .i64 q') (.int .i64 h') (.int .i64 a') (.slice A' ts'.length c') (.slice B' us'.length d') (.slice C' os'.length k')
          have yT : ∀ (lo : Nat) (w0 : World), Below lo w0 W9 → lo ≤ w.heap.size → Below lo w0 ((((((W9.setCell ⟨w.heap.size, 0, none⟩ (.int .i64 q')).setCell ⟨w.heap.size, 1, none⟩ (.int .i64 h')).setCell ⟨w.heap.size, 2, none⟩ (.int .i64 a')).setCell ⟨w.heap.size, 3, none⟩ (.slice A' ts'.length c')).setCell ⟨w.heap.size, 4, none⟩ (.slice B' us'.length d')).setCell ⟨w.heap.size, 5, none⟩ (.slice C' os'.length k')) := fun lo w0 h hl => fm_below h hl (.int .i64 q') (.int .i64 h') (.int .i64 a') (.slice A' ts'.length c') (.slice B' us'.length d') (.slice C' os'.length k')
          have kT : ∀ k, k ≠ w.heap.size → ((((((W9.setCell ⟨w.heap.size, 0, none⟩ (.int .i64 q')).setCell ⟨w.heap.size, 1, none⟩ (.int .i64 h')).setCell ⟨w.heap.size, 2, none⟩ (.int .i64 a')).setCell ⟨w.heap.size, 3, none⟩ (.slice A' ts'.length c')).setCell ⟨w.heap.size, 4, none⟩ (.slice B' us'.length d')).setCell ⟨w.heap.size, 5, none⟩ (.slice C' os'.length k')).heap[k]? = W9.heap[k]? := fun k hk => fm_kept (.int .i64 q') (.int .i64 h') (.int .i64 a') (.slice A' ts'.length c') (.slice B' us'.length d') (.slice C' os'.length k') k hk
          generalize (((((W9.setCell ⟨w.heap.size, 0, none⟩ (.int .i64 q')).setCell ⟨w.heap.size, 1, none⟩ (.int .i64 h')).setCell ⟨w.heap.size, 2, none⟩ (.int .i64 a')).setCell ⟨w.heap.size, 3, none⟩ (.slice A' ts'.length c')).setCell ⟨w.heap.size, 4, none⟩ (.slice B' us'.length d')).setCell ⟨w.heap.size, 5, none⟩ (.slice C' os'.length k') = wg at *
          have x0 : wg.cell? ⟨w.heap.size, 0, none⟩ = some (.int .i64 q') := dC.cell 0
          have x1 : wg.cell? ⟨w.heap.size, 1, none⟩ = some (.int .i64 h') := dC.cell 1
          have x2 : wg.cell? ⟨w.heap.size, 2, none⟩ = some (.int .i64 a') := dC.cell 2
          have x3 : wg.cell? ⟨w.heap.size, 3, none⟩ = some (.slice A' ts'.length c') := dC.cell 3
          have x4 : wg.cell? ⟨w.heap.size, 4, none⟩ = some (.slice B' us'.length d') := dC.cell 4
          have x5 : wg.cell? ⟨w.heap.size, 5, none⟩ = some (.slice C' os'.length k') := dC.cell 5
          have hRf : FmR wg w.heap.size ⟨q', h', a', FW', FR', os'⟩ A' c' ts' B' d' us' C' k' := ⟨(hR'.1.far bR9 (by decide) (by decide) kT).mono y0.size, hR'.2⟩
          have hres : NewFmI3 w (⟨q', h', a', FW', FR', os'⟩, 1, 0) (.returned (.tuple #[.agg #[.int .i64 q', .int .i64 h', .int .i64 a', .slice A' ts'.length c', .slice B' us'.length d', .slice C' os'.length k'], .int .i64 1, .int .i64 0])) wg := ⟨A', c', ts', B', d', us', C', k', rfl, hRf, yT _ _ y9 (Nat.le_refl _)⟩
          exact bodyPost_ret (v := .tuple #[.agg #[.int .i64 q', .int .i64 h', .int .i64 a', .slice A' ts'.length c', .slice B' us'.length d', .slice C' os'.length k'], .int .i64 1, .int .i64 0]) (by simp [results, Try.results181, go_sem, x0, x1, x2, x3, x4, x5]) rfl hres
        · have HN : Hid (res = (unrollF ⟨q, (hN : Int), (-1), nums ts, nums us, os⟩ (i : Int) (-1), 2, 0)) := Lib.hid (by rw [HRES.out]; exact movedF_some (HMU.out hno))
          have KG : Hid (∀ W', Below W2.heap.size W2 W' → W'.cell? ⟨g, 3, none⟩ = some (.slice (some ⟨bb, off, none⟩) ts.length c) ∧ W'.cell? ⟨g, 1, none⟩ = some (.int .i64 (hN : Int)) ∧ W'.cell? ⟨g, 4, none⟩ = some (.slice (some ⟨bB, offB, none⟩) us.length d) ∧ W'.cell? ⟨bB, offB + i, none⟩ = some (.slice u.A u.xs.length u.c)) := Lib.hid (fun W' z => ⟨(HB.out.below' z).cell 3, (HB.out.below' z).cell 1, (KF.out _ z).2.1, (KF.out _ z).2.2⟩)
          have hos : os.length = us.length := by have h4 : os.length = (nums us).length := HSZ.out.2.2.2.1; rw [nums_len] at h4; exact h4
          have hio : i < os.length := by omega
          have HOS := Lib.hid hos
          clear hos HCS HSH HSL HMP HMU HRES hno hb3 hO3 bR3
          go_upto_region 28 with fail
          have hq : Below W2.heap.size W2 W3.drew := hp2.trans ((below_drewN (Below.refl W3.heap.size W3) 1).mono hp2.size)
          refine wp_region_noPanic ?_
          refine wp_region_held_drew (S := (fun w' => w'.cell? ⟨g, 3, none⟩ = some (.slice (some ⟨bb, off, none⟩) ts.length c) ∧ w'.cell? ⟨g, 1, none⟩ = some (.int .i64 (hN : Int)) ∧ w'.cell? ⟨g, 4, none⟩ = some (.slice (some ⟨bB, offB, none⟩) us.length d) ∧ w'.cell? ⟨bB, offB + i, none⟩ = some (.slice u.A u.xs.length u.c))) (by kernel_rfl) ?_ (fun hHeld => ?_)
          · exact KG.out _ hq
          generalize W3.drew = Wy at *
          refine wpAnyH_take (i := 0) (v := ?_) rfl (by kernel_rfl) (by kernel_rfl) (by kernel_rfl) (fun _ _ _ h => h) (Or.inl ⟨by rfl, ?_⟩) (by assumption) ?_
          rotate_left
          · intro w hSw
            try dsimp only at hSw
            obtain ⟨hs0_, hs1_, hs2_, hs3_⟩ := hSw
            go_simp
            try with_reducible rfl
          try simp only [Act.put, List.setIfInBounds_toArray]
          refine wpAnyH_take (i := 1) (v := ?_) rfl (by kernel_rfl) (by kernel_rfl) (by kernel_rfl) (fun _ _ _ h => h) (Or.inl ⟨by rfl, ?_⟩) (by assumption) ?_
          rotate_left
          · intro w hSw
            try dsimp only at hSw
            obtain ⟨hs0_, hs1_, hs2_, hs3_⟩ := hSw
            go_simp
            try with_reducible rfl
          try simp only [Act.put]
          refine wpAnyH_take (i := 2) (v := ?_) rfl (by kernel_rfl) (by kernel_rfl) (by kernel_rfl) (fun _ _ _ h => h) (Or.inl ⟨by rfl, ?_⟩) (by assumption) ?_
          rotate_left
          · intro w hSw
            try dsimp only at hSw
            obtain ⟨hs0_, hs1_, hs2_, hs3_⟩ := hSw
            go_simp
            try with_reducible rfl
          try simp only [Act.put]
          refine wpAnyH_take (i := 3) (v := ?_) rfl (by kernel_rfl) (by kernel_rfl) (by kernel_rfl) (fun _ _ _ h => h) (Or.inl ⟨by rfl, ?_⟩) (by assumption) ?_
          rotate_left
          · intro w hSw
            try dsimp only at hSw
            obtain ⟨hs0_, hs1_, hs2_, hs3_⟩ := hSw
            go_simp
            try with_reducible rfl
          try simp only [Act.put]
          refine wpAnyH_take (i := 4) (v := ?_) rfl (by kernel_rfl) (by kernel_rfl) (by kernel_rfl) (fun _ _ _ h => h) (Or.inl ⟨by rfl, ?_⟩) (by assumption) ?_
          rotate_left
          · intro w hSw
            try dsimp only at hSw
            obtain ⟨hs0_, hs1_, hs2_, hs3_⟩ := hSw
            go_simp
            try with_reducible rfl
          try simp only [Act.put]
          refine wpAnyH_take (i := 5) (v := ?_) rfl (by kernel_rfl) (by kernel_rfl) (by kernel_rfl) (fun _ _ _ h => h) (Or.inl ⟨by rfl, ?_⟩) (by assumption) ?_
          rotate_left
          · intro w hSw
            try dsimp only at hSw
            obtain ⟨hs0_, hs1_, hs2_, hs3_⟩ := hSw
            go_simp
            try with_reducible rfl
          try simp only [Act.put]
          refine wpAnyH_take (i := 6) (v := ?_) rfl (by kernel_rfl) (by kernel_rfl) (by kernel_rfl) (fun _ _ _ h => h) (Or.inl ⟨by rfl, ?_⟩) (by assumption) ?_
          rotate_left
          · intro w hSw
            try dsimp only at hSw
            obtain ⟨hs0_, hs1_, hs2_, hs3_⟩ := hSw
            go_simp
            try with_reducible rfl
          try simp only [Act.put]
          refine wpAnyH_take (i := 7) (v := ?_) rfl (by kernel_rfl) (by kernel_rfl) (by kernel_rfl) (fun _ _ _ h => h) (Or.inl ⟨by rfl, ?_⟩) (by assumption) ?_
          rotate_left
          · intro w hSw
            try dsimp only at hSw
            obtain ⟨hs0_, hs1_, hs2_, hs3_⟩ := hSw
            go_simp
            try with_reducible rfl
          try simp only [Act.put]
          refine wpAnyH_take (i := 8) (v := ?_) rfl (by kernel_rfl) (by kernel_rfl) (by kernel_rfl) (fun _ _ _ h => h) (Or.inl ⟨by rfl, ?_⟩) (by assumption) ?_
          rotate_left
          · intro w hSw
            try dsimp only at hSw
            obtain ⟨hs0_, hs1_, hs2_, hs3_⟩ := hSw
            go_simp
            try with_reducible rfl
          try simp only [Act.put]
          refine wpAnyH_take (i := 10) (v := ?_) rfl (by kernel_rfl) (by kernel_rfl) (by kernel_rfl) (fun _ _ _ h => h) (Or.inl ⟨by rfl, ?_⟩) (by assumption) ?_
          rotate_left
          · intro w hSw
            try dsimp only at hSw
            obtain ⟨hs0_, hs1_, hs2_, hs3_⟩ := hSw
            go_simp
            try with_reducible rfl
          try simp only [Act.put]
          try simp only [List.getElem_toArray, List.getElem_cons_zero, List.getElem_cons_succ, List.setIfInBounds_toArray, List.set_cons_zero, List.set_cons_succ]
          refine wpAnyH_ready (rs := [9]) (by kernel_rfl) (by simp) ?_
          refine AllReadyH.cons rfl (fun K hK => ?_) ?_
          · go_simp
            refine (l00Own_any _ _ _ u.xs _ (HRW.out _ hq) (by omega)).mono ?_
            rintro e V4 ⟨E2, ec2, rfl, oE2, z4⟩
            have hq4 := hq.trans (z4.mono hq.size)
            have oE3 := oE2.mono (lo' := W2.heap.size) hq.size
            have hS := KG.out _ hq4
            refine hK.out _ _ ?_ (fun hHeld => ?_)
            · exact hS
            clear hK K
            try simp only [Act.put, List.setIfInBounds_toArray, List.set_cons_zero, List.set_cons_succ]
            try simp only [putAll, markAll, dstAt, Act.put, List.getElem_toArray, List.getElem?_toArray, List.getElem_cons_zero, List.getElem_cons_succ, List.getElem?_cons_zero, List.getElem?_cons_succ, Option.bind_some, List.setIfInBounds_toArray, List.set_cons_zero, List.set_cons_succ]
            refine wpAnyH_ready (rs := [11]) (by kernel_rfl) (by simp) ?_
            refine AllReadyH.cons rfl (fun K hK => ?_) ?_
            · rw [if_pos (by rfl)]
              refine wp_append_Own (.tmp 144) (.tmp 145) rfl elI (lo := W2.heap.size) rfl oE3 rfl (HRT.out _ hq4) (ints_one _) (by omega) (by simp only [maxLen]; omega) hq4.size ?_
              intro A8 c8 w8 ho8 hg8 hw8
              have hp8 : Below W2.heap.size W2 w8 := oE3.below_of hq4 hg8 hq4.size
              have hb8 := HB.out.below' hp8
              have hO8 := HO.out.below hp8
              obtain ⟨bb2, off2, he, _, _, hcs, hfs⟩ := hO8.1.1.at_ (k := hN) (by simp; omega)
              cases he
              have hO9 : FmO (w8.setCell ⟨bb, off + hN, none⟩ (.slice A8 (u.xs.length + t.xs.length) c8)) W.heap.size (some ⟨bb, off, none⟩) c (ts.set hN ⟨A8, c8, u.xs ++ t.xs⟩) (some ⟨bB, offB, none⟩) d us C k os := by
                have := HO.out.putW hp8 HTT.out (u := ⟨A8, c8, u.xs ++ t.xs⟩) rfl (by simpa [ints] using ho8) (Nat.le_refl _) hw
                simpa [Sl.val] using this
              have hS := KG.out _ hp8
              refine hK.out _ _ ?_ (fun hHeld => ?_)
              · exact hS
              clear hK K
              try simp only [Act.put, List.setIfInBounds_toArray]
              refine wpAnyH_take (i := 12) (v := ?_) rfl (by kernel_rfl) (by kernel_rfl) (by kernel_rfl) (fun _ _ _ h => h) (Or.inl ⟨by rfl, ?_⟩) (by assumption) ?_
              rotate_left
              · intro w hSw
                try dsimp only at hSw
                obtain ⟨hs0_, hs1_, hs2_, hs3_⟩ := hSw
                go_simp
                try with_reducible rfl
              try simp only [Act.put]
              try simp only [List.getElem_toArray, List.getElem_cons_zero, List.getElem_cons_succ, List.setIfInBounds_toArray, List.set_cons_zero, List.set_cons_succ]
              refine wpAnyH_ready (rs := [13]) (by kernel_rfl) (by simp) ?_
              refine AllReadyH.cons rfl (fun K hK => ?_) ?_
              · go_simp
                have hbd := hb8.far (p := ⟨bb, off + hN, none⟩) hgb (.slice A8 (u.xs.length + t.xs.length) c8)
                have hz9 : Below W.heap.size W2 (w8.setCell ⟨bb, off + hN, none⟩ (.slice A8 (u.xs.length + t.xs.length) c8)) := (hp8.mono hw).setCell hlA _
                have hcB9 : (w8.setCell ⟨bb, off + hN, none⟩ (.slice A8 (u.xs.length + t.xs.length) c8)).cell? ⟨bB, offB + i, none⟩ = some (.slice u.A u.xs.length u.c) := by
                  rw [World.cell?_of_block (Below.heap_setCell _ _ _ _ (Ne.symm hAB))]; exact (KF.out _ hp8).2.2
                generalize w8.setCell ⟨bb, off + hN, none⟩ (.slice A8 (u.xs.length + t.xs.length) c8) = V9 at *
                have hS : _ ∧ _ ∧ _ ∧ _ := ⟨hbd.cell 3, hbd.cell 1, hbd.cell 4, hcB9⟩
                refine hK.out _ _ ?_ (fun hHeld => ?_)
                · exact hS
                clear hK K
                try simp only [Act.put, List.setIfInBounds_toArray]
                refine wpAnyH_done (by kernel_rfl) ?_ _
                refine NoPanic.normal ?_
                obtain ⟨x, hx⟩ : ∃ x, x = os.getD i 0 := ⟨_, rfl⟩
                have hxe : os[i]? = some x := by rw [hx, List.getD_eq_getElem?_getD, List.getElem?_eq_getElem hio]; rfl
                obtain ⟨hx0, hx1⟩ := HOFF.out x (List.mem_of_getElem? hxe)
                have HX := Lib.hid hx
                have HXE := Lib.hid hxe
                clear hx hxe hS KG KF HB HO
                have wx : IntKind.i64.wrap (x - 1) = x - 1 := IntWalk.i64_in _ (by omega)
                have v0 : V9.cell? ⟨g, 0, none⟩ = some (.int .i64 q) := hbd.cell 0
                have v1 : V9.cell? ⟨g, 1, none⟩ = some (.int .i64 (hN : Int)) := hbd.cell 1
                have v2 : V9.cell? ⟨g, 2, none⟩ = some (.int .i64 (-1)) := hbd.cell 2
                have v3 : V9.cell? ⟨g, 3, none⟩ = some (.slice (some ⟨bb, off, none⟩) ts.length c) := hbd.cell 3
                have v4 : V9.cell? ⟨g, 4, none⟩ = some (.slice (some ⟨bB, offB, none⟩) us.length d) := hbd.cell 4
                have v5 : V9.cell? ⟨g, 5, none⟩ = some (.slice C os.length k) := hbd.cell 5
                have f0 := hbd.frozen 0
                have f1 := hbd.frozen 1
                have f2 := hbd.frozen 2
                have f3 := hbd.frozen 3
                have f4 := hbd.frozen 4
                have f5 := hbd.frozen 5
                have wl : IntKind.i64.wrap ((u.xs.length : Int) - 1) = (u.xs.length : Int) - 1 := IntWalk.i64_in _ (by omega)
                go_upto_region 30 with fail
                have hO10 := hO9.boxed hbd (w' := V9.setCell ⟨g, 2, none⟩ (.int .i64 ((u.xs.length : Int) - 1))) (fun b hb => Below.heap_setCell _ _ _ _ hb)
                have hz10 : Below W.heap.size W2 (V9.setCell ⟨g, 2, none⟩ (.int .i64 ((u.xs.length : Int) - 1))) := hz9.setCell hlg _
                have hb10 : Blk (V9.setCell ⟨g, 2, none⟩ (.int .i64 ((u.xs.length : Int) - 1))) g 31 #[.int .i64 q, .int .i64 (hN : Int), .int .i64 ((u.xs.length : Int) - 1), .slice (some ⟨bb, off, none⟩) ts.length c, .slice (some ⟨bB, offB, none⟩) us.length d, .slice C os.length k] := hbd.set_ 2 _
                clear v0 v1 v2 v3 v4 v5 f0 f1 f2 f3 f4 f5 hbd hO9 hz9 hcB9
                generalize V9.setCell ⟨g, 2, none⟩ (.int .i64 ((u.xs.length : Int) - 1)) = V10 at *
                obtain ⟨bC, offC, hCe, hlC, hCl, hcC, hfC⟩ := hO10.2.2.1.at_ (k := i) (by simpa [ints] using hio)
                have hcC2 : V10.cell? ⟨bC, offC + i, none⟩ = some (.int .i64 x) := by
                  rw [hcC]
                  have := HXE.out
                  rw [List.getElem?_eq_getElem hio] at this
                  simp [ints, Option.some.inj this]
                have hgC : g ≠ bC := fun e => hb10.aptt hO10.2.2.1 (by decide) (by rw [hCe, e]; rfl)
                subst hCe
                clear hcC
                have o2 : (i : Int) < (os.length : Int) := by omega
                have v0 : V10.cell? ⟨g, 0, none⟩ = some (.int .i64 q) := hb10.cell 0
                have v1 : V10.cell? ⟨g, 1, none⟩ = some (.int .i64 (hN : Int)) := hb10.cell 1
                have v2 : V10.cell? ⟨g, 2, none⟩ = some (.int .i64 ((u.xs.length : Int) - 1)) := hb10.cell 2
                have v3 : V10.cell? ⟨g, 3, none⟩ = some (.slice (some ⟨bb, off, none⟩) ts.length c) := hb10.cell 3
                have v4 : V10.cell? ⟨g, 4, none⟩ = some (.slice (some ⟨bB, offB, none⟩) us.length d) := hb10.cell 4
                have v5 : V10.cell? ⟨g, 5, none⟩ = some (.slice (some ⟨bC, offC, none⟩) os.length k) := hb10.cell 5
                go_upto_region 31 with fail
                have hO11 := hO10.setO hio rfl (x - 1)
                have hb11 := hb10.far (p := ⟨bC, offC + i, none⟩) hgC (.int .i64 (x - 1))
                have hz11 : Below W.heap.size W2 (V10.setCell ⟨bC, offC + i, none⟩ (.int .i64 (x - 1))) := hz10.setCell hlC _
                clear v0 v1 v2 v3 v4 v5 hb10 hO10 hz10 hfC hcC2
                generalize V10.setCell ⟨bC, offC + i, none⟩ (.int .i64 (x - 1)) = W9 at *
                have hF9 : FmBox W9 W.heap.size g (unrollF ⟨q, (hN : Int), (-1), nums ts, nums us, os⟩ (i : Int) (-1)) := by
                  have e : unrollF ⟨q, (hN : Int), (-1), nums ts, nums us, os⟩ (i : Int) (-1) = ⟨q, (hN : Int), ((u.xs.length : Int) - 1), (nums ts).set hN (u.xs ++ t.xs), nums us, os.set i (x - 1)⟩ := by
                    unfold unrollF
                    dsimp only
                    rw [if_neg (by decide), show ((i : Int) + 1) = (hN : Int) by have := HII.out; omega, rowAt_eq HTT.out, HRR.out, Int.toNat_natCast, Int.toNat_natCast, ← HX.out]
                  rw [e]
                  exact ⟨_, c, ts.set hN ⟨A8, c8, u.xs ++ t.xs⟩, _, d, us, _, k, by rw [List.length_set, List.length_set]; exact hb11, ⟨hO11, nums_set _ _ _, rfl⟩, hlg⟩
                have z09 : Below W.heap.size W W9 := z02.trans (hz11.mono (Nat.le_refl _))
                clear hb11 hO11 HOFF HXE HX
                generalize unrollF ⟨q, (hN : Int), (-1), nums ts, nums us, os⟩ (i : Int) (-1) = gf at *
                obtain rfl := HN.out
                have bR9 := bR.below' z09
                have y9 : Below w.heap.size w W9 := y0.trans (z09.mono y0.size)
                obtain ⟨A', c', ts', B', d', us', C', k', hb', hR', hl'⟩ := hF9
                obtain ⟨q', h', a', FW', FR', os'⟩ := gf
                dsimp only at hb' hR' ⊢
                have v0 : W9.cell? ⟨g, 0, none⟩ = some (.int .i64 q') := hb'.cell 0
                have v1 : W9.cell? ⟨g, 1, none⟩ = some (.int .i64 h') := hb'.cell 1
                have v2 : W9.cell? ⟨g, 2, none⟩ = some (.int .i64 a') := hb'.cell 2
                have v3 : W9.cell? ⟨g, 3, none⟩ = some (.slice A' ts'.length c') := hb'.cell 3
                have v4 : W9.cell? ⟨g, 4, none⟩ = some (.slice B' us'.length d') := hb'.cell 4
                have v5 : W9.cell? ⟨g, 5, none⟩ = some (.slice C' os'.length k') := hb'.cell 5
                have x0 : W9.cell? ⟨w.heap.size, 0, none⟩ = some (.int .i64 0) := bR9.cell 0
                have x1 : W9.cell? ⟨w.heap.size, 1, none⟩ = some (.int .i64 0) := bR9.cell 1
                have x2 : W9.cell? ⟨w.heap.size, 2, none⟩ = some (.int .i64 0) := bR9.cell 2
                have x3 : W9.cell? ⟨w.heap.size, 3, none⟩ = some (.slice none 0 0) := bR9.cell 3
                have x4 : W9.cell? ⟨w.heap.size, 4, none⟩ = some (.slice none 0 0) := bR9.cell 4
                have x5 : W9.cell? ⟨w.heap.size, 5, none⟩ = some (.slice none 0 0) := bR9.cell 5
                have f0 := bR9.frozen 0
                have f1 := bR9.frozen 1
                have f2 := bR9.frozen 2
                have f3 := bR9.frozen 3
                have f4 := bR9.frozen 4
                have f5 := bR9.frozen 5
                have hgn : g ≠ w.heap.size := by omega
                go_wp2_with fail
                clear x0 x1 x2 x3 x4 x5 v0 v1 v2 v3 v4 v5
                have dC : Blk ((((((W9.setCell ⟨w.heap.size, 0, none⟩ (.int .i64 q')).setCell ⟨w.heap.size, 1, none⟩ (.int .i64 h')).setCell ⟨w.heap.size, 2, none⟩ (.int .i64 a')).setCell ⟨w.heap.size, 3, none⟩ (.slice A' ts'.length c')).setCell ⟨w.heap.size, 4, none⟩ (.slice B' us'.length d')).setCell ⟨w.heap.size, 5, none⟩ (.slice C' os'.length k')) w.heap.size 31 #[.int .i64 q', .int .i64 h', .int .i64 a', .slice A' ts'.length c', .slice B' us'.length d', .slice C' os'.length k'] := fm_set bR9 (.int .i64 q') (.int .i64 h') (.int .i64 a') (.slice A' ts'.length c') (.slice B' us'.length d') (.slice C' os'.length k')
                have yT : ∀ (lo : Nat) (w0 : World), Below lo w0 W9 → lo ≤ w.heap.size → Below lo w0 ((((((W9.setCell ⟨w.heap.size, 0, none⟩ (.int .i64 q')).setCell ⟨w.heap.size, 1, none⟩ (.int .i64 h')).setCell ⟨w.heap.size, 2, none⟩ (.int .i64 a')).setCell ⟨w.heap.size, 3, none⟩ (.slice A' ts'.length c')).setCell ⟨w.heap.size, 4, none⟩ (.slice B' us'.length d')).setCell ⟨w.heap.size, 5, none⟩ (.slice C' os'.length k')) := fun lo w0 h hl => fm_below h hl (.int .i64 q') (.int .i64 h') (.int .i64 a') (.slice A' ts'.length c') (.slice B' us'.length d') (.slice C' os'.length k')
                have kT : ∀ k, k ≠ w.heap.size → ((((((W9.setCell ⟨w.heap.size, 0, none⟩ (.int .i64 q')).setCell ⟨w.heap.size, 1, none⟩ (.int .i64 h')).setCell ⟨w.heap.size, 2, none⟩ (.int .i64 a')).setCell ⟨w.heap.size, 3, none⟩ (.slice A' ts'.length c')).setCell ⟨w.heap.size, 4, none⟩ (.slice B' us'.length d')).setCell ⟨w.heap.size, 5, none⟩ (.slice C' os'.length k')).heap[k]? = W9.heap[k]? := fun k hk => fm_kept (.int .i64 q') (.int .i64 h') (.int .i64 a') (.slice A' ts'.length c') (.slice B' us'.length d') (.slice C' os'.length k') k hk
                generalize (((((W9.setCell ⟨w.heap.size, 0, none⟩ (.int .i64 q')).setCell ⟨w.heap.size, 1, none⟩ (.int .i64 h')).setCell ⟨w.heap.size, 2, none⟩ (.int .i64 a')).setCell ⟨w.heap.size, 3, none⟩ (.slice A' ts'.length c')).setCell ⟨w.heap.size, 4, none⟩ (.slice B' us'.length d')).setCell ⟨w.heap.size, 5, none⟩ (.slice C' os'.length k') = wg at *
                have x0 : wg.cell? ⟨w.heap.size, 0, none⟩ = some (.int .i64 q') := dC.cell 0
                have x1 : wg.cell? ⟨w.heap.size, 1, none⟩ = some (.int .i64 h') := dC.cell 1
                have x2 : wg.cell? ⟨w.heap.size, 2, none⟩ = some (.int .i64 a') := dC.cell 2
                have x3 : wg.cell? ⟨w.heap.size, 3, none⟩ = some (.slice A' ts'.length c') := dC.cell 3
                have x4 : wg.cell? ⟨w.heap.size, 4, none⟩ = some (.slice B' us'.length d') := dC.cell 4
                have x5 : wg.cell? ⟨w.heap.size, 5, none⟩ = some (.slice C' os'.length k') := dC.cell 5
                have hRf : FmR wg w.heap.size ⟨q', h', a', FW', FR', os'⟩ A' c' ts' B' d' us' C' k' := ⟨(hR'.1.far bR9 (by decide) (by decide) kT).mono y0.size, hR'.2⟩
                have hres : NewFmI3 w (⟨q', h', a', FW', FR', os'⟩, 2, 0) (.returned (.tuple #[.agg #[.int .i64 q', .int .i64 h', .int .i64 a', .slice A' ts'.length c', .slice B' us'.length d', .slice C' os'.length k'], .int .i64 2, .int .i64 0])) wg := ⟨A', c', ts', B', d', us', C', k', rfl, hRf, yT _ _ y9 (Nat.le_refl _)⟩
                exact bodyPost_ret (v := .tuple #[.agg #[.int .i64 q', .int .i64 h', .int .i64 a', .slice A' ts'.length c', .slice B' us'.length d', .slice C' os'.length k'], .int .i64 2, .int .i64 0]) (by simp [results, Try.results181, go_sem, x0, x1, x2, x3, x4, x5]) rfl hres
              exact AllReadyH.nil
            exact AllReadyH.nil
          exact AllReadyH.nil
      exact AllReadyH.nil
    exact AllReadyH.nil
  · replace hca : ¬ a = -1 := hca
    replace hcc : (i : Int) = (hN : Int) := hcc
    obtain rfl : hN = i := by omega
    obtain rfl : a = (t.xs.length : Int) := by
      have h1 := hon
      unfold onB at h1
      dsimp only at h1
      rw [hrw] at h1
      unfold inB at h1
      simp at h1
      omega
    have hmv : (∀ out, shiftF sy rs q u.xs 1 = some out → moveF sy rs ⟨q, (hN : Int), (t.xs.length : Int), nums ts, nums us, os⟩ = some (passF ⟨q, (hN : Int), (t.xs.length : Int), nums ts, nums us, os⟩ (hN : Int) 1 out, 1)) ∧ (shiftF sy rs q u.xs 1 = none → moveF sy rs ⟨q, (hN : Int), (t.xs.length : Int), nums ts, nums us, os⟩ = some (unrollF ⟨q, (hN : Int), (t.xs.length : Int), nums ts, nums us, os⟩ (hN : Int) 1, 2)) := by
      refine ⟨fun out ho => ?_, fun ho => ?_⟩ <;>
      · unfold moveF
        rw [hon]
        have e1 : ¬ ((t.xs.length : Int) = -1) := by omega
        simp [e1, hrR, ho]
    have HMP := Lib.hid hmv.1
    have HMU := Lib.hid hmv.2
    have HRES := Lib.hid hres
    clear hmv hres hsz0 s1 s2 s3 s4 s5 s6 s7 s8 s9 s10 hon hws hrs hoff hal0 hi hcb hrR hu3 hcB hrowB hum hU hb hO hc hm hmm hr hrow htm hT hrw hf hwl
    clear hca hcc
    have v0 : W2.cell? ⟨g, 0, none⟩ = some (.int .i64 q) := b2.cell 0
    have v1 : W2.cell? ⟨g, 1, none⟩ = some (.int .i64 (hN : Int)) := b2.cell 1
    have v2 : W2.cell? ⟨g, 2, none⟩ = some (.int .i64 (t.xs.length : Int)) := b2.cell 2
    have v3 : W2.cell? ⟨g, 3, none⟩ = some (.slice (some ⟨bb, off, none⟩) ts.length c) := b2.cell 3
    have v4 : W2.cell? ⟨g, 4, none⟩ = some (.slice (some ⟨bB, offB, none⟩) us.length d) := b2.cell 4
    have v5 : W2.cell? ⟨g, 5, none⟩ = some (.slice C os.length k) := b2.cell 5
    have dlt : ¬ ((t.xs.length : Int) < (t.xs.length : Int)) := by omega
    have hwc := KS.out W2 (Below.refl _ _)
    go_upto_region 17 with fail
    have hp : Below W2.heap.size W2 W2.drew := below_drewN (Below.refl _ _) 1
    clear v0 v1 v2 v3 v4 v5 hwc b2
    refine wp_region_noPanic ?_
    refine wp_region_held_drew (S := (fun w' => w'.cell? ⟨g, 0, none⟩ = some (.int .i64 q) ∧ w'.cell? ⟨g, 4, none⟩ = some (.slice (some ⟨bB, offB, none⟩) us.length d) ∧ w'.cell? ⟨bB, offB + hN, none⟩ = some (.slice u.A u.xs.length u.c))) (by kernel_rfl) ?_ (fun hHeld => ?_)
    · exact KF.out _ hp
    generalize W2.drew = Wx at *
    refine wpAnyH_take (i := 0) (v := ?_) rfl (by kernel_rfl) (by kernel_rfl) (by kernel_rfl) (fun _ _ _ h => h) (Or.inl ⟨by rfl, ?_⟩) (by assumption) ?_
    rotate_left
    · intro w hSw
      try dsimp only at hSw
      obtain ⟨hs0_, hs1_, hs2_⟩ := hSw
      go_simp
      try with_reducible rfl
    try simp only [Act.put, List.setIfInBounds_toArray]
    refine wpAnyH_take (i := 1) (v := ?_) rfl (by kernel_rfl) (by kernel_rfl) (by kernel_rfl) (fun _ _ _ h => h) (Or.inl ⟨by rfl, ?_⟩) (by assumption) ?_
    rotate_left
    · intro w hSw
      try dsimp only at hSw
      obtain ⟨hs0_, hs1_, hs2_⟩ := hSw
      go_simp
      try with_reducible rfl
    try simp only [Act.put]
    refine wpAnyH_take (i := 2) (v := ?_) rfl (by kernel_rfl) (by kernel_rfl) (by kernel_rfl) (fun _ _ _ h => h) (Or.inl ⟨by rfl, ?_⟩) (by assumption) ?_
    rotate_left
    · intro w hSw
      try dsimp only at hSw
      obtain ⟨hs0_, hs1_, hs2_⟩ := hSw
      go_simp
      try with_reducible rfl
    try simp only [Act.put]
    refine wpAnyH_take (i := 3) (v := ?_) rfl (by kernel_rfl) (by kernel_rfl) (by kernel_rfl) (fun _ _ _ h => h) (Or.inl ⟨by rfl, ?_⟩) (by assumption) ?_
    rotate_left
    · intro w hSw
      try dsimp only at hSw
      obtain ⟨hs0_, hs1_, hs2_⟩ := hSw
      go_simp
      try with_reducible rfl
    try simp only [Act.put]
    refine wpAnyH_take (i := 4) (v := ?_) rfl (by kernel_rfl) (by kernel_rfl) (by kernel_rfl) (fun _ _ _ h => h) (Or.inl ⟨by rfl, ?_⟩) (by assumption) ?_
    rotate_left
    · intro w hSw
      try dsimp only at hSw
      obtain ⟨hs0_, hs1_, hs2_⟩ := hSw
      go_simp
      try with_reducible rfl
    try simp only [Act.put]
    refine wpAnyH_take (i := 5) (v := ?_) rfl (by kernel_rfl) (by kernel_rfl) (by kernel_rfl) (fun _ _ _ h => h) (Or.inl ⟨by rfl, ?_⟩) (by assumption) ?_
    rotate_left
    · intro w hSw
      try dsimp only at hSw
      obtain ⟨hs0_, hs1_, hs2_⟩ := hSw
      go_simp
      try with_reducible rfl
    try simp only [Act.put]
    refine wpAnyH_take (i := 6) (v := ?_) rfl (by kernel_rfl) (by kernel_rfl) (by kernel_rfl) (fun _ _ _ h => h) (Or.inl ⟨by rfl, ?_⟩) (by assumption) ?_
    rotate_left
    · intro w hSw
      try dsimp only at hSw
      obtain ⟨hs0_, hs1_, hs2_⟩ := hSw
      go_simp
      try with_reducible rfl
    try simp only [Act.put]
    refine wpAnyH_take (i := 7) (v := ?_) rfl (by kernel_rfl) (by kernel_rfl) (by kernel_rfl) (fun _ _ _ h => h) (Or.inl ⟨by rfl, ?_⟩) (by assumption) ?_
    rotate_left
    · intro w hSw
      try dsimp only at hSw
      obtain ⟨hs0_, hs1_, hs2_⟩ := hSw
      go_simp
      try with_reducible rfl
    try simp only [Act.put]
    refine wpAnyH_take (i := 8) (v := ?_) rfl (by kernel_rfl) (by kernel_rfl) (by kernel_rfl) (fun _ _ _ h => h) (Or.inl ⟨by rfl, ?_⟩) (by assumption) ?_
    rotate_left
    · intro w hSw
      try dsimp only at hSw
      obtain ⟨hs0_, hs1_, hs2_⟩ := hSw
      go_simp
      try with_reducible rfl
    try simp only [Act.put]
    try simp only [List.getElem_toArray, List.getElem_cons_zero, List.getElem_cons_succ, List.setIfInBounds_toArray, List.set_cons_zero, List.set_cons_succ]
    refine wpAnyH_ready (rs := [9]) (by kernel_rfl) (by simp) ?_
    refine AllReadyH.cons rfl (fun K hK => ?_) ?_
    · go_simp
      refine (HSH.out 1 (by simp) _ hp).mono ?_
      rintro e W3 hS
      obtain ⟨E, en, ec, nn, code, rfl, z2, hcs⟩ := shiftP_open hS
      have HCS := Lib.hid hcs
      have hp2 := hp.trans (z2.mono hp.size)
      clear hS hcs
      refine hK.out _ _ ?_ (fun hHeld => ?_)
      · exact KF.out _ hp2
      clear hK K
      try simp only [Act.put, List.setIfInBounds_toArray, List.set_cons_zero, List.set_cons_succ]
      refine wpAnyH_take (i := 10) (v := ?_) rfl (by kernel_rfl) (by kernel_rfl) (by kernel_rfl) (fun _ _ _ h => h) (Or.inl ⟨by rfl, ?_⟩) (by assumption) ?_
      rotate_left
      · intro w hSw
        try dsimp only at hSw
        obtain ⟨hs0_, hs1_, hs2_⟩ := hSw
        go_simp
        try with_reducible rfl
      try simp only [Act.put, List.setIfInBounds_toArray]
      refine wpAnyH_take (i := 11) (v := ?_) rfl (by kernel_rfl) (by kernel_rfl) (by kernel_rfl) (fun _ _ _ h => h) (Or.inl ⟨by rfl, ?_⟩) (by assumption) ?_
      rotate_left
      · intro w hSw
        try dsimp only at hSw
        obtain ⟨hs0_, hs1_, hs2_⟩ := hSw
        go_simp
        try with_reducible rfl
      try simp only [Act.put]
      refine wpAnyH_take (i := 12) (v := ?_) rfl (by kernel_rfl) (by kernel_rfl) (by kernel_rfl) (fun _ _ _ h => h) (Or.inl ⟨by rfl, ?_⟩) (by assumption) ?_
      rotate_left
      · intro w hSw
        try dsimp only at hSw
        obtain ⟨hs0_, hs1_, hs2_⟩ := hSw
        go_simp
        try with_reducible rfl
      try simp only [Act.put]
      refine wpAnyH_take (i := 13) (v := ?_) rfl (by kernel_rfl) (by kernel_rfl) (by kernel_rfl) (fun _ _ _ h => h) (Or.inl ⟨by rfl, ?_⟩) (by assumption) ?_
      rotate_left
      · intro w hSw
        try dsimp only at hSw
        obtain ⟨hs0_, hs1_, hs2_⟩ := hSw
        go_simp
        try with_reducible rfl
      try simp only [Act.put]
      refine wpAnyH_take (i := 14) (v := ?_) rfl (by kernel_rfl) (by kernel_rfl) (by kernel_rfl) (fun _ _ _ h => h) (Or.inl ⟨by rfl, ?_⟩) (by assumption) ?_
      rotate_left
      · intro w hSw
        try dsimp only at hSw
        obtain ⟨hs0_, hs1_, hs2_⟩ := hSw
        go_simp
        try with_reducible rfl
      try simp only [Act.put]
      refine wpAnyH_take (i := 15) (v := ?_) rfl (by kernel_rfl) (by kernel_rfl) (by kernel_rfl) (fun _ _ _ h => h) (Or.inl ⟨by rfl, ?_⟩) (by assumption) ?_
      rotate_left
      · intro w hSw
        try dsimp only at hSw
        obtain ⟨hs0_, hs1_, hs2_⟩ := hSw
        go_simp
        try with_reducible rfl
      try simp only [Act.put]
      try simp only [List.getElem_toArray, List.getElem_cons_zero, List.getElem_cons_succ, List.setIfInBounds_toArray, List.set_cons_zero, List.set_cons_succ]
      refine wpAnyH_ready (rs := [16]) (by kernel_rfl) (by simp) ?_
      refine AllReadyH.cons rfl (fun K hK => ?_) ?_
      · go_simp
        refine hK.out _ _ ?_ (fun hHeld => ?_)
        · exact KF.out _ hp2
        clear hK K
        try simp only [Act.put, List.setIfInBounds_toArray, List.set_cons_zero, List.set_cons_succ]
        refine wpAnyH_done (by kernel_rfl) ?_ _
        refine NoPanic.normal ?_
        have hb3 := HB.out.below' hp2
        have hO3 := HO.out.below hp2
        have bR3 := bR2.below' hp2
        rcases HCS.out with ⟨rfl, out, hso, rfl, oE⟩ | ⟨hne, hno⟩
        · have hol := HSL.out _ out hso
          have HN : Hid (res = (passF ⟨q, (hN : Int), (t.xs.length : Int), nums ts, nums us, os⟩ (hN : Int) 1 out, 1, 0)) := Lib.hid (by rw [HRES.out]; exact movedF_some (HMP.out out hso))
          obtain ⟨bB2, offB2, heB, _, _, hcsB, hfsB⟩ := hO3.2.1.1.at_ (k := hN) (by simpa using hi2)
          cases heB
          have hO4 : FmO (W3.setCell ⟨bB, offB + hN, none⟩ (.slice E out.length ec)) W.heap.size (some ⟨bb, off, none⟩) c ts (some ⟨bB, offB, none⟩) d (us.set hN ⟨E, ec, out⟩) C k os := HO.out.putR hp2 hUU.out (u := ⟨E, ec, out⟩) rfl oE hp.size (Nat.le_trans hw hp.size)
          have v0 : W3.cell? ⟨g, 0, none⟩ = some (.int .i64 q) := hb3.cell 0
          have v1 : W3.cell? ⟨g, 1, none⟩ = some (.int .i64 (hN : Int)) := hb3.cell 1
          have v2 : W3.cell? ⟨g, 2, none⟩ = some (.int .i64 (t.xs.length : Int)) := hb3.cell 2
          have v3 : W3.cell? ⟨g, 3, none⟩ = some (.slice (some ⟨bb, off, none⟩) ts.length c) := hb3.cell 3
          have v4 : W3.cell? ⟨g, 4, none⟩ = some (.slice (some ⟨bB, offB, none⟩) us.length d) := hb3.cell 4
          have v5 : W3.cell? ⟨g, 5, none⟩ = some (.slice C os.length k) := hb3.cell 5
          clear HCS HSH HSL HMP HMU HRES hso KF hcsB
          go_upto_region 20 with fail
          have hb4 := hb3.far (p := ⟨bB, offB + hN, none⟩) hgB (.slice E out.length ec)
          have hz4 : Below W.heap.size W2 (W3.setCell ⟨bB, offB + hN, none⟩ (.slice E out.length ec)) := (hp2.mono hw).setCell hlB _
          clear v0 v1 v2 v3 v4 v5 hfsB hb3 hO3 bR3
          generalize W3.setCell ⟨bB, offB + hN, none⟩ (.slice E out.length ec) = W4 at *
          have v0 : W4.cell? ⟨g, 0, none⟩ = some (.int .i64 q) := hb4.cell 0
          have v1 : W4.cell? ⟨g, 1, none⟩ = some (.int .i64 (hN : Int)) := hb4.cell 1
          have v2 : W4.cell? ⟨g, 2, none⟩ = some (.int .i64 (t.xs.length : Int)) := hb4.cell 2
          have v3 : W4.cell? ⟨g, 3, none⟩ = some (.slice (some ⟨bb, off, none⟩) ts.length c) := hb4.cell 3
          have v4 : W4.cell? ⟨g, 4, none⟩ = some (.slice (some ⟨bB, offB, none⟩) us.length d) := hb4.cell 4
          have v5 : W4.cell? ⟨g, 5, none⟩ = some (.slice C os.length k) := hb4.cell 5
          have f0 := hb4.frozen 0
          have f1 := hb4.frozen 1
          have f2 := hb4.frozen 2
          have f3 := hb4.frozen 3
          have f4 := hb4.frozen 4
          have f5 := hb4.frozen 5
          have wh1 : IntKind.i64.wrap ((hN : Int) + 1) = (hN : Int) + 1 := IntWalk.i64_in _ (by omega)
          go_upto_region 21 with fail
          have hO5 := hO4.boxed hb4 (w' := W4.setCell ⟨g, 1, none⟩ (.int .i64 ((hN : Int) + 1))) (fun b hb => Below.heap_setCell _ _ _ _ hb)
          have hz5 : Below W.heap.size W2 (W4.setCell ⟨g, 1, none⟩ (.int .i64 ((hN : Int) + 1))) := hz4.setCell hlg _
          have hb5 : Blk (W4.setCell ⟨g, 1, none⟩ (.int .i64 ((hN : Int) + 1))) g 31 #[.int .i64 q, .int .i64 ((hN : Int) + 1), .int .i64 (t.xs.length : Int), .slice (some ⟨bb, off, none⟩) ts.length c, .slice (some ⟨bB, offB, none⟩) us.length d, .slice C os.length k] := hb4.set_ 1 _
          clear v0 v1 v2 v3 v4 v5 f0 f1 f2 f3 f4 f5 hb4 hO4 hz4
          generalize W4.setCell ⟨g, 1, none⟩ (.int .i64 ((hN : Int) + 1)) = W5 at *
          have v0 : W5.cell? ⟨g, 0, none⟩ = some (.int .i64 q) := hb5.cell 0
          have v1 : W5.cell? ⟨g, 1, none⟩ = some (.int .i64 ((hN : Int) + 1)) := hb5.cell 1
          have v2 : W5.cell? ⟨g, 2, none⟩ = some (.int .i64 (t.xs.length : Int)) := hb5.cell 2
          have v3 : W5.cell? ⟨g, 3, none⟩ = some (.slice (some ⟨bb, off, none⟩) ts.length c) := hb5.cell 3
          have v4 : W5.cell? ⟨g, 4, none⟩ = some (.slice (some ⟨bB, offB, none⟩) us.length d) := hb5.cell 4
          have v5 : W5.cell? ⟨g, 5, none⟩ = some (.slice C os.length k) := hb5.cell 5
          have f0 := hb5.frozen 0
          have f1 := hb5.frozen 1
          have f2 := hb5.frozen 2
          have f3 := hb5.frozen 3
          have f4 := hb5.frozen 4
          have f5 := hb5.frozen 5
          go_upto_region 22 with fail
          have hO6 := hO5.boxed hb5 (w' := W5.setCell ⟨g, 2, none⟩ (.int .i64 0)) (fun b hb => Below.heap_setCell _ _ _ _ hb)
          have hz6 : Below W.heap.size W2 (W5.setCell ⟨g, 2, none⟩ (.int .i64 0)) := hz5.setCell hlg _
          have hb6 : Blk (W5.setCell ⟨g, 2, none⟩ (.int .i64 0)) g 31 #[.int .i64 q, .int .i64 ((hN : Int) + 1), .int .i64 0, .slice (some ⟨bb, off, none⟩) ts.length c, .slice (some ⟨bB, offB, none⟩) us.length d, .slice C os.length k] := hb5.set_ 2 _
          clear v0 v1 v2 v3 v4 v5 f0 f1 f2 f3 f4 f5 hb5 hO5 hz5
          generalize W5.setCell ⟨g, 2, none⟩ (.int .i64 0) = W6 at *
          have hO8 := hO6
          have hz8 := hz6
          have hb8 := hb6
          clear hO6 hz6 hb6
          have hF8 : FmBox W6 W.heap.size g ⟨q, (hN : Int) + 1, 0, nums ts, (nums us).set hN out, os⟩ := ⟨_, c, ts, _, d, us.set hN ⟨E, ec, out⟩, C, k, by rw [List.length_set]; exact hb8, ⟨hO8, rfl, nums_set _ _ _⟩, hlg⟩
          have hsz8 : FmSz ⟨q, (hN : Int) + 1, 0, nums ts, (nums us).set hN out, os⟩ := by
            obtain ⟨p1, p2, p3, p4, p5, p6, p7, p8, p9, p10⟩ := HSZ.out
            refine ⟨by show (0 : Int) ≤ (hN : Int) + 1; omega, ?_, by rw [List.length_set]; exact p3, by rw [List.length_set]; exact p4, by rw [List.length_set]; exact p5, by rw [List.length_set]; exact p6, p7, ?_, ?_, ?_⟩
            · show (hN : Int) + 1 ≤ (((nums us).set hN out).length : Int)
              rw [List.length_set, nums_len]; omega
            · intro y hy
              rcases List.mem_or_eq_of_mem_set hy with hh | hh
              · exact p8 y hh
              · rw [hh]; omega
            · show -1 ≤ (0 : Int)
              omega
            · show (0 : Int) ≤ 1000
              omega
          have hal8 : (⟨q, (hN : Int) + 1, 0, nums ts, (nums us).set hN out, os⟩ : Fm).a ≤ ((rowAt (⟨q, (hN : Int) + 1, 0, nums ts, (nums us).set hN out, os⟩ : Fm).W (⟨q, (hN : Int) + 1, 0, nums ts, (nums us).set hN out, os⟩ : Fm).h).length : Int) := by
            show (0 : Int) ≤ _
            omega
          have HST := Lib.hid (l27Settle_any g W.heap.size _ W6 hF8 hsz8 hal8)
          have HWE : Hid (widenF ⟨q, (hN : Int) + 1, 0, nums ts, (nums us).set hN out, os⟩ = passF ⟨q, (hN : Int), (t.xs.length : Int), nums ts, nums us, os⟩ (hN : Int) 1 out) := Lib.hid (by
            unfold passF
            dsimp only
            rw [if_pos rfl, if_neg (by decide), Int.toNat_natCast])
          rw [HWE.out] at HST
          clear hF8 hsz8 hb8 hO8 hal8 HWE
          generalize passF ⟨q, (hN : Int), (t.xs.length : Int), nums ts, nums us, os⟩ (hN : Int) 1 out = gf at *
          obtain rfl := HN.out
          go_wp2_with fail
          refine HST.out.mono ?_
          rintro e W9 ⟨⟨uu, rfl⟩, hF9, hz9, fr9⟩
          have z29 : Below W.heap.size W2 W9 := hz8.trans hz9
          have z09 : Below W.heap.size W W9 := z02.trans (z29.mono (Nat.le_refl _))
          have bR9 := bR.below' z09
          have y9 : Below w.heap.size w W9 := y0.trans (z09.mono y0.size)
          obtain ⟨A', c', ts', B', d', us', C', k', hb', hR', hl'⟩ := hF9
          obtain ⟨q', h', a', FW', FR', os'⟩ := gf
          dsimp only at hb' hR' ⊢
          have v0 : W9.cell? ⟨g, 0, none⟩ = some (.int .i64 q') := hb'.cell 0
          have v1 : W9.cell? ⟨g, 1, none⟩ = some (.int .i64 h') := hb'.cell 1
          have v2 : W9.cell? ⟨g, 2, none⟩ = some (.int .i64 a') := hb'.cell 2
          have v3 : W9.cell? ⟨g, 3, none⟩ = some (.slice A' ts'.length c') := hb'.cell 3
          have v4 : W9.cell? ⟨g, 4, none⟩ = some (.slice B' us'.length d') := hb'.cell 4
          have v5 : W9.cell? ⟨g, 5, none⟩ = some (.slice C' os'.length k') := hb'.cell 5
          have x0 : W9.cell? ⟨w.heap.size, 0, none⟩ = some (.int .i64 0) := bR9.cell 0
          have x1 : W9.cell? ⟨w.heap.size, 1, none⟩ = some (.int .i64 0) := bR9.cell 1
          have x2 : W9.cell? ⟨w.heap.size, 2, none⟩ = some (.int .i64 0) := bR9.cell 2
          have x3 : W9.cell? ⟨w.heap.size, 3, none⟩ = some (.slice none 0 0) := bR9.cell 3
          have x4 : W9.cell? ⟨w.heap.size, 4, none⟩ = some (.slice none 0 0) := bR9.cell 4
          have x5 : W9.cell? ⟨w.heap.size, 5, none⟩ = some (.slice none 0 0) := bR9.cell 5
          have f0 := bR9.frozen 0
          have f1 := bR9.frozen 1
          have f2 := bR9.frozen 2
          have f3 := bR9.frozen 3
          have f4 := bR9.frozen 4
          have f5 := bR9.frozen 5
          have hgn : g ≠ w.heap.size := by omega
          go_wp2_with fail
          clear x0 x1 x2 x3 x4 x5 v0 v1 v2 v3 v4 v5
          have dC : Blk ((((((W9.setCell ⟨w.heap.size, 0, none⟩ (.int .i64 q')).setCell ⟨w.heap.size, 1, none⟩ (.int .i64 h')).setCell ⟨w.heap.size, 2, none⟩ (.int .i64 a')).setCell ⟨w.heap.size, 3, none⟩ (.slice A' ts'.length c')).setCell ⟨w.heap.size, 4, none⟩ (.slice B' us'.length d')).setCell ⟨w.heap.size, 5, none⟩ (.slice C' os'.length k')) w.heap.size 31 #[.int .i64 q', .int .i64 h', .int .i64 a', .slice A' ts'.length c', .slice B' us'.length d', .slice C' os'.length k'] := fm_set bR9 (.int .i64 q') (.int .i64 h') (.int .i64 a') (.slice A' ts'.length c') (.slice B' us'.length d') (.slice C' os'.length k')
          have yT : ∀ (lo : Nat) (w0 : World), Below lo w0 W9 → lo ≤ w.heap.size → Below lo w0 ((((((W9.setCell ⟨w.heap.size, 0, none⟩ (.int .i64 q')).setCell ⟨w.heap.size, 1, none⟩ (.int .i64 h')).setCell ⟨w.heap.size, 2, none⟩ (.int .i64 a')).setCell ⟨w.heap.size, 3, none⟩ (.slice A' ts'.length c')).setCell ⟨w.heap.size, 4, none⟩ (.slice B' us'.length d')).setCell ⟨w.heap.size, 5, none⟩ (.slice C' os'.length k')) := fun lo w0 h hl => fm_below h hl (.int .i64 q') (.int .i64 h') (.int .i64 a') (.slice A' ts'.length c') (.slice B' us'.length d') (.slice C' os'.length k')
          have kT : ∀ k, k ≠ w.heap.size → ((((((W9.setCell ⟨w.heap.size, 0, none⟩ (.int .i64 q')).setCell ⟨w.heap.size, 1, none⟩ (.int .i64 h')).setCell ⟨w.heap.size, 2, none⟩ (.int .i64 a')).setCell ⟨w.heap.size, 3, none⟩ (.slice A' ts'.length c')).setCell ⟨w.heap.size, 4, none⟩ (.slice B' us'.length d')).setCell ⟨w.heap.size, 5, none⟩ (.slice C' os'.length k')).heap[k]? = W9.heap[k]? := fun k hk => fm_kept (.int .i64 q') (.int .i64 h') (.int .i64 a') (.slice A' ts'.length c') (.slice B' us'.length d') (.slice C' os'.length k') k hk
          generalize (((((W9.setCell ⟨w.heap.size, 0, none⟩ (.int .i64 q')).setCell ⟨w.heap.size, 1, none⟩ (.int .i64 h')).setCell ⟨w.heap.size, 2, none⟩ (.int .i64 a')).setCell ⟨w.heap.size, 3, none⟩ (.slice A' ts'.length c')).setCell ⟨w.heap.size, 4, none⟩ (.slice B' us'.length d')).setCell ⟨w.heap.size, 5, none⟩ (.slice C' os'.length k') = wg at *
          have x0 : wg.cell? ⟨w.heap.size, 0, none⟩ = some (.int .i64 q') := dC.cell 0
          have x1 : wg.cell? ⟨w.heap.size, 1, none⟩ = some (.int .i64 h') := dC.cell 1
          have x2 : wg.cell? ⟨w.heap.size, 2, none⟩ = some (.int .i64 a') := dC.cell 2
          have x3 : wg.cell? ⟨w.heap.size, 3, none⟩ = some (.slice A' ts'.length c') := dC.cell 3
          have x4 : wg.cell? ⟨w.heap.size, 4, none⟩ = some (.slice B' us'.length d') := dC.cell 4
          have x5 : wg.cell? ⟨w.heap.size, 5, none⟩ = some (.slice C' os'.length k') := dC.cell 5
          have hRf : FmR wg w.heap.size ⟨q', h', a', FW', FR', os'⟩ A' c' ts' B' d' us' C' k' := ⟨(hR'.1.far bR9 (by decide) (by decide) kT).mono y0.size, hR'.2⟩
          have hres : NewFmI3 w (⟨q', h', a', FW', FR', os'⟩, 1, 0) (.returned (.tuple #[.agg #[.int .i64 q', .int .i64 h', .int .i64 a', .slice A' ts'.length c', .slice B' us'.length d', .slice C' os'.length k'], .int .i64 1, .int .i64 0])) wg := ⟨A', c', ts', B', d', us', C', k', rfl, hRf, yT _ _ y9 (Nat.le_refl _)⟩
          exact bodyPost_ret (v := .tuple #[.agg #[.int .i64 q', .int .i64 h', .int .i64 a', .slice A' ts'.length c', .slice B' us'.length d', .slice C' os'.length k'], .int .i64 1, .int .i64 0]) (by simp [results, Try.results181, go_sem, x0, x1, x2, x3, x4, x5]) rfl hres
        · have HN : Hid (res = (unrollF ⟨q, (hN : Int), (t.xs.length : Int), nums ts, nums us, os⟩ (hN : Int) 1, 2, 0)) := Lib.hid (by rw [HRES.out]; exact movedF_some (HMU.out hno))
          have KG : Hid (∀ W', Below W2.heap.size W2 W' → W'.cell? ⟨g, 3, none⟩ = some (.slice (some ⟨bb, off, none⟩) ts.length c) ∧ W'.cell? ⟨g, 1, none⟩ = some (.int .i64 (hN : Int)) ∧ W'.cell? ⟨g, 4, none⟩ = some (.slice (some ⟨bB, offB, none⟩) us.length d) ∧ W'.cell? ⟨bB, offB + hN, none⟩ = some (.slice u.A u.xs.length u.c)) := Lib.hid (fun W' z => ⟨(HB.out.below' z).cell 3, (HB.out.below' z).cell 1, (KF.out _ z).2.1, (KF.out _ z).2.2⟩)
          have hos : os.length = us.length := by have h4 : os.length = (nums us).length := HSZ.out.2.2.2.1; rw [nums_len] at h4; exact h4
          have hio : hN < os.length := by omega
          have HOS := Lib.hid hos
          clear hos HCS HSH HSL HMP HMU HRES hno hb3 hO3 bR3
          go_upto_region 27 with fail
          have hq : Below W2.heap.size W2 W3.drew := hp2.trans ((below_drewN (Below.refl W3.heap.size W3) 1).mono hp2.size)
          refine wp_region_noPanic ?_
          refine wp_region_held_drew (S := (fun w' => w'.cell? ⟨g, 3, none⟩ = some (.slice (some ⟨bb, off, none⟩) ts.length c) ∧ w'.cell? ⟨g, 1, none⟩ = some (.int .i64 (hN : Int)) ∧ w'.cell? ⟨g, 4, none⟩ = some (.slice (some ⟨bB, offB, none⟩) us.length d) ∧ w'.cell? ⟨bB, offB + hN, none⟩ = some (.slice u.A u.xs.length u.c))) (by kernel_rfl) ?_ (fun hHeld => ?_)
          · exact KG.out _ hq
          generalize W3.drew = Wy at *
          refine wpAnyH_take (i := 0) (v := ?_) rfl (by kernel_rfl) (by kernel_rfl) (by kernel_rfl) (fun _ _ _ h => h) (Or.inl ⟨by rfl, ?_⟩) (by assumption) ?_
          rotate_left
          · intro w hSw
            try dsimp only at hSw
            obtain ⟨hs0_, hs1_, hs2_, hs3_⟩ := hSw
            go_simp
            try with_reducible rfl
          try simp only [Act.put, List.setIfInBounds_toArray]
          refine wpAnyH_take (i := 1) (v := ?_) rfl (by kernel_rfl) (by kernel_rfl) (by kernel_rfl) (fun _ _ _ h => h) (Or.inl ⟨by rfl, ?_⟩) (by assumption) ?_
          rotate_left
          · intro w hSw
            try dsimp only at hSw
            obtain ⟨hs0_, hs1_, hs2_, hs3_⟩ := hSw
            go_simp
            try with_reducible rfl
          try simp only [Act.put]
          refine wpAnyH_take (i := 2) (v := ?_) rfl (by kernel_rfl) (by kernel_rfl) (by kernel_rfl) (fun _ _ _ h => h) (Or.inl ⟨by rfl, ?_⟩) (by assumption) ?_
          rotate_left
          · intro w hSw
            try dsimp only at hSw
            obtain ⟨hs0_, hs1_, hs2_, hs3_⟩ := hSw
            go_simp
            try with_reducible rfl
          try simp only [Act.put]
          refine wpAnyH_take (i := 3) (v := ?_) rfl (by kernel_rfl) (by kernel_rfl) (by kernel_rfl) (fun _ _ _ h => h) (Or.inl ⟨by rfl, ?_⟩) (by assumption) ?_
          rotate_left
          · intro w hSw
            try dsimp only at hSw
            obtain ⟨hs0_, hs1_, hs2_, hs3_⟩ := hSw
            go_simp
            try with_reducible rfl
          try simp only [Act.put]
          refine wpAnyH_take (i := 4) (v := ?_) rfl (by kernel_rfl) (by kernel_rfl) (by kernel_rfl) (fun _ _ _ h => h) (Or.inl ⟨by rfl, ?_⟩) (by assumption) ?_
          rotate_left
          · intro w hSw
            try dsimp only at hSw
            obtain ⟨hs0_, hs1_, hs2_, hs3_⟩ := hSw
            go_simp
            try with_reducible rfl
          try simp only [Act.put]
          refine wpAnyH_take (i := 6) (v := ?_) rfl (by kernel_rfl) (by kernel_rfl) (by kernel_rfl) (fun _ _ _ h => h) (Or.inl ⟨by rfl, ?_⟩) (by assumption) ?_
          rotate_left
          · intro w hSw
            try dsimp only at hSw
            obtain ⟨hs0_, hs1_, hs2_, hs3_⟩ := hSw
            go_simp
            try with_reducible rfl
          try simp only [Act.put]
          refine wpAnyH_take (i := 7) (v := ?_) rfl (by kernel_rfl) (by kernel_rfl) (by kernel_rfl) (fun _ _ _ h => h) (Or.inl ⟨by rfl, ?_⟩) (by assumption) ?_
          rotate_left
          · intro w hSw
            try dsimp only at hSw
            obtain ⟨hs0_, hs1_, hs2_, hs3_⟩ := hSw
            go_simp
            try with_reducible rfl
          try simp only [Act.put]
          refine wpAnyH_take (i := 8) (v := ?_) rfl (by kernel_rfl) (by kernel_rfl) (by kernel_rfl) (fun _ _ _ h => h) (Or.inl ⟨by rfl, ?_⟩) (by assumption) ?_
          rotate_left
          · intro w hSw
            try dsimp only at hSw
            obtain ⟨hs0_, hs1_, hs2_, hs3_⟩ := hSw
            go_simp
            try with_reducible rfl
          try simp only [Act.put]
          refine wpAnyH_take (i := 9) (v := ?_) rfl (by kernel_rfl) (by kernel_rfl) (by kernel_rfl) (fun _ _ _ h => h) (Or.inl ⟨by rfl, ?_⟩) (by assumption) ?_
          rotate_left
          · intro w hSw
            try dsimp only at hSw
            obtain ⟨hs0_, hs1_, hs2_, hs3_⟩ := hSw
            go_simp
            try with_reducible rfl
          try simp only [Act.put]
          refine wpAnyH_take (i := 10) (v := ?_) rfl (by kernel_rfl) (by kernel_rfl) (by kernel_rfl) (fun _ _ _ h => h) (Or.inl ⟨by rfl, ?_⟩) (by assumption) ?_
          rotate_left
          · intro w hSw
            try dsimp only at hSw
            obtain ⟨hs0_, hs1_, hs2_, hs3_⟩ := hSw
            go_simp
            try with_reducible rfl
          try simp only [Act.put]
          try simp only [List.getElem_toArray, List.getElem_cons_zero, List.getElem_cons_succ, List.setIfInBounds_toArray, List.set_cons_zero, List.set_cons_succ]
          refine wpAnyH_ready (rs := [5]) (by kernel_rfl) (by simp) ?_
          refine AllReadyH.cons rfl (fun K hK => ?_) ?_
          · go_simp
            refine (l00Own_any _ _ _ t.xs _ (HRT.out _ hq) (by omega)).mono ?_
            rintro e V4 ⟨E2, ec2, rfl, oE2, z4⟩
            have hq4 := hq.trans (z4.mono hq.size)
            have oE3 := oE2.mono (lo' := W2.heap.size) hq.size
            have hS := KG.out _ hq4
            refine hK.out _ _ ?_ (fun hHeld => ?_)
            · exact hS
            clear hK K
            try simp only [Act.put, List.setIfInBounds_toArray, List.set_cons_zero, List.set_cons_succ]
            try simp only [putAll, markAll, dstAt, Act.put, List.getElem_toArray, List.getElem?_toArray, List.getElem_cons_zero, List.getElem_cons_succ, List.getElem?_cons_zero, List.getElem?_cons_succ, Option.bind_some, List.setIfInBounds_toArray, List.set_cons_zero, List.set_cons_succ]
            refine wpAnyH_ready (rs := [11]) (by kernel_rfl) (by simp) ?_
            refine AllReadyH.cons rfl (fun K hK => ?_) ?_
            · rw [if_pos (by rfl)]
              refine wp_append_Own (.tmp 127) (.tmp 132) rfl elI (lo := W2.heap.size) rfl oE3 rfl (HRW.out _ hq4) (ints_one _) (by omega) (by simp only [maxLen]; omega) hq4.size ?_
              intro A8 c8 w8 ho8 hg8 hw8
              have hp8 : Below W2.heap.size W2 w8 := oE3.below_of hq4 hg8 hq4.size
              have hb8 := HB.out.below' hp8
              have hO8 := HO.out.below hp8
              obtain ⟨bb2, off2, he, _, _, hcs, hfs⟩ := hO8.1.1.at_ (k := hN) (by simp; omega)
              cases he
              have hO9 : FmO (w8.setCell ⟨bb, off + hN, none⟩ (.slice A8 (t.xs.length + u.xs.length) c8)) W.heap.size (some ⟨bb, off, none⟩) c (ts.set hN ⟨A8, c8, t.xs ++ u.xs⟩) (some ⟨bB, offB, none⟩) d us C k os := by
                have := HO.out.putW hp8 HTT.out (u := ⟨A8, c8, t.xs ++ u.xs⟩) rfl (by simpa [ints] using ho8) (Nat.le_refl _) hw
                simpa [Sl.val] using this
              have hS := KG.out _ hp8
              refine hK.out _ _ ?_ (fun hHeld => ?_)
              · exact hS
              clear hK K
              try simp only [Act.put, List.setIfInBounds_toArray]
              refine wpAnyH_take (i := 12) (v := ?_) rfl (by kernel_rfl) (by kernel_rfl) (by kernel_rfl) (fun _ _ _ h => h) (Or.inl ⟨by rfl, ?_⟩) (by assumption) ?_
              rotate_left
              · intro w hSw
                try dsimp only at hSw
                obtain ⟨hs0_, hs1_, hs2_, hs3_⟩ := hSw
                go_simp
                try with_reducible rfl
              try simp only [Act.put]
              try simp only [List.getElem_toArray, List.getElem_cons_zero, List.getElem_cons_succ, List.setIfInBounds_toArray, List.set_cons_zero, List.set_cons_succ]
              refine wpAnyH_ready (rs := [13]) (by kernel_rfl) (by simp) ?_
              refine AllReadyH.cons rfl (fun K hK => ?_) ?_
              · go_simp
                have hbd := hb8.far (p := ⟨bb, off + hN, none⟩) hgb (.slice A8 (t.xs.length + u.xs.length) c8)
                have hz9 : Below W.heap.size W2 (w8.setCell ⟨bb, off + hN, none⟩ (.slice A8 (t.xs.length + u.xs.length) c8)) := (hp8.mono hw).setCell hlA _
                have hcB9 : (w8.setCell ⟨bb, off + hN, none⟩ (.slice A8 (t.xs.length + u.xs.length) c8)).cell? ⟨bB, offB + hN, none⟩ = some (.slice u.A u.xs.length u.c) := by
                  rw [World.cell?_of_block (Below.heap_setCell _ _ _ _ (Ne.symm hAB))]; exact (KF.out _ hp8).2.2
                generalize w8.setCell ⟨bb, off + hN, none⟩ (.slice A8 (t.xs.length + u.xs.length) c8) = V9 at *
                have hS : _ ∧ _ ∧ _ ∧ _ := ⟨hbd.cell 3, hbd.cell 1, hbd.cell 4, hcB9⟩
                refine hK.out _ _ ?_ (fun hHeld => ?_)
                · exact hS
                clear hK K
                try simp only [Act.put, List.setIfInBounds_toArray]
                refine wpAnyH_done (by kernel_rfl) ?_ _
                refine NoPanic.normal ?_
                obtain ⟨x, hx⟩ : ∃ x, x = os.getD hN 0 := ⟨_, rfl⟩
                have hxe : os[hN]? = some x := by rw [hx, List.getD_eq_getElem?_getD, List.getElem?_eq_getElem hio]; rfl
                obtain ⟨hx0, hx1⟩ := HOFF.out x (List.mem_of_getElem? hxe)
                have HX := Lib.hid hx
                have HXE := Lib.hid hxe
                clear hx hxe hS KG KF HB HO
                have wx : IntKind.i64.wrap (x - 1) = x - 1 := IntWalk.i64_in _ (by omega)
                have hO10 := hO9
                have hz10 := hz9
                have hb10 := hbd
                clear hbd hO9 hz9 hcB9
                obtain ⟨bC, offC, hCe, hlC, hCl, hcC, hfC⟩ := hO10.2.2.1.at_ (k := hN) (by simpa [ints] using hio)
                have hcC2 : V9.cell? ⟨bC, offC + hN, none⟩ = some (.int .i64 x) := by
                  rw [hcC]
                  have := HXE.out
                  rw [List.getElem?_eq_getElem hio] at this
                  simp [ints, Option.some.inj this]
                have hgC : g ≠ bC := fun e => hb10.aptt hO10.2.2.1 (by decide) (by rw [hCe, e]; rfl)
                subst hCe
                clear hcC
                have o2 : (hN : Int) < (os.length : Int) := by omega
                have v0 : V9.cell? ⟨g, 0, none⟩ = some (.int .i64 q) := hb10.cell 0
                have v1 : V9.cell? ⟨g, 1, none⟩ = some (.int .i64 (hN : Int)) := hb10.cell 1
                have v2 : V9.cell? ⟨g, 2, none⟩ = some (.int .i64 (t.xs.length : Int)) := hb10.cell 2
                have v3 : V9.cell? ⟨g, 3, none⟩ = some (.slice (some ⟨bb, off, none⟩) ts.length c) := hb10.cell 3
                have v4 : V9.cell? ⟨g, 4, none⟩ = some (.slice (some ⟨bB, offB, none⟩) us.length d) := hb10.cell 4
                have v5 : V9.cell? ⟨g, 5, none⟩ = some (.slice (some ⟨bC, offC, none⟩) os.length k) := hb10.cell 5
                go_upto_region 31 with fail
                have hO11 := hO10.setO hio rfl (x - 1)
                have hb11 := hb10.far (p := ⟨bC, offC + hN, none⟩) hgC (.int .i64 (x - 1))
                have hz11 : Below W.heap.size W2 (V9.setCell ⟨bC, offC + hN, none⟩ (.int .i64 (x - 1))) := hz10.setCell hlC _
                clear v0 v1 v2 v3 v4 v5 hb10 hO10 hz10 hfC hcC2
                generalize V9.setCell ⟨bC, offC + hN, none⟩ (.int .i64 (x - 1)) = W9 at *
                have hF9 : FmBox W9 W.heap.size g (unrollF ⟨q, (hN : Int), (t.xs.length : Int), nums ts, nums us, os⟩ (hN : Int) 1) := by
                  have e : unrollF ⟨q, (hN : Int), (t.xs.length : Int), nums ts, nums us, os⟩ (hN : Int) 1 = ⟨q, (hN : Int), (t.xs.length : Int), (nums ts).set hN (t.xs ++ u.xs), nums us, os.set hN (x - 1)⟩ := by
                    unfold unrollF
                    dsimp only
                    rw [if_pos rfl, rowAt_eq HTT.out, HRR.out, Int.toNat_natCast, ← HX.out]
                  rw [e]
                  exact ⟨_, c, ts.set hN ⟨A8, c8, t.xs ++ u.xs⟩, _, d, us, _, k, by rw [List.length_set, List.length_set]; exact hb11, ⟨hO11, nums_set _ _ _, rfl⟩, hlg⟩
                have z09 : Below W.heap.size W W9 := z02.trans (hz11.mono (Nat.le_refl _))
                clear hb11 hO11 HOFF HXE HX
                generalize unrollF ⟨q, (hN : Int), (t.xs.length : Int), nums ts, nums us, os⟩ (hN : Int) 1 = gf at *
                obtain rfl := HN.out
                have bR9 := bR.below' z09
                have y9 : Below w.heap.size w W9 := y0.trans (z09.mono y0.size)
                obtain ⟨A', c', ts', B', d', us', C', k', hb', hR', hl'⟩ := hF9
                obtain ⟨q', h', a', FW', FR', os'⟩ := gf
                dsimp only at hb' hR' ⊢
                have v0 : W9.cell? ⟨g, 0, none⟩ = some (.int .i64 q') := hb'.cell 0
                have v1 : W9.cell? ⟨g, 1, none⟩ = some (.int .i64 h') := hb'.cell 1
                have v2 : W9.cell? ⟨g, 2, none⟩ = some (.int .i64 a') := hb'.cell 2
                have v3 : W9.cell? ⟨g, 3, none⟩ = some (.slice A' ts'.length c') := hb'.cell 3
                have v4 : W9.cell? ⟨g, 4, none⟩ = some (.slice B' us'.length d') := hb'.cell 4
                have v5 : W9.cell? ⟨g, 5, none⟩ = some (.slice C' os'.length k') := hb'.cell 5
                have x0 : W9.cell? ⟨w.heap.size, 0, none⟩ = some (.int .i64 0) := bR9.cell 0
                have x1 : W9.cell? ⟨w.heap.size, 1, none⟩ = some (.int .i64 0) := bR9.cell 1
                have x2 : W9.cell? ⟨w.heap.size, 2, none⟩ = some (.int .i64 0) := bR9.cell 2
                have x3 : W9.cell? ⟨w.heap.size, 3, none⟩ = some (.slice none 0 0) := bR9.cell 3
                have x4 : W9.cell? ⟨w.heap.size, 4, none⟩ = some (.slice none 0 0) := bR9.cell 4
                have x5 : W9.cell? ⟨w.heap.size, 5, none⟩ = some (.slice none 0 0) := bR9.cell 5
                have f0 := bR9.frozen 0
                have f1 := bR9.frozen 1
                have f2 := bR9.frozen 2
                have f3 := bR9.frozen 3
                have f4 := bR9.frozen 4
                have f5 := bR9.frozen 5
                have hgn : g ≠ w.heap.size := by omega
                go_wp2_with fail
                clear x0 x1 x2 x3 x4 x5 v0 v1 v2 v3 v4 v5
                have dC : Blk ((((((W9.setCell ⟨w.heap.size, 0, none⟩ (.int .i64 q')).setCell ⟨w.heap.size, 1, none⟩ (.int .i64 h')).setCell ⟨w.heap.size, 2, none⟩ (.int .i64 a')).setCell ⟨w.heap.size, 3, none⟩ (.slice A' ts'.length c')).setCell ⟨w.heap.size, 4, none⟩ (.slice B' us'.length d')).setCell ⟨w.heap.size, 5, none⟩ (.slice C' os'.length k')) w.heap.size 31 #[.int .i64 q', .int .i64 h', .int .i64 a', .slice A' ts'.length c', .slice B' us'.length d', .slice C' os'.length k'] := fm_set bR9 (.int .i64 q') (.int .i64 h') (.int .i64 a') (.slice A' ts'.length c') (.slice B' us'.length d') (.slice C' os'.length k')
                have yT : ∀ (lo : Nat) (w0 : World), Below lo w0 W9 → lo ≤ w.heap.size → Below lo w0 ((((((W9.setCell ⟨w.heap.size, 0, none⟩ (.int .i64 q')).setCell ⟨w.heap.size, 1, none⟩ (.int .i64 h')).setCell ⟨w.heap.size, 2, none⟩ (.int .i64 a')).setCell ⟨w.heap.size, 3, none⟩ (.slice A' ts'.length c')).setCell ⟨w.heap.size, 4, none⟩ (.slice B' us'.length d')).setCell ⟨w.heap.size, 5, none⟩ (.slice C' os'.length k')) := fun lo w0 h hl => fm_below h hl (.int .i64 q') (.int .i64 h') (.int .i64 a') (.slice A' ts'.length c') (.slice B' us'.length d') (.slice C' os'.length k')
                have kT : ∀ k, k ≠ w.heap.size → ((((((W9.setCell ⟨w.heap.size, 0, none⟩ (.int .i64 q')).setCell ⟨w.heap.size, 1, none⟩ (.int .i64 h')).setCell ⟨w.heap.size, 2, none⟩ (.int .i64 a')).setCell ⟨w.heap.size, 3, none⟩ (.slice A' ts'.length c')).setCell ⟨w.heap.size, 4, none⟩ (.slice B' us'.length d')).setCell ⟨w.heap.size, 5, none⟩ (.slice C' os'.length k')).heap[k]? = W9.heap[k]? := fun k hk => fm_kept (.int .i64 q') (.int .i64 h') (.int .i64 a') (.slice A' ts'.length c') (.slice B' us'.length d') (.slice C' os'.length k') k hk
                generalize (((((W9.setCell ⟨w.heap.size, 0, none⟩ (.int .i64 q')).setCell ⟨w.heap.size, 1, none⟩ (.int .i64 h')).setCell ⟨w.heap.size, 2, none⟩ (.int .i64 a')).setCell ⟨w.heap.size, 3, none⟩ (.slice A' ts'.length c')).setCell ⟨w.heap.size, 4, none⟩ (.slice B' us'.length d')).setCell ⟨w.heap.size, 5, none⟩ (.slice C' os'.length k') = wg at *
                have x0 : wg.cell? ⟨w.heap.size, 0, none⟩ = some (.int .i64 q') := dC.cell 0
                have x1 : wg.cell? ⟨w.heap.size, 1, none⟩ = some (.int .i64 h') := dC.cell 1
                have x2 : wg.cell? ⟨w.heap.size, 2, none⟩ = some (.int .i64 a') := dC.cell 2
                have x3 : wg.cell? ⟨w.heap.size, 3, none⟩ = some (.slice A' ts'.length c') := dC.cell 3
                have x4 : wg.cell? ⟨w.heap.size, 4, none⟩ = some (.slice B' us'.length d') := dC.cell 4
                have x5 : wg.cell? ⟨w.heap.size, 5, none⟩ = some (.slice C' os'.length k') := dC.cell 5
                have hRf : FmR wg w.heap.size ⟨q', h', a', FW', FR', os'⟩ A' c' ts' B' d' us' C' k' := ⟨(hR'.1.far bR9 (by decide) (by decide) kT).mono y0.size, hR'.2⟩
                have hres : NewFmI3 w (⟨q', h', a', FW', FR', os'⟩, 2, 0) (.returned (.tuple #[.agg #[.int .i64 q', .int .i64 h', .int .i64 a', .slice A' ts'.length c', .slice B' us'.length d', .slice C' os'.length k'], .int .i64 2, .int .i64 0])) wg := ⟨A', c', ts', B', d', us', C', k', rfl, hRf, yT _ _ y9 (Nat.le_refl _)⟩
                exact bodyPost_ret (v := .tuple #[.agg #[.int .i64 q', .int .i64 h', .int .i64 a', .slice A' ts'.length c', .slice B' us'.length d', .slice C' os'.length k'], .int .i64 2, .int .i64 0]) (by simp [results, Try.results181, go_sem, x0, x1, x2, x3, x4, x5]) rfl hres
              exact AllReadyH.nil
            exact AllReadyH.nil
          exact AllReadyH.nil
      exact AllReadyH.nil
    exact AllReadyH.nil
end Go.Proofs.Ytbpofkggoolmpaa
