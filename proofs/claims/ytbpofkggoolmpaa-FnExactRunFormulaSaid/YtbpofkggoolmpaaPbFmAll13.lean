/-
  Contract of the method that makes a step of a machine on a wall of a formula tape.
-/
import Derived.Test.YtbpofkggoolmpaaPbFmAll10
namespace Go.Proofs.Ytbpofkggoolmpaa
open Go.RowKit

/-- The rule under the head. -/
def hereR (sy : Int) (rs : List R3) (f : Fm) : R3 := ruleAt sy rs f.q ((rowAt f.W f.h).getD f.a.toNat 0)
def StepWP (w : World) (lo g : Nat) (sy : Int) (rs : List R3) (f : Fm) (e : Ending) (w' : World) : Prop :=
  (isRuleB (hereR sy rs f) = true ∧ e = .returned (.bool true) ∧ FmBox w' lo g (wallF f (hereR sy rs f)) ∧ Below lo w w' ∧ FrF w w') ∨ (isRuleB (hereR sy rs f) = false ∧ e = .returned (.bool false) ∧ Below w.heap.size w w')

set_option maxRecDepth 100000 in
set_option maxHeartbeats 8000000 in
theorem stepWall_any (sy st : Int) (A0 : Option Addr) (n0 k0 : Nat) (rs : List R3) (g lo : Nat) (f : Fm) (w : World) (hr : S3 w A0 n0 rs) (hm : machB sy st rs = true) (hF : FmBox w lo g f) (hs : FmSz f) (hq0 : 0 ≤ f.q) (hq1 : f.q ≤ st - 1) (hon : onB f = true) (hsy : ∀ y ∈ f.W, ∀ x ∈ y, 0 ≤ x ∧ x ≤ sy - 1) :
    Calls Try.prog 187 #[.pointer (some ⟨g, 0, none⟩), .agg #[.int .i64 sy, .int .i64 st, .slice A0 n0 k0]] w (StepWP w lo g sy rs f) := by
  have hs0 := hs
  obtain ⟨A, c, ts, B, d, us, C, k, hb, ⟨hO, eW, eR⟩, hlg⟩ := hF
  obtain ⟨q, h, a, FW, FR, os⟩ := f
  obtain ⟨s1, s2, s3, s4, s5, s6, s7, s8, s9, s10⟩ := hs
  dsimp only at eW eR hb hO s1 s2 s3 s4 s5 s6 s7 s8 s9 s10 hq0 hq1 hsy
  subst eW eR
  rw [nums_len] at s2 s3 s4 s5 s6
  rw [nums_len] at s3
  obtain ⟨hN, rfl⟩ : ∃ hN : Nat, h = (hN : Int) := ⟨h.toNat, by omega⟩
  obtain ⟨t, bb, off, hT, htm, rfl, hbl, hc, _⟩ := hO.1.sii.pick (k := hN) (by omega)
  have hrw := rowAt_eq hT.out
  unfold onB at hon
  dsimp only at hon
  rw [hrw, inB_iff] at hon
  obtain ⟨aN, rfl⟩ : ∃ aN : Nat, a = (aN : Int) := ⟨a.toNat, by omega⟩
  have hax : aN < t.xs.length := by omega
  have htl : t.xs.length ≤ 1000 := s7 _ (List.mem_map.2 ⟨t, htm, rfl⟩)
  obtain ⟨x, hx⟩ : ∃ x, x = t.xs.getD aN 0 := ⟨_, rfl⟩
  have hxe : t.xs[aN]? = some x := by rw [hx, List.getD_eq_getElem?_getD, List.getElem?_eq_getElem hax]; rfl
  have hx01 := hsy _ (List.mem_map.2 ⟨t, htm, rfl⟩) x (List.mem_of_getElem? hxe)
  obtain ⟨idx, hidx, hil, hget, p0, p1, hv⟩ := rule_parts hm hq0 hq1 hx01.1 hx01.2
  obtain ⟨r, hrr⟩ : ∃ r, r = hereR sy rs ⟨q, (hN : Int), (aN : Int), nums ts, nums us, os⟩ := ⟨_, rfl⟩
  have hr2 : ruleAt sy rs q x = r := by rw [hrr]; unfold hereR; dsimp only; rw [hrw, Int.toNat_natCast, ← hx]
  have HRR := Lib.hid hrr
  rw [hr2] at hget hv
  obtain ⟨s1', s2', s3', s4'⟩ := machB_bounds hm
  have hrn : rs.length = n0 := hr.len
  obtain ⟨r', b0, off0, hr', _, rfl, hb0l, c0_, c1_, c2_⟩ := hr.pick (k := idx) (by omega)
  obtain rfl : r = r' := by have e2 := hr'.out; rw [hget] at e2; exact Option.some.inj e2
  have hrow := hO.1.2.1 t htm
  obtain ⟨tb, tof, htA, htlo, htbl, hcx, hfx⟩ := hrow.at_ (k := aN) (by simpa [ints] using hax)
  have hcx' : w.cell? ⟨tb, tof + aN, none⟩ = some (.int .i64 x) := by
    rw [hcx]
    have := hxe
    rw [List.getElem?_eq_getElem hax] at this
    simp [ints, Option.some.inj this]
  have hilt : idx < n0 := by omega
  have hgw := hb.lt
  have hw : lo ≤ w.heap.size := by omega
  have hgb : g ≠ bb := fun e => hb.aptt hO.1.1 (by decide) (by rw [e]; rfl)
  have hgt : g ≠ tb := fun e => hb.aptt hrow (by decide) (by rw [htA, e]; rfl)
  have HTA := Lib.hid htA
  have HTM := Lib.hid htm
  have HTT := hT
  have i1 : (0 : Int) ≤ (hN : Int) := by omega
  have i2 : (hN : Int) < (ts.length : Int) := by omega
  have i3 : (0 : Int) ≤ (aN : Int) := by omega
  have i4 : (aN : Int) < (t.xs.length : Int) := by omega
  have i5 : (0 : Int) ≤ (idx : Int) := by omega
  have i6 : (idx : Int) < (n0 : Int) := by omega
  have wmul : IntKind.i64.wrap (q * sy) = q * sy := IntWalk.i64_in _ (by omega)
  have wadd : IntKind.i64.wrap (q * sy + x) = (idx : Int) := by rw [hidx]; exact IntWalk.i64_in _ (by omega)
  have HV := Lib.hid hv
  have HFX : Hid (∀ W', Below w.heap.size w W' → W'.frozen? ⟨tb, tof + aN, none⟩ = false ∧ W'.cell? ⟨tb, tof + aN, none⟩ = some (.int .i64 x)) := Lib.hid (fun W' z => ⟨(z.frozen (p := ⟨tb, tof + aN, none⟩) htbl).trans hfx, (z.cell (p := ⟨tb, tof + aN, none⟩) htbl).trans hcx'⟩)
  have KS : Hid (∀ W', Below w.heap.size w W' → W'.cell? ⟨g, 3, none⟩ = some (.slice (some ⟨bb, off, none⟩) ts.length c) ∧ W'.cell? ⟨g, 1, none⟩ = some (.int .i64 (hN : Int)) ∧ W'.cell? ⟨bb, off + hN, none⟩ = some (.slice t.A t.xs.length t.c)) := Lib.hid (fun W' z => ⟨(hb.below' z).cell 3, (hb.below' z).cell 1, (z.cell (p := ⟨bb, off + hN, none⟩) hbl).trans hc⟩)
  obtain ⟨W, hW_⟩ : ∃ W, W = w.alloc (.cells #[.int .i64 sy, .int .i64 st, .slice (some ⟨b0, off0, none⟩) n0 k0] 36) := ⟨_, rfl⟩
  have bM : Blk W w.heap.size 36 #[.int .i64 sy, .int .i64 st, .slice (some ⟨b0, off0, none⟩) n0 k0] := by rw [hW_]; exact Blk.new w _ _
  have y0 : Below w.heap.size w W := by rw [hW_]; exact (Below.refl _ _).alloc (Nat.le_refl _) _
  have HW := Lib.hid hW_
  clear hW_
  have KR : Hid (∀ W', Below W.heap.size W W' → W'.cell? ⟨w.heap.size, 2, none⟩ = some (.slice (some ⟨b0, off0, none⟩) n0 k0) ∧ W'.cell? ⟨w.heap.size, 0, none⟩ = some (.int .i64 sy) ∧ W'.cell? ⟨g, 0, none⟩ = some (.int .i64 q) ∧ W'.cell? ⟨g, 2, none⟩ = some (.int .i64 (aN : Int)) ∧ W'.cell? ⟨tb, tof + aN, none⟩ = some (.int .i64 x) ∧ W'.cell? ⟨b0, off0 + idx * 3, none⟩ = some (.int .i64 r.a) ∧ W'.cell? ⟨b0, off0 + idx * 3 + 1, none⟩ = some (.int .i64 r.b) ∧ W'.cell? ⟨b0, off0 + idx * 3 + 2, none⟩ = some (.int .i64 r.c)) := Lib.hid (fun W' z => by
    have z2 : Below w.heap.size w W' := y0.trans (z.mono y0.size)
    exact ⟨(bM.below' z).cell 2, (bM.below' z).cell 0, (hb.below' z2).cell 0, (hb.below' z2).cell 2, (HFX.out _ z2).2, (z2.cell (p := ⟨b0, _, none⟩) hb0l).trans c0_, (z2.cell (p := ⟨b0, _, none⟩) hb0l).trans c1_, (z2.cell (p := ⟨b0, _, none⟩) hb0l).trans c2_⟩)
  have HB := Lib.hid hb
  have HO := Lib.hid hO
  have HSZ0 := Lib.hid hs0
  clear hs0 hb hO hc hcx hcx' hfx c0_ c1_ c2_ hget hr' hx hxe hidx p0 p1 hv hrw s1 s2 s3 s4 s5 s6 s7 s8 s9 s10 hrow htm hT htA hr hrr hr2 hsy hm
  go_enter Try.func187, Try.ntmps187
  go_upto_region 1 with fail
  rw [← HW.out]
  have hp : Below W.heap.size W W.drew := below_drewN (Below.refl _ _) 1
  refine wp_region_noPanic ?_
  refine wp_region_held_drew (S := (fun w' => w'.cell? ⟨g, 3, none⟩ = some (.slice (some ⟨bb, off, none⟩) ts.length c) ∧ w'.cell? ⟨g, 1, none⟩ = some (.int .i64 (hN : Int)) ∧ w'.cell? ⟨bb, off + hN, none⟩ = some (.slice t.A t.xs.length t.c))) (by kernel_rfl) ?_ (fun hHeld => ?_)
  · exact KS.out _ (y0.trans (hp.mono y0.size))
  generalize W.drew = W0 at *
  refine wpAnyH_take (i := 0) (v := ?_) rfl (by kernel_rfl) (by kernel_rfl) (by kernel_rfl) (fun _ _ _ h => h) (Or.inl ⟨by rfl, ?_⟩) (by assumption) ?_
  rotate_left
  · intro w hSw
    try dsimp only at hSw
    obtain ⟨hs0_, hs1_, hs2_⟩ := hSw
    go_simp
    try with_reducible rfl
  try simp only [Act.put, List.setIfInBounds_toArray]
  refine wpAnyH_take (i := 1) (v := ?_) rfl (by kernel_rfl) (by kernel_rfl) (by kernel_rfl) (fun _ _ _ h => h) (Or.inl ⟨by rfl, ?_⟩) (by assumption) ?_
  rotate_left
  · intro w hSw
    try dsimp only at hSw
    obtain ⟨hs0_, hs1_, hs2_⟩ := hSw
    go_simp
    try with_reducible rfl
  try simp only [Act.put]
  refine wpAnyH_take (i := 2) (v := ?_) rfl (by kernel_rfl) (by kernel_rfl) (by kernel_rfl) (fun _ _ _ h => h) (Or.inl ⟨by rfl, ?_⟩) (by assumption) ?_
  rotate_left
  · intro w hSw
    try dsimp only at hSw
    obtain ⟨hs0_, hs1_, hs2_⟩ := hSw
    go_simp
    try with_reducible rfl
  try simp only [Act.put]
  refine wpAnyH_take (i := 3) (v := ?_) rfl (by kernel_rfl) (by kernel_rfl) (by kernel_rfl) (fun _ _ _ h => h) (Or.inl ⟨by rfl, ?_⟩) (by assumption) ?_
  rotate_left
  · intro w hSw
    try dsimp only at hSw
    obtain ⟨hs0_, hs1_, hs2_⟩ := hSw
    go_simp
    try with_reducible rfl
  try simp only [Act.put]
  refine wpAnyH_take (i := 4) (v := ?_) rfl (by kernel_rfl) (by kernel_rfl) (by kernel_rfl) (fun _ _ _ h => h) (Or.inl ⟨by rfl, ?_⟩) (by assumption) ?_
  rotate_left
  · intro w hSw
    try dsimp only at hSw
    obtain ⟨hs0_, hs1_, hs2_⟩ := hSw
    go_simp
    try with_reducible rfl
  try simp only [Act.put]
  refine wpAnyH_take (i := 5) (v := ?_) rfl (by kernel_rfl) (by kernel_rfl) (by kernel_rfl) (fun _ _ _ h => h) (Or.inl ⟨by rfl, ?_⟩) (by assumption) ?_
  rotate_left
  · intro w hSw
    try dsimp only at hSw
    obtain ⟨hs0_, hs1_, hs2_⟩ := hSw
    go_simp
    try with_reducible rfl
  try simp only [Act.put]
  refine wpAnyH_take (i := 6) (v := ?_) rfl (by kernel_rfl) (by kernel_rfl) (by kernel_rfl) (fun _ _ _ h => h) (Or.inl ⟨by rfl, ?_⟩) (by assumption) ?_
  rotate_left
  · intro w hSw
    try dsimp only at hSw
    obtain ⟨hs0_, hs1_, hs2_⟩ := hSw
    go_simp
    try with_reducible rfl
  try simp only [Act.put]
  refine wpAnyH_take (i := 7) (v := ?_) rfl (by kernel_rfl) (by kernel_rfl) (by kernel_rfl) (fun _ _ _ h => h) (Or.inl ⟨by rfl, ?_⟩) (by assumption) ?_
  rotate_left
  · intro w hSw
    try dsimp only at hSw
    obtain ⟨hs0_, hs1_, hs2_⟩ := hSw
    go_simp
    try with_reducible rfl
  try simp only [Act.put]
  refine wpAnyH_take (i := 8) (v := ?_) rfl (by kernel_rfl) (by kernel_rfl) (by kernel_rfl) (fun _ _ _ h => h) (Or.inl ⟨by rfl, ?_⟩) (by assumption) ?_
  rotate_left
  · intro w hSw
    try dsimp only at hSw
    obtain ⟨hs0_, hs1_, hs2_⟩ := hSw
    go_simp
    try with_reducible rfl
  try simp only [Act.put]
  refine wpAnyH_take (i := 9) (v := ?_) rfl (by kernel_rfl) (by kernel_rfl) (by kernel_rfl) (fun _ _ _ h => h) (Or.inl ⟨by rfl, ?_⟩) (by assumption) ?_
  rotate_left
  · intro w hSw
    try dsimp only at hSw
    obtain ⟨hs0_, hs1_, hs2_⟩ := hSw
    go_simp
    try with_reducible rfl
  try simp only [Act.put]
  try simp only [List.getElem_toArray, List.getElem_cons_zero, List.getElem_cons_succ, List.setIfInBounds_toArray, List.set_cons_zero, List.set_cons_succ]
  refine wpAnyH_ready (rs := [10]) (by kernel_rfl) (by simp) ?_
  refine AllReadyH.cons rfl (fun K hK => ?_) ?_
  · go_simp
    refine hK.out _ _ ?_ (fun hHeld => ?_)
    · exact KS.out _ (y0.trans (hp.mono y0.size))
    clear hK K
    try simp only [Act.put, List.setIfInBounds_toArray, List.set_cons_zero, List.set_cons_succ]
    refine wpAnyH_done (by kernel_rfl) ?_ _
    refine NoPanic.normal ?_
    rw [HTA.out]
    go_upto_region 2 with fail
    have hp2 : Below W.heap.size W W0.drew := hp.trans ((below_drewN (Below.refl W0.heap.size W0) 1).mono hp.size)
    refine wp_region_noPanic ?_
    refine wp_region_held_drew (S := (fun w' => w'.cell? ⟨w.heap.size, 2, none⟩ = some (.slice (some ⟨b0, off0, none⟩) n0 k0) ∧ w'.cell? ⟨w.heap.size, 0, none⟩ = some (.int .i64 sy) ∧ w'.cell? ⟨g, 0, none⟩ = some (.int .i64 q) ∧ w'.cell? ⟨g, 2, none⟩ = some (.int .i64 (aN : Int)) ∧ w'.cell? ⟨tb, tof + aN, none⟩ = some (.int .i64 x) ∧ w'.cell? ⟨b0, off0 + idx * 3, none⟩ = some (.int .i64 r.a) ∧ w'.cell? ⟨b0, off0 + idx * 3 + 1, none⟩ = some (.int .i64 r.b) ∧ w'.cell? ⟨b0, off0 + idx * 3 + 2, none⟩ = some (.int .i64 r.c))) (by kernel_rfl) ?_ (fun hHeld => ?_)
    · exact KR.out _ hp2
    generalize W0.drew = Wc at *
    refine wpAnyH_take (i := 0) (v := ?_) rfl (by kernel_rfl) (by kernel_rfl) (by kernel_rfl) (fun _ _ _ h => h) (Or.inl ⟨by rfl, ?_⟩) (by assumption) ?_
    rotate_left
    · intro w hSw
      try dsimp only at hSw
      obtain ⟨hs0_, hs1_, hs2_, hs3_, hs4_, hs5_, hs6_, hs7_⟩ := hSw
      go_simp
      try with_reducible rfl
    try simp only [Act.put, List.setIfInBounds_toArray]
    refine wpAnyH_take (i := 1) (v := ?_) rfl (by kernel_rfl) (by kernel_rfl) (by kernel_rfl) (fun _ _ _ h => h) (Or.inl ⟨by rfl, ?_⟩) (by assumption) ?_
    rotate_left
    · intro w hSw
      try dsimp only at hSw
      obtain ⟨hs0_, hs1_, hs2_, hs3_, hs4_, hs5_, hs6_, hs7_⟩ := hSw
      go_simp
      try with_reducible rfl
    try simp only [Act.put]
    refine wpAnyH_take (i := 2) (v := ?_) rfl (by kernel_rfl) (by kernel_rfl) (by kernel_rfl) (fun _ _ _ h => h) (Or.inl ⟨by rfl, ?_⟩) (by assumption) ?_
    rotate_left
    · intro w hSw
      try dsimp only at hSw
      obtain ⟨hs0_, hs1_, hs2_, hs3_, hs4_, hs5_, hs6_, hs7_⟩ := hSw
      go_simp
      try with_reducible rfl
    try simp only [Act.put]
    refine wpAnyH_take (i := 3) (v := ?_) rfl (by kernel_rfl) (by kernel_rfl) (by kernel_rfl) (fun _ _ _ h => h) (Or.inl ⟨by rfl, ?_⟩) (by assumption) ?_
    rotate_left
    · intro w hSw
      try dsimp only at hSw
      obtain ⟨hs0_, hs1_, hs2_, hs3_, hs4_, hs5_, hs6_, hs7_⟩ := hSw
      go_simp
      try with_reducible rfl
    try simp only [Act.put]
    refine wpAnyH_take (i := 4) (v := ?_) rfl (by kernel_rfl) (by kernel_rfl) (by kernel_rfl) (fun _ _ _ h => h) (Or.inl ⟨by rfl, ?_⟩) (by assumption) ?_
    rotate_left
    · intro w hSw
      try dsimp only at hSw
      obtain ⟨hs0_, hs1_, hs2_, hs3_, hs4_, hs5_, hs6_, hs7_⟩ := hSw
      go_simp
      try with_reducible rfl
    try simp only [Act.put]
    refine wpAnyH_take (i := 5) (v := ?_) rfl (by kernel_rfl) (by kernel_rfl) (by kernel_rfl) (fun _ _ _ h => h) (Or.inl ⟨by rfl, ?_⟩) (by assumption) ?_
    rotate_left
    · intro w hSw
      try dsimp only at hSw
      obtain ⟨hs0_, hs1_, hs2_, hs3_, hs4_, hs5_, hs6_, hs7_⟩ := hSw
      go_simp
      try with_reducible rfl
    try simp only [Act.put]
    refine wpAnyH_take (i := 6) (v := ?_) rfl (by kernel_rfl) (by kernel_rfl) (by kernel_rfl) (fun _ _ _ h => h) (Or.inl ⟨by rfl, ?_⟩) (by assumption) ?_
    rotate_left
    · intro w hSw
      try dsimp only at hSw
      obtain ⟨hs0_, hs1_, hs2_, hs3_, hs4_, hs5_, hs6_, hs7_⟩ := hSw
      go_simp
      try with_reducible rfl
    try simp only [Act.put]
    refine wpAnyH_take (i := 7) (v := ?_) rfl (by kernel_rfl) (by kernel_rfl) (by kernel_rfl) (fun _ _ _ h => h) (Or.inl ⟨by rfl, ?_⟩) (by assumption) ?_
    rotate_left
    · intro w hSw
      try dsimp only at hSw
      obtain ⟨hs0_, hs1_, hs2_, hs3_, hs4_, hs5_, hs6_, hs7_⟩ := hSw
      go_simp
      try with_reducible rfl
    try simp only [Act.put]
    refine wpAnyH_take (i := 8) (v := ?_) rfl (by kernel_rfl) (by kernel_rfl) (by kernel_rfl) (fun _ _ _ h => h) (Or.inl ⟨by rfl, ?_⟩) (by assumption) ?_
    rotate_left
    · intro w hSw
      try dsimp only at hSw
      obtain ⟨hs0_, hs1_, hs2_, hs3_, hs4_, hs5_, hs6_, hs7_⟩ := hSw
      go_simp
      try with_reducible rfl
    try simp only [Act.put]
    refine wpAnyH_take (i := 9) (v := ?_) rfl (by kernel_rfl) (by kernel_rfl) (by kernel_rfl) (fun _ _ _ h => h) (Or.inl ⟨by rfl, ?_⟩) (by assumption) ?_
    rotate_left
    · intro w hSw
      try dsimp only at hSw
      obtain ⟨hs0_, hs1_, hs2_, hs3_, hs4_, hs5_, hs6_, hs7_⟩ := hSw
      go_simp
      try with_reducible rfl
    try simp only [Act.put]
    refine wpAnyH_take (i := 10) (v := ?_) rfl (by kernel_rfl) (by kernel_rfl) (by kernel_rfl) (fun _ _ _ h => h) (Or.inl ⟨by rfl, ?_⟩) (by assumption) ?_
    rotate_left
    · intro w hSw
      try dsimp only at hSw
      obtain ⟨hs0_, hs1_, hs2_, hs3_, hs4_, hs5_, hs6_, hs7_⟩ := hSw
      go_simp
      try with_reducible rfl
    try simp only [Act.put]
    refine wpAnyH_take (i := 11) (v := ?_) rfl (by kernel_rfl) (by kernel_rfl) (by kernel_rfl) (fun _ _ _ h => h) (Or.inl ⟨by rfl, ?_⟩) (by assumption) ?_
    rotate_left
    · intro w hSw
      try dsimp only at hSw
      obtain ⟨hs0_, hs1_, hs2_, hs3_, hs4_, hs5_, hs6_, hs7_⟩ := hSw
      go_simp
      try with_reducible rfl
    try simp only [Act.put]
    refine wpAnyH_take (i := 12) (v := ?_) rfl (by kernel_rfl) (by kernel_rfl) (by kernel_rfl) (fun _ _ _ h => h) (Or.inl ⟨by rfl, ?_⟩) (by assumption) ?_
    rotate_left
    · intro w hSw
      try dsimp only at hSw
      obtain ⟨hs0_, hs1_, hs2_, hs3_, hs4_, hs5_, hs6_, hs7_⟩ := hSw
      go_simp
      try with_reducible rfl
    try simp only [Act.put]
    refine wpAnyH_take (i := 13) (v := ?_) rfl (by kernel_rfl) (by kernel_rfl) (by kernel_rfl) (fun _ _ _ h => h) (Or.inl ⟨by rfl, ?_⟩) (by assumption) ?_
    rotate_left
    · intro w hSw
      try dsimp only at hSw
      obtain ⟨hs0_, hs1_, hs2_, hs3_, hs4_, hs5_, hs6_, hs7_⟩ := hSw
      go_simp
      try with_reducible rfl
    try simp only [Act.put]
    refine wpAnyH_take (i := 14) (v := ?_) rfl (by kernel_rfl) (by kernel_rfl) (by kernel_rfl) (fun _ _ _ h => h) (Or.inl ⟨by rfl, ?_⟩) (by assumption) ?_
    rotate_left
    · intro w hSw
      try dsimp only at hSw
      obtain ⟨hs0_, hs1_, hs2_, hs3_, hs4_, hs5_, hs6_, hs7_⟩ := hSw
      go_simp
      try with_reducible rfl
    try simp only [Act.put]
    refine wpAnyH_take (i := 15) (v := ?_) rfl (by kernel_rfl) (by kernel_rfl) (by kernel_rfl) (fun _ _ _ h => h) (Or.inl ⟨by rfl, ?_⟩) (by assumption) ?_
    rotate_left
    · intro w hSw
      try dsimp only at hSw
      obtain ⟨hs0_, hs1_, hs2_, hs3_, hs4_, hs5_, hs6_, hs7_⟩ := hSw
      go_simp
      try with_reducible rfl
    try simp only [Act.put]
    refine wpAnyH_take (i := 16) (v := ?_) rfl (by kernel_rfl) (by kernel_rfl) (by kernel_rfl) (fun _ _ _ h => h) (Or.inl ⟨by rfl, ?_⟩) (by assumption) ?_
    rotate_left
    · intro w hSw
      try dsimp only at hSw
      obtain ⟨hs0_, hs1_, hs2_, hs3_, hs4_, hs5_, hs6_, hs7_⟩ := hSw
      go_simp
      try with_reducible rfl
    try simp only [Act.put]
    refine wpAnyH_take (i := 17) (v := ?_) rfl (by kernel_rfl) (by kernel_rfl) (by kernel_rfl) (fun _ _ _ h => h) (Or.inl ⟨by rfl, ?_⟩) (by assumption) ?_
    rotate_left
    · intro w hSw
      try dsimp only at hSw
      obtain ⟨hs0_, hs1_, hs2_, hs3_, hs4_, hs5_, hs6_, hs7_⟩ := hSw
      go_simp
      try with_reducible rfl
    try simp only [Act.put]
    refine wpAnyH_take (i := 18) (v := ?_) rfl (by kernel_rfl) (by kernel_rfl) (by kernel_rfl) (fun _ _ _ h => h) (Or.inl ⟨by rfl, ?_⟩) (by assumption) ?_
    rotate_left
    · intro w hSw
      try dsimp only at hSw
      obtain ⟨hs0_, hs1_, hs2_, hs3_, hs4_, hs5_, hs6_, hs7_⟩ := hSw
      go_simp
      try with_reducible rfl
    try simp only [Act.put]
    try simp only [List.getElem_toArray, List.getElem_cons_zero, List.getElem_cons_succ, List.setIfInBounds_toArray, List.set_cons_zero, List.set_cons_succ]
    refine wpAnyH_ready (rs := [19]) (by kernel_rfl) (by simp) ?_
    refine AllReadyH.cons rfl (fun K hK => ?_) ?_
    · go_simp
      obtain ⟨Wn, g13, hWn, hg, z, h13, l13, hp3⟩ := alloc_pack3 hp2 hp2.size #[.int .i64 0, .int .i64 0, .int .i64 0] 229
      rw [hWn, ← hg]
      have hpc := hp3
      clear hWn hg z
      refine hK.out _ _ ?_ (fun hHeld => ?_)
      · exact KR.out _ hpc
      clear hK K
      try simp only [Act.put, List.setIfInBounds_toArray, List.set_cons_zero, List.set_cons_succ]
      try simp only [putAll, markAll, dstAt, Act.put, List.getElem_toArray, List.getElem?_toArray, List.getElem_cons_zero, List.getElem_cons_succ, List.getElem?_cons_zero, List.getElem?_cons_succ, Option.bind_some, List.setIfInBounds_toArray, List.set_cons_zero, List.set_cons_succ]
      refine wpAnyH_ready (rs := [20]) (by kernel_rfl) (by simp) ?_
      refine AllReadyH.cons rfl (fun K hK => ?_) ?_
      · skip
        have x0 : Wn.cell? ⟨g13, 0, none⟩ = some (.int .i64 0) := h13.cell 0
        have x1 : Wn.cell? ⟨g13, 1, none⟩ = some (.int .i64 0) := h13.cell 1
        have x2 : Wn.cell? ⟨g13, 2, none⟩ = some (.int .i64 0) := h13.cell 2
        have f0 := h13.frozen 0
        have f1 := h13.frozen 1
        have f2 := h13.frozen 2
        go_simp
        clear x0 x1 x2 f0 f1 f2
        have dB : Blk (((Wn.setCell ⟨g13, 0, none⟩ (.int .i64 r.a)).setCell ⟨g13, 1, none⟩ (.int .i64 r.b)).setCell ⟨g13, 2, none⟩ (.int .i64 r.c)) g13 229 #[.int .i64 r.a, .int .i64 r.b, .int .i64 r.c] := (((h13).set_ 0 (.int .i64 r.a)).set_ 1 (.int .i64 r.b)).set_ 2 (.int .i64 r.c)
        have yS : ∀ (lo : Nat) (w0 : World), Below lo w0 Wn → lo ≤ g13 → Below lo w0 (((Wn.setCell ⟨g13, 0, none⟩ (.int .i64 r.a)).setCell ⟨g13, 1, none⟩ (.int .i64 r.b)).setCell ⟨g13, 2, none⟩ (.int .i64 r.c)) := fun lo w0 h hl => (((h.setCell hl _).setCell hl _).setCell hl _)
        have kS : ∀ k, k ≠ g13 → (((Wn.setCell ⟨g13, 0, none⟩ (.int .i64 r.a)).setCell ⟨g13, 1, none⟩ (.int .i64 r.b)).setCell ⟨g13, 2, none⟩ (.int .i64 r.c)).heap[k]? = Wn.heap[k]? := fun k hk => ((Below.heap_setCell _ _ _ _ hk).trans ((Below.heap_setCell _ _ _ _ hk).trans (Below.heap_setCell _ _ _ _ hk)))
        generalize ((Wn.setCell ⟨g13, 0, none⟩ (.int .i64 r.a)).setCell ⟨g13, 1, none⟩ (.int .i64 r.b)).setCell ⟨g13, 2, none⟩ (.int .i64 r.c) = wf at *
        have hpf := yS _ _ hp3 l13
        have hpc := hpf
        refine hK.out _ _ ?_ (fun hHeld => ?_)
        · exact KR.out _ hpc
        clear hK K
        try simp only [Act.put, List.setIfInBounds_toArray]
        refine wpAnyH_done (by kernel_rfl) ?_ _
        refine NoPanic.normal ?_
        clear KR KS hpc hp3 hp2 hp
        have e0 : wf.cell? ⟨g13, 0, none⟩ = some (.int .i64 r.a) := dB.cell 0
        have e1 : wf.cell? ⟨g13, 1, none⟩ = some (.int .i64 r.b) := dB.cell 1
        have e2 : wf.cell? ⟨g13, 2, none⟩ = some (.int .i64 r.c) := dB.cell 2
        have zwf : Below w.heap.size w wf := y0.trans (hpf.mono y0.size)
        cases hru : isRuleB r
        · have HRU := Lib.hid hru
          have HNO : Hid (isRuleB (hereR sy rs ⟨q, (hN : Int), (aN : Int), nums ts, nums us, os⟩) = false) := Lib.hid (by rw [← HRR.out]; exact hru)
          clear hru
          go_wp2_with (go_at_call 259; refine (isRule_is HRU.out _).mono ?_; rintro e W3 ⟨rfl, z3⟩)
          go_ret
          exact .inr ⟨HNO.out, rfl, zwf.trans (z3.mono zwf.size)⟩
        have HRU := Lib.hid hru
        have HYES : Hid (isRuleB (hereR sy rs ⟨q, (hN : Int), (aN : Int), nums ts, nums us, os⟩) = true) := Lib.hid (by rw [← HRR.out]; exact hru)
        have hvv := HV.out
        unfold validRuleB at hvv
        rw [hru] at hvv
        simp only [Bool.not_true, Bool.false_or, Bool.and_eq_true, Bool.or_eq_true, beq_iff_eq, inB_iff] at hvv
        obtain ⟨⟨⟨ra0, ra1⟩, hrb⟩, rc0, rc1⟩ := hvv
        have rb0 : -1 ≤ r.b := by omega
        have rb1 : r.b ≤ 1 := by omega
        clear hru hrb
        go_wp2_with fail
        refine (isRule_is HRU.out _).mono ?_
        rintro e W3 ⟨rfl, z3⟩
        have zw3 : Below w.heap.size w W3 := zwf.trans (z3.mono zwf.size)
        have hW0 := y0.size
        have g13n : g13 ≠ tb := by omega
        have g13m : g13 ≠ g := by omega
        have HD3 := Lib.hid (dB.below' z3)
        clear e0 e1 e2 dB z3
        go_upto_region 5 with fail
        have zd : Below w.heap.size w W3.drew := zw3.trans ((below_drewN (Below.refl W3.heap.size W3) 1).mono zw3.size)
        have dd3 : Blk W3.drew g13 229 #[.int .i64 r.a, .int .i64 r.b, .int .i64 r.c] := HD3.out.below' (below_drewN (Below.refl W3.heap.size W3) 1)
        have hb3 := HB.out.below' zd
        have hO3 := HO.out.below zd
        refine wp_region_noPanic ?_
        refine wp_region_held_drew (S := (fun w' => w'.cell? ⟨g, 2, none⟩ = some (.int .i64 (aN : Int)) ∧ w'.cell? ⟨g13, 0, none⟩ = some (.int .i64 r.a))) (by kernel_rfl) ?_ (fun hHeld => ?_)
        · exact ⟨hb3.cell 2, dd3.cell 0⟩
        generalize W3.drew = Wd at *
        refine wpAnyH_take (i := 0) (v := ?_) rfl (by kernel_rfl) (by kernel_rfl) (by kernel_rfl) (fun _ _ _ h => h) (Or.inl ⟨by rfl, ?_⟩) (by assumption) ?_
        rotate_left
        · intro w hSw
          try dsimp only at hSw
          obtain ⟨hs0_, hs1_⟩ := hSw
          go_simp
          try with_reducible rfl
        try simp only [Act.put, List.setIfInBounds_toArray]
        refine wpAnyH_take (i := 1) (v := ?_) rfl (by kernel_rfl) (by kernel_rfl) (by kernel_rfl) (fun _ _ _ h => h) (Or.inl ⟨by rfl, ?_⟩) (by assumption) ?_
        rotate_left
        · intro w hSw
          try dsimp only at hSw
          obtain ⟨hs0_, hs1_⟩ := hSw
          go_simp
          try with_reducible rfl
        try simp only [Act.put]
        refine wpAnyH_take (i := 2) (v := ?_) rfl (by kernel_rfl) (by kernel_rfl) (by kernel_rfl) (fun _ _ _ h => h) (Or.inl ⟨by rfl, ?_⟩) (by assumption) ?_
        rotate_left
        · intro w hSw
          try dsimp only at hSw
          obtain ⟨hs0_, hs1_⟩ := hSw
          go_simp
          try with_reducible rfl
        try simp only [Act.put]
        refine wpAnyH_take (i := 3) (v := ?_) rfl (by kernel_rfl) (by kernel_rfl) (by kernel_rfl) (fun _ _ _ h => h) (Or.inl ⟨by rfl, ?_⟩) (by assumption) ?_
        rotate_left
        · intro w hSw
          try dsimp only at hSw
          obtain ⟨hs0_, hs1_⟩ := hSw
          go_simp
          try with_reducible rfl
        try simp only [Act.put]
        refine wpAnyH_take (i := 4) (v := ?_) rfl (by kernel_rfl) (by kernel_rfl) (by kernel_rfl) (fun _ _ _ h => h) (Or.inl ⟨by rfl, ?_⟩) (by assumption) ?_
        rotate_left
        · intro w hSw
          try dsimp only at hSw
          obtain ⟨hs0_, hs1_⟩ := hSw
          go_simp
          try with_reducible rfl
        try simp only [Act.put]
        refine wpAnyH_take (i := 5) (v := ?_) rfl (by kernel_rfl) (by kernel_rfl) (by kernel_rfl) (fun _ _ _ h => h) (Or.inl ⟨by rfl, ?_⟩) (by assumption) ?_
        rotate_left
        · intro w hSw
          try dsimp only at hSw
          obtain ⟨hs0_, hs1_⟩ := hSw
          go_simp
          try with_reducible rfl
        try simp only [Act.put]
        refine wpAnyH_take (i := 6) (v := ?_) rfl (by kernel_rfl) (by kernel_rfl) (by kernel_rfl) (fun _ _ _ h => h) (Or.inl ⟨by rfl, ?_⟩) (by assumption) ?_
        rotate_left
        · intro w hSw
          try dsimp only at hSw
          obtain ⟨hs0_, hs1_⟩ := hSw
          go_simp
          try with_reducible rfl
        try simp only [Act.put]
        refine wpAnyH_take (i := 7) (v := ?_) rfl (by kernel_rfl) (by kernel_rfl) (by kernel_rfl) (fun _ _ _ h => h) (Or.inl ⟨by rfl, ?_⟩) (by assumption) ?_
        rotate_left
        · intro w hSw
          try dsimp only at hSw
          obtain ⟨hs0_, hs1_⟩ := hSw
          go_simp
          try with_reducible rfl
        try simp only [Act.put]
        try simp only [List.getElem_toArray, List.getElem_cons_zero, List.getElem_cons_succ, List.setIfInBounds_toArray, List.set_cons_zero, List.set_cons_succ]
        refine wpAnyH_ready (rs := [8]) (by kernel_rfl) (by simp) ?_
        refine AllReadyH.cons rfl (fun K hK => ?_) ?_
        · skip
          obtain ⟨hfx3, hcx3⟩ := HFX.out _ zd
          go_simp
          have hO5 := hO3.setW HTT.out HTA.out hax r.a
          have hb5 := hb3.far (p := ⟨tb, tof + aN, none⟩) hgt (.int .i64 r.a)
          have dB5 := dd3.far (p := ⟨tb, tof + aN, none⟩) g13n (.int .i64 r.a)
          have fr5 : FrF w (Wd.setCell ⟨tb, tof + aN, none⟩ (.int .i64 r.a)) := (FrF.below zd).setI (hO3.1.2.1 t HTM.out) HTA.out _
          have hz5 : Below lo w (Wd.setCell ⟨tb, tof + aN, none⟩ (.int .i64 r.a)) := (zd.mono hw).setCell htlo _
          generalize Wd.setCell ⟨tb, tof + aN, none⟩ (.int .i64 r.a) = W5 at *
          refine hK.out _ _ ?_ (fun hHeld => ?_)
          · exact ⟨hb5.cell 2, dB5.cell 0⟩
          clear hK K
          try simp only [Act.put, List.setIfInBounds_toArray]
          refine wpAnyH_done (by kernel_rfl) ?_ _
          refine NoPanic.normal ?_
          clear hb3 hO3 dd3 HFX HB HO
          have v0 : W5.cell? ⟨g, 0, none⟩ = some (.int .i64 q) := hb5.cell 0
          have v1 : W5.cell? ⟨g, 1, none⟩ = some (.int .i64 (hN : Int)) := hb5.cell 1
          have v2 : W5.cell? ⟨g, 2, none⟩ = some (.int .i64 (aN : Int)) := hb5.cell 2
          have v3 : W5.cell? ⟨g, 3, none⟩ = some (.slice (some ⟨bb, off, none⟩) ts.length c) := hb5.cell 3
          have v4 : W5.cell? ⟨g, 4, none⟩ = some (.slice B us.length d) := hb5.cell 4
          have v5 : W5.cell? ⟨g, 5, none⟩ = some (.slice C os.length k) := hb5.cell 5
          have f0 := hb5.frozen 0
          have f1 := hb5.frozen 1
          have f2 := hb5.frozen 2
          have f3 := hb5.frozen 3
          have f4 := hb5.frozen 4
          have f5 := hb5.frozen 5
          have e0 : W5.cell? ⟨g13, 0, none⟩ = some (.int .i64 r.a) := dB5.cell 0
          have e1 : W5.cell? ⟨g13, 1, none⟩ = some (.int .i64 r.b) := dB5.cell 1
          have e2 : W5.cell? ⟨g13, 2, none⟩ = some (.int .i64 r.c) := dB5.cell 2
          go_upto_region 7 with fail
          have hO6 := hO5.boxed hb5 (w' := W5.setCell ⟨g, 0, none⟩ (.int .i64 r.c)) (fun b hb => Below.heap_setCell _ _ _ _ hb)
          have dB6 := dB5.far (p := ⟨g, 0, none⟩) g13m (.int .i64 r.c)
          have hz6 : Below lo w (W5.setCell ⟨g, 0, none⟩ (.int .i64 r.c)) := hz5.setCell hlg _
          have fr6 : FrF w (W5.setCell ⟨g, 0, none⟩ (.int .i64 r.c)) := fr5.setB hb5 _
          have hb6 : Blk (W5.setCell ⟨g, 0, none⟩ (.int .i64 r.c)) g 31 #[.int .i64 r.c, .int .i64 (hN : Int), .int .i64 (aN : Int), .slice (some ⟨bb, off, none⟩) ts.length c, .slice B us.length d, .slice C os.length k] := hb5.set_ 0 _
          clear v0 v1 v2 v3 v4 v5 f0 f1 f2 f3 f4 f5 e0 e1 e2 hb5 hO5 dB5 hz5
          generalize W5.setCell ⟨g, 0, none⟩ (.int .i64 r.c) = W6 at *
          have zd6 : Below W6.heap.size W6 W6.drew := below_drewN (Below.refl W6.heap.size W6) 1
          have waN : IntKind.i64.wrap ((aN : Int) + r.b) = (aN : Int) + r.b := IntWalk.i64_in _ (by omega)
          have hb7 := hb6.below' zd6
          have dB7 := dB6.below' zd6
          have hO7 := hO6.below zd6
          have fr7 := fr6.trans (FrF.below zd6)
          have hz7 := hz6.trans (zd6.mono (Nat.le_trans hw hz6.size))
          clear hb6 dB6 hO6
          refine wp_region_noPanic ?_
          refine wp_region_held_drew (S := (fun w' => w'.cell? ⟨g13, 1, none⟩ = some (.int .i64 r.b))) (by kernel_rfl) ?_ (fun hHeld => ?_)
          · exact dB7.cell 1
          generalize W6.drew = Wq at *
          refine wpAnyH_take (i := 0) (v := ?_) rfl (by kernel_rfl) (by kernel_rfl) (by kernel_rfl) (fun _ _ _ h => h) (Or.inl ⟨by rfl, ?_⟩) (by assumption) ?_
          rotate_left
          · intro w hSw
            try dsimp only at hSw
            go_simp
            try with_reducible rfl
          try simp only [Act.put, List.setIfInBounds_toArray]
          refine wpAnyH_take (i := 1) (v := ?_) rfl (by kernel_rfl) (by kernel_rfl) (by kernel_rfl) (fun _ _ _ h => h) (Or.inl ⟨by rfl, ?_⟩) (by assumption) ?_
          rotate_left
          · intro w hSw
            try dsimp only at hSw
            go_simp
            try with_reducible rfl
          try simp only [Act.put]
          refine wpAnyH_take (i := 2) (v := ?_) rfl (by kernel_rfl) (by kernel_rfl) (by kernel_rfl) (fun _ _ _ h => h) (Or.inl ⟨by rfl, ?_⟩) (by assumption) ?_
          rotate_left
          · intro w hSw
            try dsimp only at hSw
            go_simp
            try with_reducible rfl
          try simp only [Act.put]
          refine wpAnyH_take (i := 4) (v := ?_) rfl (by kernel_rfl) (by kernel_rfl) (by kernel_rfl) (fun _ _ _ h => h) (Or.inl ⟨by rfl, ?_⟩) (by assumption) ?_
          rotate_left
          · intro w hSw
            try dsimp only at hSw
            go_simp
            try with_reducible rfl
          try simp only [Act.put]
          refine wpAnyH_take (i := 5) (v := ?_) rfl (by kernel_rfl) (by kernel_rfl) (by kernel_rfl) (fun _ _ _ h => h) (Or.inl ⟨by rfl, ?_⟩) (by assumption) ?_
          rotate_left
          · intro w hSw
            try dsimp only at hSw
            go_simp
            try with_reducible rfl
          try simp only [Act.put]
          try simp only [List.getElem_toArray, List.getElem_cons_zero, List.getElem_cons_succ, List.setIfInBounds_toArray, List.set_cons_zero, List.set_cons_succ]
          refine wpAnyH_ready (rs := [3]) (by kernel_rfl) (by simp) ?_
          refine AllReadyH.cons rfl (fun K hK => ?_) ?_
          · have v2 : Wq.cell? ⟨g, 2, none⟩ = some (.int .i64 (aN : Int)) := hb7.cell 2
            go_simp
            clear v2
            have hS := dB7.cell 1
            refine hK.out _ _ ?_ (fun hHeld => ?_)
            · exact hS
            clear hK K
            try simp only [Act.put, List.setIfInBounds_toArray, List.set_cons_zero, List.set_cons_succ]
            refine wpAnyH_take (i := 6) (v := ?_) rfl (by kernel_rfl) (by kernel_rfl) (by kernel_rfl) (fun _ _ _ h => h) (Or.inl ⟨by rfl, ?_⟩) (by assumption) ?_
            rotate_left
            · intro w hSw
              try dsimp only at hSw
              go_simp
              try with_reducible rfl
            try simp only [Act.put, List.setIfInBounds_toArray]
            refine wpAnyH_take (i := 7) (v := ?_) rfl (by kernel_rfl) (by kernel_rfl) (by kernel_rfl) (fun _ _ _ h => h) (Or.inl ⟨by rfl, ?_⟩) (by assumption) ?_
            rotate_left
            · intro w hSw
              try dsimp only at hSw
              go_simp
              try with_reducible rfl
            try simp only [Act.put]
            refine wpAnyH_take (i := 8) (v := ?_) rfl (by kernel_rfl) (by kernel_rfl) (by kernel_rfl) (fun _ _ _ h => h) (Or.inl ⟨by rfl, ?_⟩) (by assumption) ?_
            rotate_left
            · intro w hSw
              try dsimp only at hSw
              go_simp
              try with_reducible rfl
            try simp only [Act.put]
            try simp only [List.getElem_toArray, List.getElem_cons_zero, List.getElem_cons_succ, List.setIfInBounds_toArray, List.set_cons_zero, List.set_cons_succ]
            refine wpAnyH_ready (rs := [9]) (by kernel_rfl) (by simp) ?_
            refine AllReadyH.cons rfl (fun K hK => ?_) ?_
            · skip
              have v0 : Wq.cell? ⟨g, 0, none⟩ = some (.int .i64 r.c) := hb7.cell 0
              have v1 : Wq.cell? ⟨g, 1, none⟩ = some (.int .i64 (hN : Int)) := hb7.cell 1
              have v2 : Wq.cell? ⟨g, 2, none⟩ = some (.int .i64 (aN : Int)) := hb7.cell 2
              have v3 : Wq.cell? ⟨g, 3, none⟩ = some (.slice (some ⟨bb, off, none⟩) ts.length c) := hb7.cell 3
              have v4 : Wq.cell? ⟨g, 4, none⟩ = some (.slice B us.length d) := hb7.cell 4
              have v5 : Wq.cell? ⟨g, 5, none⟩ = some (.slice C os.length k) := hb7.cell 5
              have f0 := hb7.frozen 0
              have f1 := hb7.frozen 1
              have f2 := hb7.frozen 2
              have f3 := hb7.frozen 3
              have f4 := hb7.frozen 4
              have f5 := hb7.frozen 5
              go_simp
              have hO8 := hO7.boxed hb7 (w' := Wq.setCell ⟨g, 2, none⟩ (.int .i64 ((aN : Int) + r.b))) (fun b hb => Below.heap_setCell _ _ _ _ hb)
              have hz8 : Below lo w (Wq.setCell ⟨g, 2, none⟩ (.int .i64 ((aN : Int) + r.b))) := hz7.setCell hlg _
              have hb8 : Blk (Wq.setCell ⟨g, 2, none⟩ (.int .i64 ((aN : Int) + r.b))) g 31 #[.int .i64 r.c, .int .i64 (hN : Int), .int .i64 ((aN : Int) + r.b), .slice (some ⟨bb, off, none⟩) ts.length c, .slice B us.length d, .slice C os.length k] := hb7.set_ 2 _
              have fr8 : FrF w (Wq.setCell ⟨g, 2, none⟩ (.int .i64 ((aN : Int) + r.b))) := fr7.setB hb7 _
              have dB8 := dB7.far (p := ⟨g, 2, none⟩) g13m (.int .i64 ((aN : Int) + r.b))
              generalize Wq.setCell ⟨g, 2, none⟩ (.int .i64 ((aN : Int) + r.b)) = W8 at *
              have hS := dB8.cell 1
              refine hK.out _ _ ?_ (fun hHeld => ?_)
              · exact hS
              clear hK K
              try simp only [Act.put, List.setIfInBounds_toArray]
              refine wpAnyH_done (by kernel_rfl) ?_ _
              refine NoPanic.normal ?_
              have hF8 : FmBox W8 lo g ⟨r.c, (hN : Int), (aN : Int) + r.b, (nums ts).set hN (t.xs.set aN r.a), nums us, os⟩ := ⟨_, c, ts.set hN ⟨t.A, t.c, t.xs.set aN r.a⟩, B, d, us, C, k, by rw [List.length_set]; exact hb8, ⟨hO8, nums_set _ _ _, rfl⟩, hlg⟩
              have hsz8 : FmSz ⟨r.c, (hN : Int), (aN : Int) + r.b, (nums ts).set hN (t.xs.set aN r.a), nums us, os⟩ := by
                obtain ⟨p1, p2, p3, p4, p5, p6, p7, p8, p9, p10⟩ := HSZ0.out
                refine ⟨p1, p2, by rw [List.length_set]; exact p3, p4, p5, p6, ?_, p8, by show -1 ≤ (aN : Int) + r.b; omega, by show (aN : Int) + r.b ≤ 1000; omega⟩
                intro y hy
                rcases List.mem_or_eq_of_mem_set hy with hh | hh
                · exact p7 y hh
                · rw [hh, List.length_set]; exact htl
              have HWD := Lib.hid (widen_any g lo _ W8 hF8 hsz8)
              have HWE : Hid (widenF ⟨r.c, (hN : Int), (aN : Int) + r.b, (nums ts).set hN (t.xs.set aN r.a), nums us, os⟩ = wallF ⟨q, (hN : Int), (aN : Int), nums ts, nums us, os⟩ (hereR sy rs ⟨q, (hN : Int), (aN : Int), nums ts, nums us, os⟩)) := Lib.hid (by
                rw [← HRR.out]
                unfold wallF
                dsimp only
                rw [rowAt_eq HTT.out, Int.toNat_natCast, Int.toNat_natCast])
              rw [HWE.out] at HWD
              clear hF8 hsz8 hb8 hO8 hb7 hO7 dB7 dB8
              go_wp2_with fail
              refine HWD.out.mono ?_
              rintro e W9 ⟨⟨uu, rfl⟩, hF9, hz9, fr9⟩
              go_wp2_with fail
              go_ret
              exact .inl ⟨HYES.out, rfl, hF9, hz8.trans hz9, fr8.trans fr9⟩
            exact AllReadyH.nil
          exact AllReadyH.nil
        exact AllReadyH.nil
      exact AllReadyH.nil
    exact AllReadyH.nil
  exact AllReadyH.nil
end Go.Proofs.Ytbpofkggoolmpaa
