/-
  Contract of the method that puts the symbols of a repeater to a wall.
-/
import Derived.Test.YtbpofkggoolmpaaPbFmAll10
namespace Go.Proofs.Ytbpofkggoolmpaa
open Go.RowKit

set_option maxRecDepth 100000 in
set_option maxHeartbeats 4000000 in
theorem unroll_any (g lo : Nat) (f : Fm) (i : Nat) (side : Int) (w : World) (hF : FmBox w lo g f) (hs : FmSz f) (hi : i < f.R.length) (hside : side = 1 ∨ side = -1) (hoff : ∀ x ∈ f.O, -1000 ≤ x ∧ x ≤ 1000) :
    Calls Try.prog 190 #[.pointer (some ⟨g, 0, none⟩), .int .i64 (i : Int), .int .i64 side] w (TurnP w lo g (unrollF f (i : Int) side)) := by
  obtain ⟨A, c, ts, B, d, us, C, k, hb, ⟨hO, eW, eR⟩, hlg⟩ := hF
  obtain ⟨q, h, a, FW, FR, os⟩ := f
  obtain ⟨s1, s2, s3, s4, s5, s6, s7, s8, s9, s10⟩ := hs
  dsimp only at eW eR hb hO s1 s2 s3 s4 s5 s6 s7 s8 s9 s10 hi hoff
  subst eW eR
  rw [nums_len] at s2 s3 s4 s5 s6 hi
  rw [nums_len] at s3
  have hio : i < os.length := by omega
  obtain ⟨x, hx⟩ : ∃ x, x = os.getD i 0 := ⟨_, rfl⟩
  have hxe : os[i]? = some x := by rw [hx, List.getD_eq_getElem?_getD, List.getElem?_eq_getElem hio]; rfl
  obtain ⟨hx0, hx1⟩ := hoff x (List.mem_of_getElem? hxe)
  obtain ⟨u, bB, offB, hU, hum, rfl, hblB, hcB, hrowB⟩ := hO.2.1.sii.pick (k := i) hi
  have hul : u.xs.length ≤ 1000 := s8 _ (List.mem_map.2 ⟨u, hum, rfl⟩)
  have hgw := hb.lt
  have hgB : g ≠ bB := fun e => hb.aptt hO.2.1.1 (by decide) (by rw [e]; rfl)
  obtain ⟨bC, offC, rfl, hlC, hbC, hcC, hfC⟩ := hO.2.2.1.at_ (k := i) (by simpa [ints] using hio)
  have hgC : g ≠ bC := fun e => hb.aptt hO.2.2.1 (by decide) (by rw [e]; rfl)
  have hBC : bB ≠ bC := fun e => hO.2.1.own_ne hO.2.2.1 (by decide) bB rfl (by rw [e]; rfl)
  have hw : lo ≤ w.heap.size := by omega
  have i1 : (0 : Int) ≤ (i : Int) := by omega
  have i2 : (i : Int) < (us.length : Int) := by omega
  have i5 : (i : Int) < (os.length : Int) := by omega
  have HRE : Hid (rowAt (nums us) (i : Int) = u.xs) := Lib.hid (rowAt_eq hU.out)
  have HXE := Lib.hid hx
  have wx : IntKind.i64.wrap (x - 1) = x - 1 := IntWalk.i64_in _ (by omega)
  have wu : IntKind.i64.wrap ((u.xs.length : Int) - 1) = (u.xs.length : Int) - 1 := IntWalk.i64_in _ (by omega)
  have hcCx : os[i] = x := by have := hxe; rw [List.getElem?_eq_getElem hio] at this; exact Option.some.inj this
  have HOC : Hid (∀ W' (ts' : List Sl), FmO W' lo A c ts' (some ⟨bB, offB, none⟩) d us (some ⟨bC, offC, none⟩) k os → W'.cell? ⟨bC, offC + i, none⟩ = some (.int .i64 x) ∧ W'.frozen? ⟨bC, offC + i, none⟩ = false) := Lib.hid (fun W' ts' hh => by
    obtain ⟨b', o', he, _, _, h1, h2⟩ := hh.2.2.1.at_ (k := i) (by simpa [ints] using hio)
    cases he
    refine ⟨?_, h2⟩
    rw [h1]
    simp [ints, hcCx])
  have hi3 : i ≤ 2 := by omega
  clear s1 s2 s5 s6 s8 s9 s10 hcC hfC hxe hx hoff hbC hcCx
  rcases hside with rfl | rfl
  · have hri : i < ts.length := by omega
    obtain ⟨t, bA, offA, hT, htm, rfl, hblA, hcA, hrowA⟩ := hO.1.sii.pick (k := i) hri
    have htl : t.xs.length ≤ 1000 := s7 _ (List.mem_map.2 ⟨t, htm, rfl⟩)
    have hgA : g ≠ bA := fun e => hb.aptt hO.1.1 (by decide) (by rw [e]; rfl)
    have hAB : bA ≠ bB := fun e => hO.2.2.2.spine bA rfl (by rw [e]; rfl)
    have hAC : bA ≠ bC := fun e => hO.1.own_ne hO.2.2.1 (by decide) bA rfl (by rw [e]; rfl)
    have HTE : Hid (rowAt (nums ts) (i : Int) = t.xs) := Lib.hid (rowAt_eq hT.out)
    have HTT := hT
    have hlA := hO.1.1.blk_ge bA rfl
    have i3 : (i : Int) < (ts.length : Int) := by omega
    have i4 : (0 : Int) ≤ (i : Int) := by omega
    have HRA := Lib.hid hrowA
    have HRB := Lib.hid hrowB
    have KS : Hid (∀ W', Below w.heap.size w W' → W'.cell? ⟨g, 3, none⟩ = some (.slice (some ⟨bA, offA, none⟩) ts.length c) ∧ W'.cell? ⟨g, 4, none⟩ = some (.slice (some ⟨bB, offB, none⟩) us.length d) ∧ W'.cell? ⟨bA, offA + i, none⟩ = some (.slice t.A t.xs.length t.c) ∧ W'.cell? ⟨bB, offB + i, none⟩ = some (.slice u.A u.xs.length u.c)) := Lib.hid (fun W' z => ⟨(hb.below' z).cell 3, (hb.below' z).cell 4, (z.cell (p := ⟨bA, offA + i, none⟩) hblA).trans hcA, (z.cell (p := ⟨bB, offB + i, none⟩) hblB).trans hcB⟩)
    have KS3 := Lib.hid (fun W' z => (⟨(KS.out W' z).1, (KS.out W' z).2.1, (KS.out W' z).2.2.2⟩ : W'.cell? ⟨g, 3, none⟩ = some (.slice (some ⟨bA, offA, none⟩) ts.length c) ∧ W'.cell? ⟨g, 4, none⟩ = some (.slice (some ⟨bB, offB, none⟩) us.length d) ∧ W'.cell? ⟨bB, offB + i, none⟩ = some (.slice u.A u.xs.length u.c)))
    clear hrowA hrowB hT htm hum hU s7 hcA s3 s4
    go_enter Try.func190, Try.ntmps190
    go_upto_region 1 with fail
    have hp : Below w.heap.size w w.drew := below_drewN (Below.refl _ _) 1
    refine wp_region_noPanic ?_
    refine wp_region_held_drew (S := (fun w' => w'.cell? ⟨g, 3, none⟩ = some (.slice (some ⟨bA, offA, none⟩) ts.length c) ∧ w'.cell? ⟨g, 4, none⟩ = some (.slice (some ⟨bB, offB, none⟩) us.length d) ∧ w'.cell? ⟨bB, offB + i, none⟩ = some (.slice u.A u.xs.length u.c))) (by kernel_rfl) ?_ (fun hHeld => ?_)
    · exact KS3.out _ hp
    generalize hWq : w.drew = Wq at *
    refine wpAnyH_take (i := 0) (v := ?_) rfl (by kernel_rfl) (by kernel_rfl) (by kernel_rfl) (fun _ _ _ h => h) (Or.inl ⟨by rfl, ?_⟩) (by assumption) ?_
    rotate_left
    · intro w hSw
      try dsimp only at hSw
      obtain ⟨hs0_, hs1_, hs2_⟩ := hSw
      go_simp
      try with_reducible rfl
    try simp only [Act.put, List.setIfInBounds_toArray]
    refine wpAnyH_take (i := 1) (v := ?_) rfl (by kernel_rfl) (by kernel_rfl) (by kernel_rfl) (fun _ _ _ h => h) (Or.inl ⟨by rfl, ?_⟩) (by assumption) ?_
    rotate_left
    · intro w hSw
      try dsimp only at hSw
      obtain ⟨hs0_, hs1_, hs2_⟩ := hSw
      go_simp
      try with_reducible rfl
    try simp only [Act.put]
    refine wpAnyH_take (i := 2) (v := ?_) rfl (by kernel_rfl) (by kernel_rfl) (by kernel_rfl) (fun _ _ _ h => h) (Or.inl ⟨by rfl, ?_⟩) (by assumption) ?_
    rotate_left
    · intro w hSw
      try dsimp only at hSw
      obtain ⟨hs0_, hs1_, hs2_⟩ := hSw
      go_simp
      try with_reducible rfl
    try simp only [Act.put]
    refine wpAnyH_take (i := 3) (v := ?_) rfl (by kernel_rfl) (by kernel_rfl) (by kernel_rfl) (fun _ _ _ h => h) (Or.inl ⟨by rfl, ?_⟩) (by assumption) ?_
    rotate_left
    · intro w hSw
      try dsimp only at hSw
      obtain ⟨hs0_, hs1_, hs2_⟩ := hSw
      go_simp
      try with_reducible rfl
    try simp only [Act.put]
    refine wpAnyH_take (i := 4) (v := ?_) rfl (by kernel_rfl) (by kernel_rfl) (by kernel_rfl) (fun _ _ _ h => h) (Or.inl ⟨by rfl, ?_⟩) (by assumption) ?_
    rotate_left
    · intro w hSw
      try dsimp only at hSw
      obtain ⟨hs0_, hs1_, hs2_⟩ := hSw
      go_simp
      try with_reducible rfl
    try simp only [Act.put]
    refine wpAnyH_take (i := 5) (v := ?_) rfl (by kernel_rfl) (by kernel_rfl) (by kernel_rfl) (fun _ _ _ h => h) (Or.inl ⟨by rfl, ?_⟩) (by assumption) ?_
    rotate_left
    · intro w hSw
      try dsimp only at hSw
      obtain ⟨hs0_, hs1_, hs2_⟩ := hSw
      go_simp
      try with_reducible rfl
    try simp only [Act.put]
    refine wpAnyH_take (i := 6) (v := ?_) rfl (by kernel_rfl) (by kernel_rfl) (by kernel_rfl) (fun _ _ _ h => h) (Or.inl ⟨by rfl, ?_⟩) (by assumption) ?_
    rotate_left
    · intro w hSw
      try dsimp only at hSw
      obtain ⟨hs0_, hs1_, hs2_⟩ := hSw
      go_simp
      try with_reducible rfl
    try simp only [Act.put]
    refine wpAnyH_take (i := 7) (v := ?_) rfl (by kernel_rfl) (by kernel_rfl) (by kernel_rfl) (fun _ _ _ h => h) (Or.inl ⟨by rfl, ?_⟩) (by assumption) ?_
    rotate_left
    · intro w hSw
      try dsimp only at hSw
      obtain ⟨hs0_, hs1_, hs2_⟩ := hSw
      go_simp
      try with_reducible rfl
    try simp only [Act.put]
    refine wpAnyH_take (i := 8) (v := ?_) rfl (by kernel_rfl) (by kernel_rfl) (by kernel_rfl) (fun _ _ _ h => h) (Or.inl ⟨by rfl, ?_⟩) (by assumption) ?_
    rotate_left
    · intro w hSw
      try dsimp only at hSw
      obtain ⟨hs0_, hs1_, hs2_⟩ := hSw
      go_simp
      try with_reducible rfl
    try simp only [Act.put]
    refine wpAnyH_take (i := 9) (v := ?_) rfl (by kernel_rfl) (by kernel_rfl) (by kernel_rfl) (fun _ _ _ h => h) (Or.inl ⟨by rfl, ?_⟩) (by assumption) ?_
    rotate_left
    · intro w hSw
      try dsimp only at hSw
      obtain ⟨hs0_, hs1_, hs2_⟩ := hSw
      go_simp
      try with_reducible rfl
    try simp only [Act.put]
    refine wpAnyH_take (i := 10) (v := ?_) rfl (by kernel_rfl) (by kernel_rfl) (by kernel_rfl) (fun _ _ _ h => h) (Or.inl ⟨by rfl, ?_⟩) (by assumption) ?_
    rotate_left
    · intro w hSw
      try dsimp only at hSw
      obtain ⟨hs0_, hs1_, hs2_⟩ := hSw
      go_simp
      try with_reducible rfl
    try simp only [Act.put]
    refine wpAnyH_take (i := 12) (v := ?_) rfl (by kernel_rfl) (by kernel_rfl) (by kernel_rfl) (fun _ _ _ h => h) (Or.inl ⟨by rfl, ?_⟩) (by assumption) ?_
    rotate_left
    · intro w hSw
      try dsimp only at hSw
      obtain ⟨hs0_, hs1_, hs2_⟩ := hSw
      go_simp
      try with_reducible rfl
    try simp only [Act.put]
    refine wpAnyH_take (i := 13) (v := ?_) rfl (by kernel_rfl) (by kernel_rfl) (by kernel_rfl) (fun _ _ _ h => h) (Or.inl ⟨by rfl, ?_⟩) (by assumption) ?_
    rotate_left
    · intro w hSw
      try dsimp only at hSw
      obtain ⟨hs0_, hs1_, hs2_⟩ := hSw
      go_simp
      try with_reducible rfl
    try simp only [Act.put]
    refine wpAnyH_take (i := 14) (v := ?_) rfl (by kernel_rfl) (by kernel_rfl) (by kernel_rfl) (fun _ _ _ h => h) (Or.inl ⟨by rfl, ?_⟩) (by assumption) ?_
    rotate_left
    · intro w hSw
      try dsimp only at hSw
      obtain ⟨hs0_, hs1_, hs2_⟩ := hSw
      go_simp
      try with_reducible rfl
    try simp only [Act.put]
    refine wpAnyH_take (i := 15) (v := ?_) rfl (by kernel_rfl) (by kernel_rfl) (by kernel_rfl) (fun _ _ _ h => h) (Or.inl ⟨by rfl, ?_⟩) (by assumption) ?_
    rotate_left
    · intro w hSw
      try dsimp only at hSw
      obtain ⟨hs0_, hs1_, hs2_⟩ := hSw
      go_simp
      try with_reducible rfl
    try simp only [Act.put]
    refine wpAnyH_take (i := 16) (v := ?_) rfl (by kernel_rfl) (by kernel_rfl) (by kernel_rfl) (fun _ _ _ h => h) (Or.inl ⟨by rfl, ?_⟩) (by assumption) ?_
    rotate_left
    · intro w hSw
      try dsimp only at hSw
      obtain ⟨hs0_, hs1_, hs2_⟩ := hSw
      go_simp
      try with_reducible rfl
    try simp only [Act.put]
    refine wpAnyH_take (i := 17) (v := ?_) rfl (by kernel_rfl) (by kernel_rfl) (by kernel_rfl) (fun _ _ _ h => h) (Or.inl ⟨by rfl, ?_⟩) (by assumption) ?_
    rotate_left
    · intro w hSw
      try dsimp only at hSw
      obtain ⟨hs0_, hs1_, hs2_⟩ := hSw
      go_simp
      try with_reducible rfl
    try simp only [Act.put]
    refine wpAnyH_take (i := 18) (v := ?_) rfl (by kernel_rfl) (by kernel_rfl) (by kernel_rfl) (fun _ _ _ h => h) (Or.inl ⟨by rfl, ?_⟩) (by assumption) ?_
    rotate_left
    · intro w hSw
      try dsimp only at hSw
      obtain ⟨hs0_, hs1_, hs2_⟩ := hSw
      go_simp
      try with_reducible rfl
    try simp only [Act.put]
    try simp only [List.getElem_toArray, List.getElem_cons_zero, List.getElem_cons_succ, List.setIfInBounds_toArray, List.set_cons_zero, List.set_cons_succ]
    refine wpAnyH_ready (rs := [11]) (by kernel_rfl) (by simp) ?_
    refine AllReadyH.cons rfl (fun K hK => ?_) ?_
    · have hra := (KS.out _ hp).2.2.1
      go_simp
      clear hra
      have hS3 := KS3.out _ hp
      refine hK.out _ _ ?_ (fun hHeld => ?_)
      · exact hS3
      clear hK K
      try simp only [Act.put, List.setIfInBounds_toArray, List.set_cons_zero, List.set_cons_succ]
      try simp only [putAll, markAll, dstAt, Act.put, List.getElem_toArray, List.getElem?_toArray, List.getElem_cons_zero, List.getElem_cons_succ, List.getElem?_cons_zero, List.getElem?_cons_succ, Option.bind_some, List.setIfInBounds_toArray, List.set_cons_zero, List.set_cons_succ]
      refine wpAnyH_ready (rs := [19]) (by kernel_rfl) (by simp) ?_
      refine AllReadyH.cons rfl (fun K hK => ?_) ?_
      · go_simp
        obtain ⟨W2, g2, hW2, hg2, z2, h2, l2, hp2⟩ := alloc_pack3 hp hp.size #[.slice t.A t.xs.length t.c, .slice u.A u.xs.length u.c] 26
        rw [hW2]
        subst hg2
        have hS3 := KS3.out _ hp2
        refine hK.out _ _ ?_ (fun hHeld => ?_)
        · exact hS3
        clear hK K
        try simp only [Act.put, List.setIfInBounds_toArray, List.set_cons_zero, List.set_cons_succ]
        try simp only [putAll, markAll, dstAt, Act.put, List.getElem_toArray, List.getElem?_toArray, List.getElem_cons_zero, List.getElem_cons_succ, List.getElem?_cons_zero, List.getElem?_cons_succ, Option.bind_some, List.setIfInBounds_toArray, List.set_cons_zero, List.set_cons_succ]
        refine wpAnyH_ready (rs := [20]) (by kernel_rfl) (by simp) ?_
        refine AllReadyH.cons rfl (fun K hK => ?_) ?_
        · go_simp
          refine (joined2_any (xs1 := t.xs) (xs2 := u.xs) h2 (HRA.out.below hp2) (HRB.out.below hp2) (by omega)).mono ?_
          rintro e W3 ⟨D, dd, rfl, oD, z3⟩
          have hp3 := hp2.trans (z3.mono hp2.size)
          have hS3 := KS3.out _ hp3
          have hb3 := hb.below' hp3
          have hO3 := hO.below hp3
          obtain ⟨bb', off', he, _, _, hcs, hfs⟩ := hO3.1.1.at_ (k := i) (by simpa using hri)
          cases he
          have hO4 : FmO (W3.setCell ⟨bA, offA + i, none⟩ (.slice D (t.xs.length + u.xs.length) dd)) lo (some ⟨bA, offA, none⟩) c (ts.set i ⟨D, dd, t.xs ++ u.xs⟩) (some ⟨bB, offB, none⟩) d us (some ⟨bC, offC, none⟩) k os := by
            have := hO.putW hp3 HTT.out (u := ⟨D, dd, t.xs ++ u.xs⟩) rfl oD hp2.size (Nat.le_trans hw hp2.size)
            simpa [Sl.val] using this
          refine hK.out _ _ ?_ (fun hHeld => ?_)
          · exact hS3
          clear hK K
          try simp only [Act.put, List.setIfInBounds_toArray, List.set_cons_zero, List.set_cons_succ]
          refine wpAnyH_take (i := 21) (v := ?_) rfl (by kernel_rfl) (by kernel_rfl) (by kernel_rfl) (fun _ _ _ h => h) (Or.inl ⟨by rfl, ?_⟩) (by assumption) ?_
          rotate_left
          · intro w hSw
            try dsimp only at hSw
            obtain ⟨hs0_, hs1_, hs2_⟩ := hSw
            go_simp
            try with_reducible rfl
          try simp only [Act.put, List.setIfInBounds_toArray]
          try simp only [List.getElem_toArray, List.getElem_cons_zero, List.getElem_cons_succ, List.set_cons_zero, List.set_cons_succ]
          refine wpAnyH_ready (rs := [22]) (by kernel_rfl) (by simp) ?_
          refine AllReadyH.cons rfl (fun K hK => ?_) ?_
          · go_simp
            have hb4 := hb3.far (p := ⟨bA, offA + i, none⟩) hgA (.slice D (t.xs.length + u.xs.length) dd)
            have fr4 : FrF w (W3.setCell ⟨bA, offA + i, none⟩ (.slice D (t.xs.length + u.xs.length) dd)) := (FrF.below hp3).setS hO3.1.1 _
            have hz4 : Below lo w (W3.setCell ⟨bA, offA + i, none⟩ (.slice D (t.xs.length + u.xs.length) dd)) := (hp3.mono hw).setCell hlA _
            have hcB4 : (W3.setCell ⟨bA, offA + i, none⟩ (.slice D (t.xs.length + u.xs.length) dd)).cell? ⟨bB, offB + i, none⟩ = some (.slice u.A u.xs.length u.c) := by
              rw [World.cell?_of_block (Below.heap_setCell _ _ _ _ (Ne.symm hAB))]; exact (KS.out _ hp3).2.2.2
            generalize W3.setCell ⟨bA, offA + i, none⟩ (.slice D (t.xs.length + u.xs.length) dd) = W4 at *
            have hS3 : _ ∧ _ ∧ _ := ⟨hb4.cell 3, hb4.cell 4, hcB4⟩
            refine hK.out _ _ ?_ (fun hHeld => ?_)
            · exact hS3
            clear hK K
            try simp only [Act.put, List.setIfInBounds_toArray]
            refine wpAnyH_done (by kernel_rfl) ?_ _
            refine NoPanic.normal ?_
            clear KS KS3 hS3 HRA HRB hcB hb hO
            have v0 : W4.cell? ⟨g, 0, none⟩ = some (.int .i64 q) := hb4.cell 0
            have v1 : W4.cell? ⟨g, 1, none⟩ = some (.int .i64 h) := hb4.cell 1
            have v2 : W4.cell? ⟨g, 2, none⟩ = some (.int .i64 a) := hb4.cell 2
            have v3 : W4.cell? ⟨g, 3, none⟩ = some (.slice (some ⟨bA, offA, none⟩) ts.length c) := hb4.cell 3
            have v4 : W4.cell? ⟨g, 4, none⟩ = some (.slice (some ⟨bB, offB, none⟩) us.length d) := hb4.cell 4
            have v5 : W4.cell? ⟨g, 5, none⟩ = some (.slice (some ⟨bC, offC, none⟩) os.length k) := hb4.cell 5
            obtain ⟨hxc, hxf⟩ := HOC.out _ _ hO4
            have hO6 := hO4.setO (i := i) hio rfl (x - 1)
            have hb6 := hb4.far (p := ⟨bC, offC + i, none⟩) hgC (.int .i64 (x - 1))
            have fr6 : FrF w (W4.setCell ⟨bC, offC + i, none⟩ (.int .i64 (x - 1))) := fr4.setI hO4.2.2.1 rfl _
            have hz6 : Below lo w (W4.setCell ⟨bC, offC + i, none⟩ (.int .i64 (x - 1))) := hz4.setCell hlC _
            have hbf : Blk (W4.setCell ⟨bC, offC + i, none⟩ (.int .i64 (x - 1))) g 31 #[.int .i64 q, .int .i64 h, .int .i64 a, .slice (some ⟨bA, offA, none⟩) (ts.set i ⟨D, dd, t.xs ++ u.xs⟩).length c, .slice (some ⟨bB, offB, none⟩) us.length d, .slice (some ⟨bC, offC, none⟩) (os.set i (x - 1)).length k] := by
              rw [List.length_set, List.length_set]
              exact hb6
            have HFIN : Hid (FmBox (W4.setCell ⟨bC, offC + i, none⟩ (.int .i64 (x - 1))) lo g (unrollF ⟨q, h, a, nums ts, nums us, os⟩ (i : Int) 1)) := Lib.hid (by
              have e : unrollF ⟨q, h, a, nums ts, nums us, os⟩ (i : Int) 1 = ⟨q, h, a, (nums ts).set i (t.xs ++ u.xs), nums us, os.set i (x - 1)⟩ := by
                unfold unrollF
                dsimp only
                have e1 := HTE.out
                have e2 := HRE.out
                have e3 := HXE.out
                rw [if_pos rfl, e1, e2, Int.toNat_natCast, e3]
              rw [e]
              exact ⟨_, c, _, _, d, us, _, k, hbf, ⟨hO6, nums_set _ _ _, rfl⟩, hlg⟩)
            clear hO6 hb6 hbf hO4 HOC
            go_wp2_with fail
            go_end0
            exact ⟨⟨_, rfl⟩, HFIN.out, hz6, fr6⟩
          exact AllReadyH.nil
        exact AllReadyH.nil
      exact AllReadyH.nil
    exact AllReadyH.nil
  · obtain ⟨j, hj⟩ : ∃ j : Nat, j = i + 1 := ⟨_, rfl⟩
    have HJ := Lib.hid hj
    have hri : j < ts.length := by omega
    obtain ⟨t, bA, offA, hT, htm, rfl, hblA, hcA, hrowA⟩ := hO.1.sii.pick (k := j) hri
    have htl : t.xs.length ≤ 1000 := s7 _ (List.mem_map.2 ⟨t, htm, rfl⟩)
    have hgA : g ≠ bA := fun e => hb.aptt hO.1.1 (by decide) (by rw [e]; rfl)
    have hAB : bA ≠ bB := fun e => hO.2.2.2.spine bA rfl (by rw [e]; rfl)
    have hAC : bA ≠ bC := fun e => hO.1.own_ne hO.2.2.1 (by decide) bA rfl (by rw [e]; rfl)
    have HTE : Hid (rowAt (nums ts) (j : Int) = t.xs) := Lib.hid (rowAt_eq hT.out)
    have HTT := hT
    have hlA := hO.1.1.blk_ge bA rfl
    have i3 : (j : Int) < (ts.length : Int) := by omega
    have i4 : (0 : Int) ≤ (j : Int) := by omega
    have wi : IntKind.i64.wrap ((i : Int) + 1) = (j : Int) := by rw [IntWalk.i64_in _ (by omega)]; omega
    clear hj
    have HRA := Lib.hid hrowA
    have HRB := Lib.hid hrowB
    have KS : Hid (∀ W', Below w.heap.size w W' → W'.cell? ⟨g, 3, none⟩ = some (.slice (some ⟨bA, offA, none⟩) ts.length c) ∧ W'.cell? ⟨g, 4, none⟩ = some (.slice (some ⟨bB, offB, none⟩) us.length d) ∧ W'.cell? ⟨bA, offA + j, none⟩ = some (.slice t.A t.xs.length t.c) ∧ W'.cell? ⟨bB, offB + i, none⟩ = some (.slice u.A u.xs.length u.c)) := Lib.hid (fun W' z => ⟨(hb.below' z).cell 3, (hb.below' z).cell 4, (z.cell (p := ⟨bA, offA + j, none⟩) hblA).trans hcA, (z.cell (p := ⟨bB, offB + i, none⟩) hblB).trans hcB⟩)
    have KS3 := Lib.hid (fun W' z => (⟨(KS.out W' z).1, (KS.out W' z).2.1, (KS.out W' z).2.2.2⟩ : W'.cell? ⟨g, 3, none⟩ = some (.slice (some ⟨bA, offA, none⟩) ts.length c) ∧ W'.cell? ⟨g, 4, none⟩ = some (.slice (some ⟨bB, offB, none⟩) us.length d) ∧ W'.cell? ⟨bB, offB + i, none⟩ = some (.slice u.A u.xs.length u.c)))
    clear hrowA hrowB hT htm hum hU s7 hcA s3 s4
    go_enter Try.func190, Try.ntmps190
    go_upto_region 2 with fail
    have hp : Below w.heap.size w w.drew := below_drewN (Below.refl _ _) 1
    refine wp_region_noPanic ?_
    refine wp_region_held_drew (S := (fun w' => w'.cell? ⟨g, 3, none⟩ = some (.slice (some ⟨bA, offA, none⟩) ts.length c) ∧ w'.cell? ⟨g, 4, none⟩ = some (.slice (some ⟨bB, offB, none⟩) us.length d) ∧ w'.cell? ⟨bB, offB + i, none⟩ = some (.slice u.A u.xs.length u.c))) (by kernel_rfl) ?_ (fun hHeld => ?_)
    · exact KS3.out _ hp
    generalize hWq : w.drew = Wq at *
    refine wpAnyH_take (i := 0) (v := ?_) rfl (by kernel_rfl) (by kernel_rfl) (by kernel_rfl) (fun _ _ _ h => h) (Or.inl ⟨by rfl, ?_⟩) (by assumption) ?_
    rotate_left
    · intro w hSw
      try dsimp only at hSw
      obtain ⟨hs0_, hs1_, hs2_⟩ := hSw
      go_simp
      try with_reducible rfl
    try simp only [Act.put, List.setIfInBounds_toArray]
    refine wpAnyH_take (i := 1) (v := ?_) rfl (by kernel_rfl) (by kernel_rfl) (by kernel_rfl) (fun _ _ _ h => h) (Or.inl ⟨by rfl, ?_⟩) (by assumption) ?_
    rotate_left
    · intro w hSw
      try dsimp only at hSw
      obtain ⟨hs0_, hs1_, hs2_⟩ := hSw
      go_simp
      try with_reducible rfl
    try simp only [Act.put]
    refine wpAnyH_take (i := 2) (v := ?_) rfl (by kernel_rfl) (by kernel_rfl) (by kernel_rfl) (fun _ _ _ h => h) (Or.inl ⟨by rfl, ?_⟩) (by assumption) ?_
    rotate_left
    · intro w hSw
      try dsimp only at hSw
      obtain ⟨hs0_, hs1_, hs2_⟩ := hSw
      go_simp
      try with_reducible rfl
    try simp only [Act.put]
    refine wpAnyH_take (i := 3) (v := ?_) rfl (by kernel_rfl) (by kernel_rfl) (by kernel_rfl) (fun _ _ _ h => h) (Or.inl ⟨by rfl, ?_⟩) (by assumption) ?_
    rotate_left
    · intro w hSw
      try dsimp only at hSw
      obtain ⟨hs0_, hs1_, hs2_⟩ := hSw
      go_simp
      try with_reducible rfl
    try simp only [Act.put]
    refine wpAnyH_take (i := 4) (v := ?_) rfl (by kernel_rfl) (by kernel_rfl) (by kernel_rfl) (fun _ _ _ h => h) (Or.inl ⟨by rfl, ?_⟩) (by assumption) ?_
    rotate_left
    · intro w hSw
      try dsimp only at hSw
      obtain ⟨hs0_, hs1_, hs2_⟩ := hSw
      go_simp
      try with_reducible rfl
    try simp only [Act.put]
    refine wpAnyH_take (i := 5) (v := ?_) rfl (by kernel_rfl) (by kernel_rfl) (by kernel_rfl) (fun _ _ _ h => h) (Or.inl ⟨by rfl, ?_⟩) (by assumption) ?_
    rotate_left
    · intro w hSw
      try dsimp only at hSw
      obtain ⟨hs0_, hs1_, hs2_⟩ := hSw
      go_simp
      try with_reducible rfl
    try simp only [Act.put]
    refine wpAnyH_take (i := 6) (v := ?_) rfl (by kernel_rfl) (by kernel_rfl) (by kernel_rfl) (fun _ _ _ h => h) (Or.inl ⟨by rfl, ?_⟩) (by assumption) ?_
    rotate_left
    · intro w hSw
      try dsimp only at hSw
      obtain ⟨hs0_, hs1_, hs2_⟩ := hSw
      go_simp
      try with_reducible rfl
    try simp only [Act.put]
    refine wpAnyH_take (i := 7) (v := ?_) rfl (by kernel_rfl) (by kernel_rfl) (by kernel_rfl) (fun _ _ _ h => h) (Or.inl ⟨by rfl, ?_⟩) (by assumption) ?_
    rotate_left
    · intro w hSw
      try dsimp only at hSw
      obtain ⟨hs0_, hs1_, hs2_⟩ := hSw
      go_simp
      try with_reducible rfl
    try simp only [Act.put]
    refine wpAnyH_take (i := 8) (v := ?_) rfl (by kernel_rfl) (by kernel_rfl) (by kernel_rfl) (fun _ _ _ h => h) (Or.inl ⟨by rfl, ?_⟩) (by assumption) ?_
    rotate_left
    · intro w hSw
      try dsimp only at hSw
      obtain ⟨hs0_, hs1_, hs2_⟩ := hSw
      go_simp
      try with_reducible rfl
    try simp only [Act.put]
    refine wpAnyH_take (i := 9) (v := ?_) rfl (by kernel_rfl) (by kernel_rfl) (by kernel_rfl) (fun _ _ _ h => h) (Or.inl ⟨by rfl, ?_⟩) (by assumption) ?_
    rotate_left
    · intro w hSw
      try dsimp only at hSw
      obtain ⟨hs0_, hs1_, hs2_⟩ := hSw
      go_simp
      try with_reducible rfl
    try simp only [Act.put]
    refine wpAnyH_take (i := 10) (v := ?_) rfl (by kernel_rfl) (by kernel_rfl) (by kernel_rfl) (fun _ _ _ h => h) (Or.inl ⟨by rfl, ?_⟩) (by assumption) ?_
    rotate_left
    · intro w hSw
      try dsimp only at hSw
      obtain ⟨hs0_, hs1_, hs2_⟩ := hSw
      go_simp
      try with_reducible rfl
    try simp only [Act.put]
    refine wpAnyH_take (i := 11) (v := ?_) rfl (by kernel_rfl) (by kernel_rfl) (by kernel_rfl) (fun _ _ _ h => h) (Or.inl ⟨by rfl, ?_⟩) (by assumption) ?_
    rotate_left
    · intro w hSw
      try dsimp only at hSw
      obtain ⟨hs0_, hs1_, hs2_⟩ := hSw
      go_simp
      try with_reducible rfl
    try simp only [Act.put]
    refine wpAnyH_take (i := 12) (v := ?_) rfl (by kernel_rfl) (by kernel_rfl) (by kernel_rfl) (fun _ _ _ h => h) (Or.inl ⟨by rfl, ?_⟩) (by assumption) ?_
    rotate_left
    · intro w hSw
      try dsimp only at hSw
      obtain ⟨hs0_, hs1_, hs2_⟩ := hSw
      go_simp
      try with_reducible rfl
    try simp only [Act.put]
    refine wpAnyH_take (i := 13) (v := ?_) rfl (by kernel_rfl) (by kernel_rfl) (by kernel_rfl) (fun _ _ _ h => h) (Or.inl ⟨by rfl, ?_⟩) (by assumption) ?_
    rotate_left
    · intro w hSw
      try dsimp only at hSw
      obtain ⟨hs0_, hs1_, hs2_⟩ := hSw
      go_simp
      try with_reducible rfl
    try simp only [Act.put]
    refine wpAnyH_take (i := 14) (v := ?_) rfl (by kernel_rfl) (by kernel_rfl) (by kernel_rfl) (fun _ _ _ h => h) (Or.inl ⟨by rfl, ?_⟩) (by assumption) ?_
    rotate_left
    · intro w hSw
      try dsimp only at hSw
      obtain ⟨hs0_, hs1_, hs2_⟩ := hSw
      go_simp
      try with_reducible rfl
    try simp only [Act.put]
    refine wpAnyH_take (i := 15) (v := ?_) rfl (by kernel_rfl) (by kernel_rfl) (by kernel_rfl) (fun _ _ _ h => h) (Or.inl ⟨by rfl, ?_⟩) (by assumption) ?_
    rotate_left
    · intro w hSw
      try dsimp only at hSw
      obtain ⟨hs0_, hs1_, hs2_⟩ := hSw
      go_simp
      try with_reducible rfl
    try simp only [Act.put]
    refine wpAnyH_take (i := 16) (v := ?_) rfl (by kernel_rfl) (by kernel_rfl) (by kernel_rfl) (fun _ _ _ h => h) (Or.inl ⟨by rfl, ?_⟩) (by assumption) ?_
    rotate_left
    · intro w hSw
      try dsimp only at hSw
      obtain ⟨hs0_, hs1_, hs2_⟩ := hSw
      go_simp
      try with_reducible rfl
    try simp only [Act.put]
    refine wpAnyH_take (i := 17) (v := ?_) rfl (by kernel_rfl) (by kernel_rfl) (by kernel_rfl) (fun _ _ _ h => h) (Or.inl ⟨by rfl, ?_⟩) (by assumption) ?_
    rotate_left
    · intro w hSw
      try dsimp only at hSw
      obtain ⟨hs0_, hs1_, hs2_⟩ := hSw
      go_simp
      try with_reducible rfl
    try simp only [Act.put]
    refine wpAnyH_take (i := 18) (v := ?_) rfl (by kernel_rfl) (by kernel_rfl) (by kernel_rfl) (fun _ _ _ h => h) (Or.inl ⟨by rfl, ?_⟩) (by assumption) ?_
    rotate_left
    · intro w hSw
      try dsimp only at hSw
      obtain ⟨hs0_, hs1_, hs2_⟩ := hSw
      go_simp
      try with_reducible rfl
    try simp only [Act.put]
    refine wpAnyH_take (i := 19) (v := ?_) rfl (by kernel_rfl) (by kernel_rfl) (by kernel_rfl) (fun _ _ _ h => h) (Or.inl ⟨by rfl, ?_⟩) (by assumption) ?_
    rotate_left
    · intro w hSw
      try dsimp only at hSw
      obtain ⟨hs0_, hs1_, hs2_⟩ := hSw
      go_simp
      try with_reducible rfl
    try simp only [Act.put]
    try simp only [List.getElem_toArray, List.getElem_cons_zero, List.getElem_cons_succ, List.setIfInBounds_toArray, List.set_cons_zero, List.set_cons_succ]
    refine wpAnyH_ready (rs := [20]) (by kernel_rfl) (by simp) ?_
    refine AllReadyH.cons rfl (fun K hK => ?_) ?_
    · have hra := (KS.out _ hp).2.2.1
      go_simp
      clear hra
      have hS3 := KS3.out _ hp
      refine hK.out _ _ ?_ (fun hHeld => ?_)
      · exact hS3
      clear hK K
      try simp only [Act.put, List.setIfInBounds_toArray, List.set_cons_zero, List.set_cons_succ]
      try simp only [putAll, markAll, dstAt, Act.put, List.getElem_toArray, List.getElem?_toArray, List.getElem_cons_zero, List.getElem_cons_succ, List.getElem?_cons_zero, List.getElem?_cons_succ, Option.bind_some, List.setIfInBounds_toArray, List.set_cons_zero, List.set_cons_succ]
      refine wpAnyH_ready (rs := [21]) (by kernel_rfl) (by simp) ?_
      refine AllReadyH.cons rfl (fun K hK => ?_) ?_
      · go_simp
        obtain ⟨W2, g2, hW2, hg2, z2, h2, l2, hp2⟩ := alloc_pack3 hp hp.size #[.slice u.A u.xs.length u.c, .slice t.A t.xs.length t.c] 26
        rw [hW2]
        subst hg2
        have hS3 := KS3.out _ hp2
        refine hK.out _ _ ?_ (fun hHeld => ?_)
        · exact hS3
        clear hK K
        try simp only [Act.put, List.setIfInBounds_toArray, List.set_cons_zero, List.set_cons_succ]
        try simp only [putAll, markAll, dstAt, Act.put, List.getElem_toArray, List.getElem?_toArray, List.getElem_cons_zero, List.getElem_cons_succ, List.getElem?_cons_zero, List.getElem?_cons_succ, Option.bind_some, List.setIfInBounds_toArray, List.set_cons_zero, List.set_cons_succ]
        refine wpAnyH_ready (rs := [22]) (by kernel_rfl) (by simp) ?_
        refine AllReadyH.cons rfl (fun K hK => ?_) ?_
        · go_simp
          refine (joined2_any (xs1 := u.xs) (xs2 := t.xs) h2 (HRB.out.below hp2) (HRA.out.below hp2) (by omega)).mono ?_
          rintro e W3 ⟨D, dd, rfl, oD, z3⟩
          have hp3 := hp2.trans (z3.mono hp2.size)
          have hS3 := KS3.out _ hp3
          have hb3 := hb.below' hp3
          have hO3 := hO.below hp3
          obtain ⟨bb', off', he, _, _, hcs, hfs⟩ := hO3.1.1.at_ (k := j) (by simpa using hri)
          cases he
          have hO4 : FmO (W3.setCell ⟨bA, offA + j, none⟩ (.slice D (u.xs.length + t.xs.length) dd)) lo (some ⟨bA, offA, none⟩) c (ts.set j ⟨D, dd, u.xs ++ t.xs⟩) (some ⟨bB, offB, none⟩) d us (some ⟨bC, offC, none⟩) k os := by
            have := hO.putW hp3 HTT.out (u := ⟨D, dd, u.xs ++ t.xs⟩) rfl oD hp2.size (Nat.le_trans hw hp2.size)
            simpa [Sl.val] using this
          refine hK.out _ _ ?_ (fun hHeld => ?_)
          · exact hS3
          clear hK K
          try simp only [Act.put, List.setIfInBounds_toArray, List.set_cons_zero, List.set_cons_succ]
          refine wpAnyH_take (i := 23) (v := ?_) rfl (by kernel_rfl) (by kernel_rfl) (by kernel_rfl) (fun _ _ _ h => h) (Or.inl ⟨by rfl, ?_⟩) (by assumption) ?_
          rotate_left
          · intro w hSw
            try dsimp only at hSw
            obtain ⟨hs0_, hs1_, hs2_⟩ := hSw
            go_simp
            try with_reducible rfl
          try simp only [Act.put, List.setIfInBounds_toArray]
          try simp only [List.getElem_toArray, List.getElem_cons_zero, List.getElem_cons_succ, List.set_cons_zero, List.set_cons_succ]
          refine wpAnyH_ready (rs := [24]) (by kernel_rfl) (by simp) ?_
          refine AllReadyH.cons rfl (fun K hK => ?_) ?_
          · go_simp
            have hb4 := hb3.far (p := ⟨bA, offA + j, none⟩) hgA (.slice D (u.xs.length + t.xs.length) dd)
            have fr4 : FrF w (W3.setCell ⟨bA, offA + j, none⟩ (.slice D (u.xs.length + t.xs.length) dd)) := (FrF.below hp3).setS hO3.1.1 _
            have hz4 : Below lo w (W3.setCell ⟨bA, offA + j, none⟩ (.slice D (u.xs.length + t.xs.length) dd)) := (hp3.mono hw).setCell hlA _
            have hcB4 : (W3.setCell ⟨bA, offA + j, none⟩ (.slice D (u.xs.length + t.xs.length) dd)).cell? ⟨bB, offB + i, none⟩ = some (.slice u.A u.xs.length u.c) := by
              rw [World.cell?_of_block (Below.heap_setCell _ _ _ _ (Ne.symm hAB))]; exact (KS.out _ hp3).2.2.2
            generalize W3.setCell ⟨bA, offA + j, none⟩ (.slice D (u.xs.length + t.xs.length) dd) = W4 at *
            have hS3 : _ ∧ _ ∧ _ := ⟨hb4.cell 3, hb4.cell 4, hcB4⟩
            refine hK.out _ _ ?_ (fun hHeld => ?_)
            · exact hS3
            clear hK K
            try simp only [Act.put, List.setIfInBounds_toArray]
            refine wpAnyH_done (by kernel_rfl) ?_ _
            refine NoPanic.normal ?_
            clear KS KS3 hS3 HRA HRB hcB hb hO
            have v0 : W4.cell? ⟨g, 0, none⟩ = some (.int .i64 q) := hb4.cell 0
            have v1 : W4.cell? ⟨g, 1, none⟩ = some (.int .i64 h) := hb4.cell 1
            have v2 : W4.cell? ⟨g, 2, none⟩ = some (.int .i64 a) := hb4.cell 2
            have v3 : W4.cell? ⟨g, 3, none⟩ = some (.slice (some ⟨bA, offA, none⟩) ts.length c) := hb4.cell 3
            have v4 : W4.cell? ⟨g, 4, none⟩ = some (.slice (some ⟨bB, offB, none⟩) us.length d) := hb4.cell 4
            have v5 : W4.cell? ⟨g, 5, none⟩ = some (.slice (some ⟨bC, offC, none⟩) os.length k) := hb4.cell 5
            have f0 := hb4.frozen 0
            have f1 := hb4.frozen 1
            have f2 := hb4.frozen 2
            have f3 := hb4.frozen 3
            have f4 := hb4.frozen 4
            have f5 := hb4.frozen 5
            go_upto_region 4 with (first | (go_at_call 258; refine (sizeI_any _ _ _ _ (by omega)).mono ?_; rintro e w' ⟨rfl, rfl⟩) | fail)
            have hO5_ := hO4.boxed hb4 (w' := W4.setCell ⟨g, 2, none⟩ (.int .i64 ((u.xs.length : Int) - 1))) (fun b hb => Below.heap_setCell _ _ _ _ hb)
            have hz5_ : Below lo w (W4.setCell ⟨g, 2, none⟩ (.int .i64 ((u.xs.length : Int) - 1))) := hz4.setCell hlg _
            have fr5_ : FrF w (W4.setCell ⟨g, 2, none⟩ (.int .i64 ((u.xs.length : Int) - 1))) := fr4.setB hb4 _
            have hb5_ := hb4.set_ 2 (.int .i64 ((u.xs.length : Int) - 1))
            clear v0 v1 v2 v3 v4 v5 f0 f1 f2 f3 f4 f5 hcB4 hO4 hb4 hz4 fr4
            generalize W4.setCell ⟨g, 2, none⟩ (.int .i64 ((u.xs.length : Int) - 1)) = W5 at *
            have hO4 := hO5_
            have hz4 := hz5_
            have fr4 := fr5_
            have hb4 : Blk W5 g 31 #[.int .i64 q, .int .i64 h, .int .i64 ((u.xs.length : Int) - 1), .slice (some ⟨bA, offA, none⟩) ts.length c, .slice (some ⟨bB, offB, none⟩) us.length d, .slice (some ⟨bC, offC, none⟩) os.length k] := hb5_
            clear hO5_ hz5_ hb5_ fr5_
            have v0 : W5.cell? ⟨g, 0, none⟩ = some (.int .i64 q) := hb4.cell 0
            have v1 : W5.cell? ⟨g, 1, none⟩ = some (.int .i64 h) := hb4.cell 1
            have v2 : W5.cell? ⟨g, 2, none⟩ = some (.int .i64 ((u.xs.length : Int) - 1)) := hb4.cell 2
            have v3 : W5.cell? ⟨g, 3, none⟩ = some (.slice (some ⟨bA, offA, none⟩) ts.length c) := hb4.cell 3
            have v4 : W5.cell? ⟨g, 4, none⟩ = some (.slice (some ⟨bB, offB, none⟩) us.length d) := hb4.cell 4
            have v5 : W5.cell? ⟨g, 5, none⟩ = some (.slice (some ⟨bC, offC, none⟩) os.length k) := hb4.cell 5
            obtain ⟨hxc, hxf⟩ := HOC.out _ _ hO4
            have hO6 := hO4.setO (i := i) hio rfl (x - 1)
            have hb6 := hb4.far (p := ⟨bC, offC + i, none⟩) hgC (.int .i64 (x - 1))
            have fr6 : FrF w (W5.setCell ⟨bC, offC + i, none⟩ (.int .i64 (x - 1))) := fr4.setI hO4.2.2.1 rfl _
            have hz6 : Below lo w (W5.setCell ⟨bC, offC + i, none⟩ (.int .i64 (x - 1))) := hz4.setCell hlC _
            have hbf : Blk (W5.setCell ⟨bC, offC + i, none⟩ (.int .i64 (x - 1))) g 31 #[.int .i64 q, .int .i64 h, .int .i64 ((u.xs.length : Int) - 1), .slice (some ⟨bA, offA, none⟩) (ts.set j ⟨D, dd, u.xs ++ t.xs⟩).length c, .slice (some ⟨bB, offB, none⟩) us.length d, .slice (some ⟨bC, offC, none⟩) (os.set i (x - 1)).length k] := by
              rw [List.length_set, List.length_set]
              exact hb6
            have HFIN : Hid (FmBox (W5.setCell ⟨bC, offC + i, none⟩ (.int .i64 (x - 1))) lo g (unrollF ⟨q, h, a, nums ts, nums us, os⟩ (i : Int) (-1))) := Lib.hid (by
              have e : unrollF ⟨q, h, a, nums ts, nums us, os⟩ (i : Int) (-1) = ⟨q, h, ((u.xs.length : Int) - 1), (nums ts).set j (u.xs ++ t.xs), nums us, os.set i (x - 1)⟩ := by
                unfold unrollF
                dsimp only
                have e1 := HTE.out
                have e2 := HRE.out
                have e3 := HXE.out
                rw [if_neg (by decide), show ((i : Int) + 1) = (j : Int) by have := HJ.out; omega, e1, e2, Int.toNat_natCast, Int.toNat_natCast, e3]
              rw [e]
              exact ⟨_, c, _, _, d, us, _, k, hbf, ⟨hO6, nums_set _ _ _, rfl⟩, hlg⟩)
            clear hO6 hb6 hbf hO4 HOC
            go_wp2_with fail
            go_end0
            exact ⟨⟨_, rfl⟩, HFIN.out, hz6, fr6⟩
          exact AllReadyH.nil
        exact AllReadyH.nil
      exact AllReadyH.nil
    exact AllReadyH.nil
end Go.Proofs.Ytbpofkggoolmpaa

/-
  Contract of the method that tells on which repeater the head of a formula tape is.
-/
namespace Go.Proofs.Ytbpofkggoolmpaa
open Go.RowKit

def onF (f : Fm) : Int × Int := if f.a = -1 then (f.h - 1, -1) else if f.a = (rowAt f.W f.h).length then (f.h, 1) else (0, 0)
def OnP (w : World) (r : Int × Int) (e : Ending) (w' : World) : Prop := e = .returned (.tuple #[.int .i64 r.1, .int .i64 r.2]) ∧ Below w.heap.size w w'

set_option maxRecDepth 100000 in
set_option maxHeartbeats 4000000 in
theorem onRepeater_any (g lo : Nat) (f : Fm) (w : World) (hF : FmBox w lo g f) (hs : FmSz f) :
    Calls Try.prog 186 #[.pointer (some ⟨g, 0, none⟩)] w (OnP w (onF f)) := by
  obtain ⟨A, c, ts, B, d, us, C, k, hb, ⟨hO, eW, eR⟩, hlg⟩ := hF
  obtain ⟨q, h, a, FW, FR, os⟩ := f
  obtain ⟨s1, s2, s3, s4, s5, s6, s7, s8, s9, s10⟩ := hs
  dsimp only at eW eR hb hO s1 s2 s3 s4 s5 s6 s7 s8 s9 s10
  subst eW eR
  rw [nums_len] at s2 s3 s4 s5 s6
  rw [nums_len] at s3
  obtain ⟨hN, rfl⟩ : ∃ hN : Nat, h = (hN : Int) := ⟨h.toNat, by omega⟩
  obtain ⟨t, bb, off, hT, htm, rfl, hbl, hc, hrow⟩ := hO.1.sii.pick (k := hN) (by omega)
  have htl : t.xs.length ≤ 1000 := s7 _ (List.mem_map.2 ⟨t, htm, rfl⟩)
  obtain ⟨res, hres⟩ : ∃ res, res = onF ⟨q, (hN : Int), a, nums ts, nums us, os⟩ := ⟨_, rfl⟩
  rw [← hres]
  have HRES : Hid (res = if a = -1 then ((hN : Int) - 1, -1) else if a = (t.xs.length : Int) then ((hN : Int), 1) else (0, 0)) := Lib.hid (by
    rw [hres]
    unfold onF
    dsimp only
    rw [rowAt_eq hT.out])
  have i1 : (0 : Int) ≤ (hN : Int) := by omega
  have i2 : (hN : Int) < (ts.length : Int) := by omega
  have i3 : hN < ts.length := by omega
  have wh : IntKind.i64.wrap ((hN : Int) - 1) = (hN : Int) - 1 := IntWalk.i64_in _ (by omega)
  have KS : Hid (∀ W', Below w.heap.size w W' → W'.cell? ⟨g, 3, none⟩ = some (.slice (some ⟨bb, off, none⟩) ts.length c) ∧ W'.cell? ⟨g, 1, none⟩ = some (.int .i64 (hN : Int)) ∧ W'.cell? ⟨bb, off + hN, none⟩ = some (.slice t.A t.xs.length t.c)) := Lib.hid (fun W' z => ⟨(hb.below' z).cell 3, (hb.below' z).cell 1, (z.cell (p := ⟨bb, off + hN, none⟩) hbl).trans hc⟩)
  have v0 : w.cell? ⟨g, 0, none⟩ = some (.int .i64 q) := hb.cell 0
  have v1 : w.cell? ⟨g, 1, none⟩ = some (.int .i64 (hN : Int)) := hb.cell 1
  have v2 : w.cell? ⟨g, 2, none⟩ = some (.int .i64 a) := hb.cell 2
  have v3 : w.cell? ⟨g, 3, none⟩ = some (.slice (some ⟨bb, off, none⟩) ts.length c) := hb.cell 3
  have v4 : w.cell? ⟨g, 4, none⟩ = some (.slice B us.length d) := hb.cell 4
  have v5 : w.cell? ⟨g, 5, none⟩ = some (.slice C os.length k) := hb.cell 5
  clear hres hrow htm hT s1 s2 s3 s4 s5 s6 s7 s8 hc hO
  by_cases h1 : a = -1
  · subst h1
    have HRV : Hid (res = ((hN : Int) - 1, -1)) := Lib.hid (by rw [HRES.out, if_pos rfl])
    go_enter Try.func186, Try.ntmps186
    go_wp2_with fail
    exact bodyPost_ret (v := .tuple #[.int .i64 ((hN : Int) - 1), .int .i64 (-1)]) (by simp [results, Try.results186, go_sem]) rfl ⟨by rw [HRV.out], Below.refl _ _⟩
  by_cases h2 : a = (t.xs.length : Int)
  · have HRV : Hid (res = ((hN : Int), 1)) := Lib.hid (by rw [HRES.out, if_neg h1, if_pos h2])
    have hd : (a == (t.xs.length : Int)) = true := by simpa using h2
    clear h2
    go_enter Try.func186, Try.ntmps186
    go_upto_region 4 with fail
    have hp : Below w.heap.size w w.drew := below_drewN (Below.refl _ _) 1
    refine wp_region_noPanic ?_
    refine wp_region_held_drew (S := (fun w' => w'.cell? ⟨g, 3, none⟩ = some (.slice (some ⟨bb, off, none⟩) ts.length c) ∧ w'.cell? ⟨g, 1, none⟩ = some (.int .i64 (hN : Int)) ∧ w'.cell? ⟨bb, off + hN, none⟩ = some (.slice t.A t.xs.length t.c))) (by kernel_rfl) ?_ (fun hHeld => ?_)
    · exact KS.out _ hp
    generalize w.drew = W0 at *
    refine wpAnyH_take (i := 0) (v := ?_) rfl (by kernel_rfl) (by kernel_rfl) (by kernel_rfl) (fun _ _ _ h => h) (Or.inl ⟨by rfl, ?_⟩) (by assumption) ?_
    rotate_left
    · intro w hSw
      try dsimp only at hSw
      obtain ⟨hs0_, hs1_, hs2_⟩ := hSw
      go_simp
      try with_reducible rfl
    try simp only [Act.put, List.setIfInBounds_toArray]
    refine wpAnyH_take (i := 1) (v := ?_) rfl (by kernel_rfl) (by kernel_rfl) (by kernel_rfl) (fun _ _ _ h => h) (Or.inl ⟨by rfl, ?_⟩) (by assumption) ?_
    rotate_left
    · intro w hSw
      try dsimp only at hSw
      obtain ⟨hs0_, hs1_, hs2_⟩ := hSw
      go_simp
      try with_reducible rfl
    try simp only [Act.put]
    refine wpAnyH_take (i := 2) (v := ?_) rfl (by kernel_rfl) (by kernel_rfl) (by kernel_rfl) (fun _ _ _ h => h) (Or.inl ⟨by rfl, ?_⟩) (by assumption) ?_
    rotate_left
    · intro w hSw
      try dsimp only at hSw
      obtain ⟨hs0_, hs1_, hs2_⟩ := hSw
      go_simp
      try with_reducible rfl
    try simp only [Act.put]
    refine wpAnyH_take (i := 3) (v := ?_) rfl (by kernel_rfl) (by kernel_rfl) (by kernel_rfl) (fun _ _ _ h => h) (Or.inl ⟨by rfl, ?_⟩) (by assumption) ?_
    rotate_left
    · intro w hSw
      try dsimp only at hSw
      obtain ⟨hs0_, hs1_, hs2_⟩ := hSw
      go_simp
      try with_reducible rfl
    try simp only [Act.put]
    refine wpAnyH_take (i := 4) (v := ?_) rfl (by kernel_rfl) (by kernel_rfl) (by kernel_rfl) (fun _ _ _ h => h) (Or.inl ⟨by rfl, ?_⟩) (by assumption) ?_
    rotate_left
    · intro w hSw
      try dsimp only at hSw
      obtain ⟨hs0_, hs1_, hs2_⟩ := hSw
      go_simp
      try with_reducible rfl
    try simp only [Act.put]
    refine wpAnyH_take (i := 5) (v := ?_) rfl (by kernel_rfl) (by kernel_rfl) (by kernel_rfl) (fun _ _ _ h => h) (Or.inl ⟨by rfl, ?_⟩) (by assumption) ?_
    rotate_left
    · intro w hSw
      try dsimp only at hSw
      obtain ⟨hs0_, hs1_, hs2_⟩ := hSw
      go_simp
      try with_reducible rfl
    try simp only [Act.put]
    refine wpAnyH_take (i := 6) (v := ?_) rfl (by kernel_rfl) (by kernel_rfl) (by kernel_rfl) (fun _ _ _ h => h) (Or.inl ⟨by rfl, ?_⟩) (by assumption) ?_
    rotate_left
    · intro w hSw
      try dsimp only at hSw
      obtain ⟨hs0_, hs1_, hs2_⟩ := hSw
      go_simp
      try with_reducible rfl
    try simp only [Act.put]
    refine wpAnyH_take (i := 7) (v := ?_) rfl (by kernel_rfl) (by kernel_rfl) (by kernel_rfl) (fun _ _ _ h => h) (Or.inl ⟨by rfl, ?_⟩) (by assumption) ?_
    rotate_left
    · intro w hSw
      try dsimp only at hSw
      obtain ⟨hs0_, hs1_, hs2_⟩ := hSw
      go_simp
      try with_reducible rfl
    try simp only [Act.put]
    refine wpAnyH_take (i := 8) (v := ?_) rfl (by kernel_rfl) (by kernel_rfl) (by kernel_rfl) (fun _ _ _ h => h) (Or.inl ⟨by rfl, ?_⟩) (by assumption) ?_
    rotate_left
    · intro w hSw
      try dsimp only at hSw
      obtain ⟨hs0_, hs1_, hs2_⟩ := hSw
      go_simp
      try with_reducible rfl
    try simp only [Act.put]
    refine wpAnyH_take (i := 9) (v := ?_) rfl (by kernel_rfl) (by kernel_rfl) (by kernel_rfl) (fun _ _ _ h => h) (Or.inl ⟨by rfl, ?_⟩) (by assumption) ?_
    rotate_left
    · intro w hSw
      try dsimp only at hSw
      obtain ⟨hs0_, hs1_, hs2_⟩ := hSw
      go_simp
      try with_reducible rfl
    try simp only [Act.put]
    try simp only [List.getElem_toArray, List.getElem_cons_zero, List.getElem_cons_succ, List.setIfInBounds_toArray, List.set_cons_zero, List.set_cons_succ]
    refine wpAnyH_ready (rs := [10]) (by kernel_rfl) (by simp) ?_
    refine AllReadyH.cons rfl (fun K hK => ?_) ?_
    · go_simp
      refine (sizeI_any _ _ _ _ (by omega)).mono ?_
      rintro e W1 ⟨rfl, rfl⟩
      refine hK.out _ _ ?_ (fun hHeld => ?_)
      · exact KS.out _ hp
      clear hK K
      try simp only [Act.put, List.setIfInBounds_toArray, List.set_cons_zero, List.set_cons_succ]
      refine wpAnyH_take (i := 11) (v := ?_) rfl (by kernel_rfl) (by kernel_rfl) (by kernel_rfl) (fun _ _ _ h => h) (Or.inl ⟨by rfl, ?_⟩) (by assumption) ?_
      rotate_left
      · intro w hSw
        try dsimp only at hSw
        obtain ⟨hs0_, hs1_, hs2_⟩ := hSw
        go_simp
        try with_reducible rfl
      try simp only [Act.put, List.setIfInBounds_toArray]
      try simp only [List.getElem_toArray, List.getElem_cons_zero, List.getElem_cons_succ, List.set_cons_zero, List.set_cons_succ]
      refine wpAnyH_ready (rs := [12]) (by kernel_rfl) (by simp) ?_
      refine AllReadyH.cons rfl (fun K hK => ?_) ?_
      · go_simp
        refine hK.out _ _ ?_ (fun hHeld => ?_)
        · exact KS.out _ hp
        clear hK K
        try simp only [Act.put, List.setIfInBounds_toArray, List.set_cons_zero, List.set_cons_succ]
        refine wpAnyH_done (by kernel_rfl) ?_ _
        refine NoPanic.normal ?_
        clear v0 v1 v2 v3 v4 v5
        have hb2 := hb.below' hp
        have v0 : W0.cell? ⟨g, 0, none⟩ = some (.int .i64 q) := hb2.cell 0
        have v1 : W0.cell? ⟨g, 1, none⟩ = some (.int .i64 (hN : Int)) := hb2.cell 1
        have v2 : W0.cell? ⟨g, 2, none⟩ = some (.int .i64 a) := hb2.cell 2
        have v3 : W0.cell? ⟨g, 3, none⟩ = some (.slice (some ⟨bb, off, none⟩) ts.length c) := hb2.cell 3
        have v4 : W0.cell? ⟨g, 4, none⟩ = some (.slice B us.length d) := hb2.cell 4
        have v5 : W0.cell? ⟨g, 5, none⟩ = some (.slice C os.length k) := hb2.cell 5
        go_wp2_with fail
        exact bodyPost_ret (v := .tuple #[.int .i64 (hN : Int), .int .i64 1]) (by simp [results, Try.results186, go_sem]) rfl ⟨by rw [HRV.out], hp⟩
      exact AllReadyH.nil
    exact AllReadyH.nil
  · have HRV : Hid (res = (0, 0)) := Lib.hid (by rw [HRES.out, if_neg h1, if_neg h2])
    have hd : (a == (t.xs.length : Int)) = false := by simpa using h2
    clear h2
    go_enter Try.func186, Try.ntmps186
    go_upto_region 4 with fail
    have hp : Below w.heap.size w w.drew := below_drewN (Below.refl _ _) 1
    refine wp_region_noPanic ?_
    refine wp_region_held_drew (S := (fun w' => w'.cell? ⟨g, 3, none⟩ = some (.slice (some ⟨bb, off, none⟩) ts.length c) ∧ w'.cell? ⟨g, 1, none⟩ = some (.int .i64 (hN : Int)) ∧ w'.cell? ⟨bb, off + hN, none⟩ = some (.slice t.A t.xs.length t.c))) (by kernel_rfl) ?_ (fun hHeld => ?_)
    · exact KS.out _ hp
    generalize w.drew = W0 at *
    refine wpAnyH_take (i := 0) (v := ?_) rfl (by kernel_rfl) (by kernel_rfl) (by kernel_rfl) (fun _ _ _ h => h) (Or.inl ⟨by rfl, ?_⟩) (by assumption) ?_
    rotate_left
    · intro w hSw
      try dsimp only at hSw
      obtain ⟨hs0_, hs1_, hs2_⟩ := hSw
      go_simp
      try with_reducible rfl
    try simp only [Act.put, List.setIfInBounds_toArray]
    refine wpAnyH_take (i := 1) (v := ?_) rfl (by kernel_rfl) (by kernel_rfl) (by kernel_rfl) (fun _ _ _ h => h) (Or.inl ⟨by rfl, ?_⟩) (by assumption) ?_
    rotate_left
    · intro w hSw
      try dsimp only at hSw
      obtain ⟨hs0_, hs1_, hs2_⟩ := hSw
      go_simp
      try with_reducible rfl
    try simp only [Act.put]
    refine wpAnyH_take (i := 2) (v := ?_) rfl (by kernel_rfl) (by kernel_rfl) (by kernel_rfl) (fun _ _ _ h => h) (Or.inl ⟨by rfl, ?_⟩) (by assumption) ?_
    rotate_left
    · intro w hSw
      try dsimp only at hSw
      obtain ⟨hs0_, hs1_, hs2_⟩ := hSw
      go_simp
      try with_reducible rfl
    try simp only [Act.put]
    refine wpAnyH_take (i := 3) (v := ?_) rfl (by kernel_rfl) (by kernel_rfl) (by kernel_rfl) (fun _ _ _ h => h) (Or.inl ⟨by rfl, ?_⟩) (by assumption) ?_
    rotate_left
    · intro w hSw
      try dsimp only at hSw
      obtain ⟨hs0_, hs1_, hs2_⟩ := hSw
      go_simp
      try with_reducible rfl
    try simp only [Act.put]
    refine wpAnyH_take (i := 4) (v := ?_) rfl (by kernel_rfl) (by kernel_rfl) (by kernel_rfl) (fun _ _ _ h => h) (Or.inl ⟨by rfl, ?_⟩) (by assumption) ?_
    rotate_left
    · intro w hSw
      try dsimp only at hSw
      obtain ⟨hs0_, hs1_, hs2_⟩ := hSw
      go_simp
      try with_reducible rfl
    try simp only [Act.put]
    refine wpAnyH_take (i := 5) (v := ?_) rfl (by kernel_rfl) (by kernel_rfl) (by kernel_rfl) (fun _ _ _ h => h) (Or.inl ⟨by rfl, ?_⟩) (by assumption) ?_
    rotate_left
    · intro w hSw
      try dsimp only at hSw
      obtain ⟨hs0_, hs1_, hs2_⟩ := hSw
      go_simp
      try with_reducible rfl
    try simp only [Act.put]
    refine wpAnyH_take (i := 6) (v := ?_) rfl (by kernel_rfl) (by kernel_rfl) (by kernel_rfl) (fun _ _ _ h => h) (Or.inl ⟨by rfl, ?_⟩) (by assumption) ?_
    rotate_left
    · intro w hSw
      try dsimp only at hSw
      obtain ⟨hs0_, hs1_, hs2_⟩ := hSw
      go_simp
      try with_reducible rfl
    try simp only [Act.put]
    refine wpAnyH_take (i := 7) (v := ?_) rfl (by kernel_rfl) (by kernel_rfl) (by kernel_rfl) (fun _ _ _ h => h) (Or.inl ⟨by rfl, ?_⟩) (by assumption) ?_
    rotate_left
    · intro w hSw
      try dsimp only at hSw
      obtain ⟨hs0_, hs1_, hs2_⟩ := hSw
      go_simp
      try with_reducible rfl
    try simp only [Act.put]
    refine wpAnyH_take (i := 8) (v := ?_) rfl (by kernel_rfl) (by kernel_rfl) (by kernel_rfl) (fun _ _ _ h => h) (Or.inl ⟨by rfl, ?_⟩) (by assumption) ?_
    rotate_left
    · intro w hSw
      try dsimp only at hSw
      obtain ⟨hs0_, hs1_, hs2_⟩ := hSw
      go_simp
      try with_reducible rfl
    try simp only [Act.put]
    refine wpAnyH_take (i := 9) (v := ?_) rfl (by kernel_rfl) (by kernel_rfl) (by kernel_rfl) (fun _ _ _ h => h) (Or.inl ⟨by rfl, ?_⟩) (by assumption) ?_
    rotate_left
    · intro w hSw
      try dsimp only at hSw
      obtain ⟨hs0_, hs1_, hs2_⟩ := hSw
      go_simp
      try with_reducible rfl
    try simp only [Act.put]
    try simp only [List.getElem_toArray, List.getElem_cons_zero, List.getElem_cons_succ, List.setIfInBounds_toArray, List.set_cons_zero, List.set_cons_succ]
    refine wpAnyH_ready (rs := [10]) (by kernel_rfl) (by simp) ?_
    refine AllReadyH.cons rfl (fun K hK => ?_) ?_
    · go_simp
      refine (sizeI_any _ _ _ _ (by omega)).mono ?_
      rintro e W1 ⟨rfl, rfl⟩
      refine hK.out _ _ ?_ (fun hHeld => ?_)
      · exact KS.out _ hp
      clear hK K
      try simp only [Act.put, List.setIfInBounds_toArray, List.set_cons_zero, List.set_cons_succ]
      refine wpAnyH_take (i := 11) (v := ?_) rfl (by kernel_rfl) (by kernel_rfl) (by kernel_rfl) (fun _ _ _ h => h) (Or.inl ⟨by rfl, ?_⟩) (by assumption) ?_
      rotate_left
      · intro w hSw
        try dsimp only at hSw
        obtain ⟨hs0_, hs1_, hs2_⟩ := hSw
        go_simp
        try with_reducible rfl
      try simp only [Act.put, List.setIfInBounds_toArray]
      try simp only [List.getElem_toArray, List.getElem_cons_zero, List.getElem_cons_succ, List.set_cons_zero, List.set_cons_succ]
      refine wpAnyH_ready (rs := [12]) (by kernel_rfl) (by simp) ?_
      refine AllReadyH.cons rfl (fun K hK => ?_) ?_
      · go_simp
        refine hK.out _ _ ?_ (fun hHeld => ?_)
        · exact KS.out _ hp
        clear hK K
        try simp only [Act.put, List.setIfInBounds_toArray, List.set_cons_zero, List.set_cons_succ]
        refine wpAnyH_done (by kernel_rfl) ?_ _
        refine NoPanic.normal ?_
        clear v0 v1 v2 v3 v4 v5
        go_wp2_with fail
        exact bodyPost_ret (v := .tuple #[.int .i64 0, .int .i64 0]) (by simp [results, Try.results186, go_sem]) rfl ⟨by rw [HRV.out], hp⟩
      exact AllReadyH.nil
    exact AllReadyH.nil
end Go.Proofs.Ytbpofkggoolmpaa
