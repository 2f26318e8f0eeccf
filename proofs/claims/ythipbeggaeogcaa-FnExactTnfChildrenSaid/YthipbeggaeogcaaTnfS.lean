/-
  Contracts of the reference's l00Min, l05Own.
-/
import Derived.Test.YthipbeggaeogcaaTnfI3
namespace Go.Proofs.Ythipbeggaeogcaa
open Go.RowKit

theorem l00Min_any (a b : Int) (w : World) : Calls Try.prog 176 #[.int .i64 a, .int .i64 b] w fun e w' => e = .returned (.int .i64 (min a b)) ∧ w = w' := by
  rw [← if_min]
  by_cases h : a < b
  · rw [if_pos h]
    go_enter Try.func176, Try.ntmps176
    go_wp2_with fail
    go_ret
    exact ⟨rfl, rfl⟩
  · rw [if_neg h]
    go_enter Try.func176, Try.ntmps176
    go_wp2_with fail
    go_ret
    exact ⟨rfl, rfl⟩

set_option maxRecDepth 100000 in
set_option maxHeartbeats 4000000 in
theorem l05Own_any (g : Nat) (sy st : Int) (A : Option Addr) (n k : Nat) (rs : List R3) (w : World) (hm : MachAt w g sy st A n k) (hrs : S3 w A n rs) (hn : n ≤ 1048576) :
    Calls Try.prog 177 #[.pointer (some ⟨g, 0, none⟩)] w (NewM w sy st rs) := by
  have HL := Lib.hid hrs.len
  obtain ⟨W, hW_⟩ : ∃ W_, W_ = w.alloc (.cells #[.int .i64 0, .int .i64 0, .slice none 0 0] 82) := ⟨_, rfl⟩
  have b0 : Blk W w.heap.size 82 #[.int .i64 0, .int .i64 0, .slice none 0 0] := by rw [hW_]; exact Blk.new w _ _
  have z0 : Below w.heap.size w W := by rw [hW_]; exact (Below.refl _ _).alloc (Nat.le_refl _) _
  have HW := Lib.hid hW_
  clear hW_
  have hM := hm.below z0
  have hR := hrs.below z0
  go_enter Try.func177, Try.ntmps177
  go_upto_region 1 with fail
  rw [← HW.out]
  have hz : Below W.heap.size W W.drew := below_drewN (Below.refl _ _) 1
  have hB : Blk W.drew w.heap.size 82 #[.int .i64 0, .int .i64 0, .slice none 0 0] := b0
  have hM' : MachAt W.drew g sy st A n k := hM
  have hR' : S3 W.drew A n rs := hR
  have hw0 : w.heap.size < W.heap.size := b0.lt
  have hgw := hm.lt
  clear b0 hM hR hm hrs HW
  refine wp_region_noPanic ?_
  refine wp_region_held_drew (S := (fun w' => w'.cell? ⟨g, 0, none⟩ = some (.int .i64 sy) ∧ w'.cell? ⟨g, 1, none⟩ = some (.int .i64 st) ∧ w'.cell? ⟨g, 2, none⟩ = some (.slice A n k))) (by kernel_rfl) ?_ (fun hHeld => ?_)
  · exact ⟨hM'.1, hM'.2.1, hM'.2.2⟩
  generalize W.drew = Wd at *
  refine wpAnyH_take (i := 0) (v := ?_) rfl (by kernel_rfl) (by kernel_rfl) (by kernel_rfl) (fun _ _ _ h => h) (Or.inl ⟨by rfl, ?_⟩) (by assumption) ?_
  rotate_left
  · intro w hSw
    try dsimp only at hSw
    go_simp
    try with_reducible rfl
  try simp only [Act.put, List.setIfInBounds_toArray]
  refine wpAnyH_take (i := 1) (v := ?_) rfl (by kernel_rfl) (by kernel_rfl) (by kernel_rfl) (fun _ _ _ h => h) (Or.inl ⟨by rfl, ?_⟩) (by assumption) ?_
  rotate_left
  · intro w hSw
    try dsimp only at hSw
    go_simp
    try with_reducible rfl
  try simp only [Act.put]
  refine wpAnyH_take (i := 2) (v := ?_) rfl (by kernel_rfl) (by kernel_rfl) (by kernel_rfl) (fun _ _ _ h => h) (Or.inl ⟨by rfl, ?_⟩) (by assumption) ?_
  rotate_left
  · intro w hSw
    try dsimp only at hSw
    go_simp
    try with_reducible rfl
  try simp only [Act.put]
  refine wpAnyH_take (i := 3) (v := ?_) rfl (by kernel_rfl) (by kernel_rfl) (by kernel_rfl) (fun _ _ _ h => h) (Or.inl ⟨by rfl, ?_⟩) (by assumption) ?_
  rotate_left
  · intro w hSw
    try dsimp only at hSw
    go_simp
    try with_reducible rfl
  try simp only [Act.put]
  refine wpAnyH_take (i := 4) (v := ?_) rfl (by kernel_rfl) (by kernel_rfl) (by kernel_rfl) (fun _ _ _ h => h) (Or.inl ⟨by rfl, ?_⟩) (by assumption) ?_
  rotate_left
  · intro w hSw
    try dsimp only at hSw
    go_simp
    try with_reducible rfl
  try simp only [Act.put]
  refine wpAnyH_take (i := 5) (v := ?_) rfl (by kernel_rfl) (by kernel_rfl) (by kernel_rfl) (fun _ _ _ h => h) (Or.inl ⟨by rfl, ?_⟩) (by assumption) ?_
  rotate_left
  · intro w hSw
    try dsimp only at hSw
    go_simp
    try with_reducible rfl
  try simp only [Act.put]
  refine wpAnyH_take (i := 6) (v := ?_) rfl (by kernel_rfl) (by kernel_rfl) (by kernel_rfl) (fun _ _ _ h => h) (Or.inl ⟨by rfl, ?_⟩) (by assumption) ?_
  rotate_left
  · intro w hSw
    try dsimp only at hSw
    go_simp
    try with_reducible rfl
  try simp only [Act.put]
  refine wpAnyH_take (i := 7) (v := ?_) rfl (by kernel_rfl) (by kernel_rfl) (by kernel_rfl) (fun _ _ _ h => h) (Or.inl ⟨by rfl, ?_⟩) (by assumption) ?_
  rotate_left
  · intro w hSw
    try dsimp only at hSw
    go_simp
    try with_reducible rfl
  try simp only [Act.put]
  refine wpAnyH_take (i := 9) (v := ?_) rfl (by kernel_rfl) (by kernel_rfl) (by kernel_rfl) (fun _ _ _ h => h) (Or.inl ⟨by rfl, ?_⟩) (by assumption) ?_
  rotate_left
  · intro w hSw
    try dsimp only at hSw
    go_simp
    try with_reducible rfl
  try simp only [Act.put]
  refine wpAnyH_take (i := 10) (v := ?_) rfl (by kernel_rfl) (by kernel_rfl) (by kernel_rfl) (fun _ _ _ h => h) (Or.inl ⟨by rfl, ?_⟩) (by assumption) ?_
  rotate_left
  · intro w hSw
    try dsimp only at hSw
    go_simp
    try with_reducible rfl
  try simp only [Act.put]
  refine wpAnyH_take (i := 11) (v := ?_) rfl (by kernel_rfl) (by kernel_rfl) (by kernel_rfl) (fun _ _ _ h => h) (Or.inl ⟨by rfl, ?_⟩) (by assumption) ?_
  rotate_left
  · intro w hSw
    try dsimp only at hSw
    go_simp
    try with_reducible rfl
  try simp only [Act.put]
  refine wpAnyH_take (i := 12) (v := ?_) rfl (by kernel_rfl) (by kernel_rfl) (by kernel_rfl) (fun _ _ _ h => h) (Or.inl ⟨by rfl, ?_⟩) (by assumption) ?_
  rotate_left
  · intro w hSw
    try dsimp only at hSw
    go_simp
    try with_reducible rfl
  try simp only [Act.put]
  refine wpAnyH_ready (rs := [8]) (by kernel_rfl) (by simp) ?_
  refine AllReadyH.cons rfl (fun K hK => ?_) ?_
  · go_simp
    obtain ⟨Wc, hWc⟩ : ∃ Wc, Wc = Wd.alloc (.cells #[] 169) := ⟨_, rfl⟩
    have zc : Below Wd.heap.size Wd Wc := by rw [hWc]; exact (Below.refl _ _).alloc (Nat.le_refl _) _
    have ho : Own Wc W.heap.size 169 3 (some ⟨Wd.heap.size, 0, none⟩) 0 0 [] := by rw [hWc]; exact (Own.lit0 Wd _ 3).mono hz.size
    have hz2 := hz.trans (zc.mono hz.size)
    have hgl : g < Wd.heap.size := hM'.lt
    have hB2 := hB.below' zc
    have hM2 := hM'.below zc
    have hR2 := hR'.below zc
    rw [← hWc]
    clear hWc
    refine hK.out _ _ ?_ (fun hHeld => ?_)
    · first | exact ⟨hMf.1, hMf.2.1, hMf.2.2⟩ | exact ⟨hM3.1, hM3.2.1, hM3.2.2⟩ | exact ⟨hM2.1, hM2.2.1, hM2.2.2⟩
    clear hK K
    try simp only [Act.put, List.setIfInBounds_toArray, List.set_cons_zero, List.set_cons_succ]
    refine wpAnyH_ready (rs := [13]) (by kernel_rfl) (by simp) ?_
    refine AllReadyH.cons rfl (fun K hK => ?_) ?_
    · rw [if_pos (by rfl)]
      refine wp_append_Own (.tmp 11) (.tmp 15) rfl elR (lo := W.heap.size) rfl ho rfl hR2 (cells3_one rs) (by omega) (by simp only [maxLen]; omega) hz2.size ?_
      intro A3 c3 W3 ho3 hg3 hw3
      have hz3 := ho.below_of hz2 hg3 hz2.size
      have hB3 : Blk W3 w.heap.size 82 #[.int .i64 0, .int .i64 0, .slice none 0 0] := (hg3.block w.heap.size hB2.lt (fun e => by have := ho.blk_ge _ e.symm; omega)).trans hB2
      have hgb : Hid (∀ j, W3.cell? ⟨g, j, none⟩ = Wc.cell? ⟨g, j, none⟩) := Lib.hid (fun j => World.cell?_of_block (hg3.block g hM2.lt (fun e => by simp [blk] at e; omega)))
      have hM3 : MachAt W3 g sy st A n k := ⟨(hgb.out 0).trans hM2.1, (hgb.out 1).trans hM2.2.1, (hgb.out 2).trans hM2.2.2⟩
      refine hK.out _ _ ?_ (fun hHeld => ?_)
      · first | exact ⟨hMf.1, hMf.2.1, hMf.2.2⟩ | exact ⟨hM3.1, hM3.2.1, hM3.2.2⟩ | exact ⟨hM2.1, hM2.2.1, hM2.2.2⟩
      clear hK K
      try simp only [Act.put, List.setIfInBounds_toArray]
      refine wpAnyH_take (i := 14) (v := ?_) rfl (by kernel_rfl) (by kernel_rfl) (by kernel_rfl) (fun _ _ _ h => h) (Or.inl ⟨by rfl, ?_⟩) (by assumption) ?_
      rotate_left
      · intro w hSw
        try dsimp only at hSw
        go_simp
        try with_reducible rfl
      try simp only [Act.put]
      refine wpAnyH_ready (rs := [15]) (by kernel_rfl) (by simp) ?_
      refine AllReadyH.cons rfl (fun K hK => ?_) ?_
      · have x0 := hB3.cell 0
        have x1 := hB3.cell 1
        have x2 := hB3.cell 2
        have f0 := hB3.frozen 0
        have f1 := hB3.frozen 1
        have f2 := hB3.frozen 2
        go_simp
        obtain ⟨Wf, hWf⟩ : ∃ Wf, Wf = ((W3.setCell ⟨w.heap.size, 0, none⟩ (.int .i64 sy)).setCell ⟨w.heap.size, 1, none⟩ (.int .i64 st)).setCell ⟨w.heap.size, 2, none⟩ (.slice A3 n c3) := ⟨_, rfl⟩
        have hBf : Blk Wf w.heap.size 82 #[.int .i64 sy, .int .i64 st, .slice A3 n c3] := by rw [hWf]; exact ((hB3.set_ 0 _).set_ 1 _).set_ 2 _
        have of : Own Wf W.heap.size 169 3 A3 n c3 (cells3 rs) := by rw [hWf]; exact (fun (o3 : Own W3 W.heap.size 169 3 A3 n c3 (cells3 rs)) => (((o3.far (fun e => by have := o3.blk_ge _ e; simp at this; omega) _).far (fun e => by have := o3.blk_ge _ e; simp at this; omega) _).far (fun e => by have := o3.blk_ge _ e; simp at this; omega) _)) (by simpa using ho3)
        have zf : Below w.heap.size w Wf := by rw [hWf]; exact ((((z0.trans (hz3.mono z0.size)).setCell (Nat.le_refl _) _).setCell (Nat.le_refl _) _).setCell (Nat.le_refl _) _)
        have n1 : ¬ g = w.heap.size := by omega
        have hMf : MachAt Wf g sy st A n k := by rw [hWf]; exact ⟨far_set n1 (far_set n1 (far_set n1 hM3.1)), far_set n1 (far_set n1 (far_set n1 hM3.2.1)), far_set n1 (far_set n1 (far_set n1 hM3.2.2))⟩
        rw [← hWf]
        clear hWf x0 x1 x2 f0 f1 f2
        refine hK.out _ _ ?_ (fun hHeld => ?_)
        · first | exact ⟨hMf.1, hMf.2.1, hMf.2.2⟩ | exact ⟨hM3.1, hM3.2.1, hM3.2.2⟩ | exact ⟨hM2.1, hM2.2.1, hM2.2.2⟩
        clear hK K
        try simp only [Act.put, List.setIfInBounds_toArray]
        refine wpAnyH_done (by kernel_rfl) ?_ _
        have g0_ : Wf.cell? ⟨w.heap.size, 0, none⟩ = some (.int .i64 sy) := hBf.cell 0
        have g1_ : Wf.cell? ⟨w.heap.size, 1, none⟩ = some (.int .i64 st) := hBf.cell 1
        have g2_ : Wf.cell? ⟨w.heap.size, 2, none⟩ = some (.slice A3 n c3) := hBf.cell 2
        clear hHeld
        refine NoPanic.normal ?_
        go_wp2_with fail
        exact bodyPost_ret (v := .agg #[.int .i64 sy, .int .i64 st, .slice A3 n c3]) (by simp [results, Try.results177, go_sem, g0_, g1_, g2_]) rfl ⟨A3, c3, by rw [HL.out], by rw [HL.out]; exact of.mono (by omega), zf⟩
      exact AllReadyH.nil
    exact AllReadyH.nil
  exact AllReadyH.nil

end Go.Proofs.Ythipbeggaeogcaa
