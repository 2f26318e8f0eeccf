/-
  Contract of the function that TraceTag hands to runSystem.
-/
import Derived.Test.YtldgfgjaabphnaaTraceTagP
import Derived.Deep.RegionWith
namespace Go.Proofs.Ytldgfgjaabphnaa
open Go.RowKit

def TrVis (w : World) (lo b9 i : Nat) (A : Option Addr) (us : List Sl) (xs : List Int) (e : Ending) (w' : World) : Prop :=
  ∃ A2 a2 u, e = .returned (.bool true) ∧ Blk w' b9 22 #[.slice A2 (i + 1) a2] ∧ OII w' lo 23 2 A2 (i + 1) a2 (us ++ [u]) ∧ u.xs = xs ∧ Keep (fun b => b = b9 ∨ blk A = some b) w w' ∧ (∀ b, blk A2 = some b → blk A = some b ∨ w.heap.size ≤ b) ∧ (∀ b, blk u.A = some b → w.heap.size ≤ b)

set_option maxRecDepth 100000 in
set_option maxHeartbeats 4000000 in
theorem traceVisit_any (Q : Option Addr) (l r b9 lo i a : Nat) (A : Option Addr) (us : List Sl) (xs : List Int) (w : World) (hb : Blk w b9 22 #[.slice A i a]) (ho : OII w lo 23 2 A i a us) (hx : SI w Q l xs) (hl : l ≤ 1048576) (hi : i ≤ 1000) (hlo : lo ≤ w.heap.size) :
    Calls Try.prog 74 #[.slice Q l r, .pointer (some ⟨b9, 0, none⟩)] w (TrVis w lo b9 i A us xs) := by
  have c9 : w.cell? ⟨b9, 0, none⟩ = some (.slice A i a) := hb.cell 0
  have f9 := hb.frozen 0
  go_enter Try.func74, Try.ntmps74
  go_wp2_with fail
  refine wp_region_any (by kernel_rfl) ?_
  try (change wpAny _ _ _ _ _ _ _ (World.drew _))
  refine wpAny_take (i := 1) (v := ?_) rfl (by kernel_rfl) (by kernel_rfl) (by kernel_rfl) (fun _ _ _ h => h) (Or.inl ⟨by rfl, ?_⟩) ?_
  rotate_left
  · intro w
    go_simp
    try with_reducible rfl
  try simp only [Act.put, List.setIfInBounds_toArray, List.set_cons_zero, List.set_cons_succ]
  refine wpAny_ready (rs := [0, 2]) (by kernel_rfl) (by simp) ?_
  refine AllReady.cons rfl (fun K hK => ?_) ?_
  · go_simp
    refine hK _ _ ?_
    clear hK K
    try simp only [Act.put, List.setIfInBounds_toArray, List.set_cons_zero, List.set_cons_succ]
    refine wpAny_ready (rs := [2]) (by kernel_rfl) (by simp) ?_
    refine AllReady.cons rfl (fun K hK => ?_) ?_
    · go_simp
      refine (cloneI_any _ _ _ xs _ (hx.drewN 1) hl).mono ?_
      rintro e W7 ⟨A7, a7, rfl, o7, z7'⟩
      have z7 : Below w.heap.size w W7 := below_undrew (n := 1) z7'
      have hb7 := hb.below' z7
      have c97 : W7.cell? ⟨b9, 0, none⟩ = some (.slice A i a) := hb7.cell 0
      have l97 : b9 < W7.heap.size := hb7.lt
      have ho7 := ho.below z7
      clear z7'
      refine hK _ _ ?_
      clear hK K
      try simp only [Act.put, List.setIfInBounds_toArray, List.set_cons_zero, List.set_cons_succ]
      refine wpAny_ready (rs := [3]) (by kernel_rfl) (by simp) ?_
      refine AllReady.cons rfl (fun K hK => ?_) ?_
      · go_simp
        refine hK _ _ ?_
        clear hK K
        try simp only [Act.put, List.setIfInBounds_toArray, List.set_cons_zero, List.set_cons_succ]
        refine wpAny_ready (rs := [4]) (by kernel_rfl) (by simp) ?_
        refine AllReady.cons rfl (fun K hK => ?_) ?_
        · rw [if_pos (by rfl)]
          refine wp_append_Own (.tmp 4) (.tmp 7) rfl elII (lo := lo) rfl (ho7.1.alloc _) rfl (Rd.new1 W7 _ _) (by simp [Value.oneCell']) (by omega) (by simp only [maxLen]; omega) (by have := z7.size; simp; omega) ?_
          intro A8 c8 w8 ho8 hg8 hw8
          have b98 := (hb7.alloc _).growt (ho7.1.alloc _) hg8 (by decide)
          have c98 : w8.cell? ⟨b9, 0, none⟩ = some (.slice A i a) := b98.cell 0
          have f98 : w8.frozen? ⟨b9, 0, none⟩ = false := b98.frozen 0
          refine hK _ _ ?_
          clear hK K
          try simp only [Act.put, List.setIfInBounds_toArray, List.set_cons_zero, List.set_cons_succ]
          refine wpAny_ready (rs := [5]) (by kernel_rfl) (by simp) ?_
          refine AllReady.cons rfl (fun K hK => ?_) ?_
          · go_simp
            refine hK _ _ ?_
            clear hK K
            try simp only [Act.put, List.setIfInBounds_toArray]
            refine wpAny_done (by kernel_rfl) ?_ _
            have hs := OII.snoc (u := ⟨A7, a7, xs⟩) ho (ho7.alloc _) ho8 hg8 (o7.alloc _) (Nat.le_refl _) hlo (by decide)
            have hK : Keep (fun b => b = b9 ∨ blk A = some b) w (w8.setCell ⟨b9, 0, none⟩ (.slice A8 (i + 1) c8)) := ((((Keep.refl _ w).below z7).alloc _).grown hg8 (fun b hb => .inr hb)).set (.inl rfl) _
            have hres : TrVis w lo b9 i A us xs (.returned (.bool true)) (w8.setCell ⟨b9, 0, none⟩ (.slice A8 (i + 1) c8)) := ⟨A8, c8, ⟨A7, a7, xs⟩, rfl, b98.set_ 0 _, hs.set_box b98 (by decide) (by decide) _, rfl, hK, fun b hb => by
              have h9 := z7.size
              rcases hw8.1 with h | h
              · exact .inl (h ▸ hb)
              · rw [hb] at h; simp at h; exact .inr (by omega), fun b hb => o7.blk_ge b hb⟩
            generalize w8.setCell ⟨b9, 0, none⟩ (.slice A8 (i + 1) c8) = wf at *
            go_wp2_with fail
            go_ret
            exact hres
          exact AllReady.nil
        exact AllReady.nil
      exact AllReady.nil
    exact AllReady.nil
  refine AllReady.cons rfl (fun K hK => ?_) ?_
  · go_simp
    refine (cloneI_any _ _ _ xs _ (hx.drewN 1) hl).mono ?_
    rintro e W7 ⟨A7, a7, rfl, o7, z7'⟩
    have z7 : Below w.heap.size w W7 := below_undrew (n := 1) z7'
    have hb7 := hb.below' z7
    have c97 : W7.cell? ⟨b9, 0, none⟩ = some (.slice A i a) := hb7.cell 0
    have l97 : b9 < W7.heap.size := hb7.lt
    have ho7 := ho.below z7
    clear z7'
    refine hK _ _ ?_
    clear hK K
    try simp only [Act.put, List.setIfInBounds_toArray, List.set_cons_zero, List.set_cons_succ]
    refine wpAny_ready (rs := [0, 3]) (by kernel_rfl) (by simp) ?_
    refine AllReady.cons rfl (fun K hK => ?_) ?_
    · go_simp
      refine hK _ _ ?_
      clear hK K
      try simp only [Act.put, List.setIfInBounds_toArray, List.set_cons_zero, List.set_cons_succ]
      refine wpAny_ready (rs := [3]) (by kernel_rfl) (by simp) ?_
      refine AllReady.cons rfl (fun K hK => ?_) ?_
      · go_simp
        refine hK _ _ ?_
        clear hK K
        try simp only [Act.put, List.setIfInBounds_toArray, List.set_cons_zero, List.set_cons_succ]
        refine wpAny_ready (rs := [4]) (by kernel_rfl) (by simp) ?_
        refine AllReady.cons rfl (fun K hK => ?_) ?_
        · rw [if_pos (by rfl)]
          refine wp_append_Own (.tmp 4) (.tmp 7) rfl elII (lo := lo) rfl (ho7.1.alloc _) rfl (Rd.new1 W7 _ _) (by simp [Value.oneCell']) (by omega) (by simp only [maxLen]; omega) (by have := z7.size; simp; omega) ?_
          intro A8 c8 w8 ho8 hg8 hw8
          have b98 := (hb7.alloc _).growt (ho7.1.alloc _) hg8 (by decide)
          have c98 : w8.cell? ⟨b9, 0, none⟩ = some (.slice A i a) := b98.cell 0
          have f98 : w8.frozen? ⟨b9, 0, none⟩ = false := b98.frozen 0
          refine hK _ _ ?_
          clear hK K
          try simp only [Act.put, List.setIfInBounds_toArray, List.set_cons_zero, List.set_cons_succ]
          refine wpAny_ready (rs := [5]) (by kernel_rfl) (by simp) ?_
          refine AllReady.cons rfl (fun K hK => ?_) ?_
          · go_simp
            refine hK _ _ ?_
            clear hK K
            try simp only [Act.put, List.setIfInBounds_toArray]
            refine wpAny_done (by kernel_rfl) ?_ _
            have hs := OII.snoc (u := ⟨A7, a7, xs⟩) ho (ho7.alloc _) ho8 hg8 (o7.alloc _) (Nat.le_refl _) hlo (by decide)
            have hK : Keep (fun b => b = b9 ∨ blk A = some b) w (w8.setCell ⟨b9, 0, none⟩ (.slice A8 (i + 1) c8)) := ((((Keep.refl _ w).below z7).alloc _).grown hg8 (fun b hb => .inr hb)).set (.inl rfl) _
            have hres : TrVis w lo b9 i A us xs (.returned (.bool true)) (w8.setCell ⟨b9, 0, none⟩ (.slice A8 (i + 1) c8)) := ⟨A8, c8, ⟨A7, a7, xs⟩, rfl, b98.set_ 0 _, hs.set_box b98 (by decide) (by decide) _, rfl, hK, fun b hb => by
              have h9 := z7.size
              rcases hw8.1 with h | h
              · exact .inl (h ▸ hb)
              · rw [hb] at h; simp at h; exact .inr (by omega), fun b hb => o7.blk_ge b hb⟩
            generalize w8.setCell ⟨b9, 0, none⟩ (.slice A8 (i + 1) c8) = wf at *
            go_wp2_with fail
            go_ret
            exact hres
          exact AllReady.nil
        exact AllReady.nil
      exact AllReady.nil
    refine AllReady.cons rfl (fun K hK => ?_) ?_
    · go_simp
      refine hK _ _ ?_
      clear hK K
      try simp only [Act.put, List.setIfInBounds_toArray, List.set_cons_zero, List.set_cons_succ]
      refine wpAny_ready (rs := [0]) (by kernel_rfl) (by simp) ?_
      refine AllReady.cons rfl (fun K hK => ?_) ?_
      · go_simp
        refine hK _ _ ?_
        clear hK K
        try simp only [Act.put, List.setIfInBounds_toArray, List.set_cons_zero, List.set_cons_succ]
        refine wpAny_ready (rs := [4]) (by kernel_rfl) (by simp) ?_
        refine AllReady.cons rfl (fun K hK => ?_) ?_
        · rw [if_pos (by rfl)]
          refine wp_append_Own (.tmp 4) (.tmp 7) rfl elII (lo := lo) rfl (ho7.1.alloc _) rfl (Rd.new1 W7 _ _) (by simp [Value.oneCell']) (by omega) (by simp only [maxLen]; omega) (by have := z7.size; simp; omega) ?_
          intro A8 c8 w8 ho8 hg8 hw8
          have b98 := (hb7.alloc _).growt (ho7.1.alloc _) hg8 (by decide)
          have c98 : w8.cell? ⟨b9, 0, none⟩ = some (.slice A i a) := b98.cell 0
          have f98 : w8.frozen? ⟨b9, 0, none⟩ = false := b98.frozen 0
          refine hK _ _ ?_
          clear hK K
          try simp only [Act.put, List.setIfInBounds_toArray, List.set_cons_zero, List.set_cons_succ]
          refine wpAny_ready (rs := [5]) (by kernel_rfl) (by simp) ?_
          refine AllReady.cons rfl (fun K hK => ?_) ?_
          · go_simp
            refine hK _ _ ?_
            clear hK K
            try simp only [Act.put, List.setIfInBounds_toArray]
            refine wpAny_done (by kernel_rfl) ?_ _
            have hs := OII.snoc (u := ⟨A7, a7, xs⟩) ho (ho7.alloc _) ho8 hg8 (o7.alloc _) (Nat.le_refl _) hlo (by decide)
            have hK : Keep (fun b => b = b9 ∨ blk A = some b) w (w8.setCell ⟨b9, 0, none⟩ (.slice A8 (i + 1) c8)) := ((((Keep.refl _ w).below z7).alloc _).grown hg8 (fun b hb => .inr hb)).set (.inl rfl) _
            have hres : TrVis w lo b9 i A us xs (.returned (.bool true)) (w8.setCell ⟨b9, 0, none⟩ (.slice A8 (i + 1) c8)) := ⟨A8, c8, ⟨A7, a7, xs⟩, rfl, b98.set_ 0 _, hs.set_box b98 (by decide) (by decide) _, rfl, hK, fun b hb => by
              have h9 := z7.size
              rcases hw8.1 with h | h
              · exact .inl (h ▸ hb)
              · rw [hb] at h; simp at h; exact .inr (by omega), fun b hb => o7.blk_ge b hb⟩
            generalize w8.setCell ⟨b9, 0, none⟩ (.slice A8 (i + 1) c8) = wf at *
            go_wp2_with fail
            go_ret
            exact hres
          exact AllReady.nil
        exact AllReady.nil
      exact AllReady.nil
    exact AllReady.nil
  exact AllReady.nil
end Go.Proofs.Ytldgfgjaabphnaa
