/-
  Contract of the function that TagCycle hands to runSystem.
-/
import Derived.Test.YtokglpdlhacnaaaPkTagCycles0
import Derived.Test.YtokglpdlhacnaaaPkTagCycles1
import Derived.Test.YtokglpdlhacnaaaPkTagCycles2
import Derived.Test.YtokglpdlhacnaaaPkTagCycles3
import Derived.Test.YtokglpdlhacnaaaPkTagCycles4
import Derived.Deep.RegionHeld3
import Derived.Deep.RegionWith
import Derived.Deep.DeepCutAuto
import Derived.Carry
namespace Go.Proofs.Ytokglpdlhacnaaa
open Go.RowKit

def YC (b1 b3 b4 b5 gm : Nat) (b : Nat) : Prop := b = b1 ∨ b = b3 ∨ b = b4 ∨ b = b5 ∨ b = gm
/-- The boxes of n, seen, a, b, found and the map. -/
structure CyB (W0 : World) (b1 b2 b3 b4 b5 gm k : Nat) (f : ByteArray → Option Int) (i va vb : Int) (vf : Bool) (W : World) : Prop where
  bn : Blk W b1 2 #[.int .i64 i]
  bs : Blk W b2 126 #[.map (some gm)]
  ba : Blk W b3 2 #[.int .i64 va]
  bb : Blk W b4 2 #[.int .i64 vb]
  bf : Blk W b5 4 #[.bool vf]
  bm : StrMap W gm k f
  kp : Keep (YC b1 b3 b4 b5 gm) W0 W
section
variable {W0 W W' : World} {b1 b2 b3 b4 b5 gm k : Nat} {f : ByteArray → Option Int} {i va vb : Int} {vf : Bool}
theorem CyB.below (h : CyB W0 b1 b2 b3 b4 b5 gm k f i va vb vf W) (z : Below W.heap.size W W') : CyB W0 b1 b2 b3 b4 b5 gm k f i va vb vf W' :=
  ⟨h.bn.below' z, h.bs.below' z, h.ba.below' z, h.bb.below' z, h.bf.below' z, h.bm.keep (z.block gm h.bm.lt), h.kp.below z⟩
theorem CyB.setN (h : CyB W0 b1 b2 b3 b4 b5 gm k f i va vb vf W) (hd : gm < b2 ∧ b2 < b1 ∧ b1 < b3 ∧ b3 < b4 ∧ b4 < b5) (x : Int) : CyB W0 b1 b2 b3 b4 b5 gm k f x va vb vf (W.setCell ⟨b1, 0, none⟩ (.int .i64 x)) :=
  ⟨h.bn.set_ 0 _, h.bs.far (p := ⟨b1, 0, none⟩) (by show b2 ≠ b1; omega) _, h.ba.far (p := ⟨b1, 0, none⟩) (by show b3 ≠ b1; omega) _, h.bb.far (p := ⟨b1, 0, none⟩) (by show b4 ≠ b1; omega) _, h.bf.far (p := ⟨b1, 0, none⟩) (by show b5 ≠ b1; omega) _,
    h.bm.keep (Below.heap_setCell W ⟨b1, 0, none⟩ _ gm (by show gm ≠ b1; omega)), h.kp.set (.inl rfl) _⟩
theorem CyB.setA (h : CyB W0 b1 b2 b3 b4 b5 gm k f i va vb vf W) (hd : gm < b2 ∧ b2 < b1 ∧ b1 < b3 ∧ b3 < b4 ∧ b4 < b5) (x : Int) : CyB W0 b1 b2 b3 b4 b5 gm k f i x vb vf (W.setCell ⟨b3, 0, none⟩ (.int .i64 x)) :=
  ⟨h.bn.far (p := ⟨b3, 0, none⟩) (by show b1 ≠ b3; omega) _, h.bs.far (p := ⟨b3, 0, none⟩) (by show b2 ≠ b3; omega) _, h.ba.set_ 0 _, h.bb.far (p := ⟨b3, 0, none⟩) (by show b4 ≠ b3; omega) _, h.bf.far (p := ⟨b3, 0, none⟩) (by show b5 ≠ b3; omega) _,
    h.bm.keep (Below.heap_setCell W ⟨b3, 0, none⟩ _ gm (by show gm ≠ b3; omega)), h.kp.set (.inr (.inl rfl)) _⟩
theorem CyB.setB (h : CyB W0 b1 b2 b3 b4 b5 gm k f i va vb vf W) (hd : gm < b2 ∧ b2 < b1 ∧ b1 < b3 ∧ b3 < b4 ∧ b4 < b5) (x : Int) : CyB W0 b1 b2 b3 b4 b5 gm k f i va x vf (W.setCell ⟨b4, 0, none⟩ (.int .i64 x)) :=
  ⟨h.bn.far (p := ⟨b4, 0, none⟩) (by show b1 ≠ b4; omega) _, h.bs.far (p := ⟨b4, 0, none⟩) (by show b2 ≠ b4; omega) _, h.ba.far (p := ⟨b4, 0, none⟩) (by show b3 ≠ b4; omega) _, h.bb.set_ 0 _, h.bf.far (p := ⟨b4, 0, none⟩) (by show b5 ≠ b4; omega) _,
    h.bm.keep (Below.heap_setCell W ⟨b4, 0, none⟩ _ gm (by show gm ≠ b4; omega)), h.kp.set (.inr (.inr (.inl rfl))) _⟩
theorem CyB.setF (h : CyB W0 b1 b2 b3 b4 b5 gm k f i va vb vf W) (hd : gm < b2 ∧ b2 < b1 ∧ b1 < b3 ∧ b3 < b4 ∧ b4 < b5) (x : Bool) : CyB W0 b1 b2 b3 b4 b5 gm k f i va vb x (W.setCell ⟨b5, 0, none⟩ (.bool x)) :=
  ⟨h.bn.far (p := ⟨b5, 0, none⟩) (by show b1 ≠ b5; omega) _, h.bs.far (p := ⟨b5, 0, none⟩) (by show b2 ≠ b5; omega) _, h.ba.far (p := ⟨b5, 0, none⟩) (by show b3 ≠ b5; omega) _, h.bb.far (p := ⟨b5, 0, none⟩) (by show b4 ≠ b5; omega) _, h.bf.set_ 0 _,
    h.bm.keep (Below.heap_setCell W ⟨b5, 0, none⟩ _ gm (by show gm ≠ b5; omega)), h.kp.set (.inr (.inr (.inr (.inl rfl)))) _⟩
theorem CyB.put {k' : Nat} {g : ByteArray → Option Int} (h : CyB W0 b1 b2 b3 b4 b5 gm k f i va vb vf W) (hd : gm < b2 ∧ b2 < b1 ∧ b1 < b3 ∧ b3 < b4 ∧ b4 < b5) (hm : StrMap W' gm k' g) (hg : W.grownBy W' (some gm)) : CyB W0 b1 b2 b3 b4 b5 gm k' g i va vb vf W' :=
  ⟨(hg.block b1 h.bn.lt (by simp; omega)).trans h.bn, (hg.block b2 h.bs.lt (by simp; omega)).trans h.bs, (hg.block b3 h.ba.lt (by simp; omega)).trans h.ba, (hg.block b4 h.bb.lt (by simp; omega)).trans h.bb, (hg.block b5 h.bf.lt (by simp; omega)).trans h.bf,
    hm, h.kp.grown hg (fun b e => by simp at e; exact .inr (.inr (.inr (.inr e.symm))))⟩
theorem CyB.si {C : Option Addr} {l : Nat} {xs : List Int} (h : CyB W0 b1 b2 b3 b4 b5 gm k f i va vb vf W) (hx : SI W0 C l xs) (hC : ∀ b, blk C = some b → ¬ YC b1 b3 b4 b5 gm b) : SI W C l xs :=
  hx.keep fun p hp he => World.cell?_of_block (h.kp.block p.block hp (hC _ he.symm))
end
set_option maxRecDepth 100000 in
set_option maxHeartbeats 8000000 in
theorem cycVisit_yes (W : World) (C : Option Addr) (l r : Nat) (xs : List Int) (b1 b2 b3 b4 b5 gm k : Nat) (f : ByteArray → Option Int) (m i va vb a : Int) (vf : Bool) (h : CyB W b1 b2 b3 b4 b5 gm k f m va vb vf W) (hd : gm < b2 ∧ b2 < b1 ∧ b1 < b3 ∧ b3 < b4 ∧ b4 < b5)
    (hx : SI W C l xs) (hC : ∀ b, blk C = some b → ¬ YC b1 b3 b4 b5 gm b) (hl : l ≤ 1048576) (hr : ∀ x ∈ xs, 0 ≤ x ∧ x ≤ 255) (hf : f (strOfNums xs) = some a) (ha : 0 ≤ a) (hai : a ≤ i) (hi : i ≤ 1000000000) (hm : m + 1 = i) :
    Calls Try.prog 85 #[.slice C l r, .pointer (some ⟨b1, 0, none⟩), .pointer (some ⟨b2, 0, none⟩), .pointer (some ⟨b3, 0, none⟩), .pointer (some ⟨b4, 0, none⟩), .pointer (some ⟨b5, 0, none⟩)] W fun e W' => e = .returned (.bool false) ∧ CyB W b1 b2 b3 b4 b5 gm k f i a (i - a) true W' := by
  have w1 : IntKind.i64.wrap (m + 1) = i := by rw [hm]; exact IntWalk.i64_in _ (by omega)
  have hsz : (strOfNums xs).size ≤ maxLen := by rw [strOfNums_size, hx.len]; simp only [maxLen]; omega
  have HKEY := Lib.hid (fun W' (z : CyB W b1 b2 b3 b4 b5 gm k f i va vb vf W') => keyOf_any C l r xs W' (z.si hx hC) hl hr)
  have HFA := Lib.hid (fun W' (z : CyB W b1 b2 b3 b4 b5 gm k f i va vb vf W') => firstAgain_yes gm k f (strOfNums xs) i a W' z.bm hsz hf ha hai hi)
  have HD := Lib.hid hd
  have HXX := Lib.hid hx
  have c1 : W.cell? ⟨b1, 0, none⟩ = some (.int .i64 m) := h.bn.cell 0
  have f1 := h.bn.frozen 0
  go_enter Try.func85, Try.ntmps85
  go_upto_region 2 with fail
  have hq := h.setN hd i
  generalize W.setCell ⟨b1, 0, none⟩ (.int .i64 i) = W1 at *
  clear c1 f1 hd hx hf hr h
  refine wp_region_noPanic ?_
  refine wp_region_held_drew (S := (fun w' => w'.cell? ⟨b2, 0, none⟩ = some (.map (some gm)) ∧ w'.cell? ⟨b1, 0, none⟩ = some (.int .i64 i))) (by kernel_rfl) ?_ (fun hHeld => ?_)
  · exact ⟨hq.bs.cell 0, hq.bn.cell 0⟩
  replace hq := hq.below (show Below W1.heap.size W1 W1.drew from below_drewN (Below.refl _ _) 1)
  generalize W1.drew = Wc at *
  refine wpAnyH_take (i := 0) (v := ?_) rfl (by kernel_rfl) (by kernel_rfl) (by kernel_rfl) (fun _ _ _ h => h) (Or.inl ⟨by rfl, ?_⟩) (by assumption) ?_
  rotate_left
  · intro w hSw
    try dsimp only at hSw
    obtain ⟨h0_, h1_⟩ := hSw
    go_simp
    try with_reducible rfl
  try simp only [Act.put, List.setIfInBounds_toArray, List.set_cons_zero, List.set_cons_succ]
  refine wpAnyH_take (i := 1) (v := ?_) rfl (by kernel_rfl) (by kernel_rfl) (by kernel_rfl) (fun _ _ _ h => h) (Or.inl ⟨by rfl, ?_⟩) (by assumption) ?_
  rotate_left
  · intro w hSw
    try dsimp only at hSw
    go_simp
    try with_reducible rfl
  try simp only [Act.put, List.setIfInBounds_toArray, List.set_cons_zero, List.set_cons_succ]
  refine wpAnyH_take (i := 3) (v := ?_) rfl (by kernel_rfl) (by kernel_rfl) (by kernel_rfl) (fun _ _ _ h => h) (Or.inl ⟨by rfl, ?_⟩) (by assumption) ?_
  rotate_left
  · intro w hSw
    try dsimp only at hSw
    obtain ⟨h0_, h1_⟩ := hSw
    go_simp
    try with_reducible rfl
  try simp only [Act.put, List.setIfInBounds_toArray, List.set_cons_zero, List.set_cons_succ]
  refine wpAnyH_ready (rs := [2]) (by kernel_rfl) (by simp) ?_
  refine AllReadyH.cons rfl (fun K hK => ?_) ?_
  · go_simp
    refine (HKEY.out _ hq).mono ?_
    rintro e Wd ⟨rfl, z7⟩
    replace hq := hq.below z7
    refine hK.out _ _ ?_ (fun hHeld => ?_)
    · exact ⟨hq.bs.cell 0, hq.bn.cell 0⟩
    clear hK K
    try simp only [Act.put, List.setIfInBounds_toArray, List.set_cons_zero, List.set_cons_succ]
    refine wpAnyH_ready (rs := [4]) (by kernel_rfl) (by simp) ?_
    refine AllReadyH.cons rfl (fun K hK => ?_) ?_
    · go_simp
      refine (HFA.out _ hq).mono ?_
      rintro e We ⟨rfl, rfl⟩
      refine hK.out _ _ ?_ (fun hHeld => ?_)
      · exact ⟨hq.bs.cell 0, hq.bn.cell 0⟩
      clear hK K
      try simp only [Act.put, List.setIfInBounds_toArray, List.set_cons_zero, List.set_cons_succ]
      refine wpAnyH_take (i := 5) (v := ?_) rfl (by kernel_rfl) (by kernel_rfl) (by kernel_rfl) (fun _ _ _ h => h) (Or.inl ⟨by rfl, ?_⟩) (by assumption) ?_
      rotate_left
      · intro w hSw
        try dsimp only at hSw
        go_simp
        try with_reducible rfl
      try simp only [Act.put, List.setIfInBounds_toArray, List.set_cons_zero, List.set_cons_succ]
      refine wpAnyH_take (i := 6) (v := ?_) rfl (by kernel_rfl) (by kernel_rfl) (by kernel_rfl) (fun _ _ _ h => h) (Or.inl ⟨by rfl, ?_⟩) (by assumption) ?_
      rotate_left
      · intro w hSw
        try dsimp only at hSw
        go_simp
        try with_reducible rfl
      try simp only [Act.put, List.setIfInBounds_toArray, List.set_cons_zero, List.set_cons_succ]
      refine wpAnyH_take (i := 7) (v := ?_) rfl (by kernel_rfl) (by kernel_rfl) (by kernel_rfl) (fun _ _ _ h => h) (Or.inl ⟨by rfl, ?_⟩) (by assumption) ?_
      rotate_left
      · intro w hSw
        try dsimp only at hSw
        go_simp
        try with_reducible rfl
      try simp only [Act.put, List.setIfInBounds_toArray, List.set_cons_zero, List.set_cons_succ]
      refine wpAnyH_take (i := 8) (v := ?_) rfl (by kernel_rfl) (by kernel_rfl) (by kernel_rfl) (fun _ _ _ h => h) (Or.inl ⟨by rfl, ?_⟩) (by assumption) ?_
      rotate_left
      · intro w hSw
        try dsimp only at hSw
        go_simp
        try with_reducible rfl
      try simp only [Act.put, List.setIfInBounds_toArray, List.set_cons_zero, List.set_cons_succ]
      refine wpAnyH_ready (rs := [9]) (by kernel_rfl) (by simp) ?_
      refine AllReadyH.cons rfl (fun K hK => ?_) ?_
      · have cc := hq.ba.cell 0
        have ff := hq.ba.frozen 0
        go_simp
        clear cc ff
        replace hq := hq.setA HD.out a
        refine hK.out _ _ ?_ (fun hHeld => ?_)
        · exact ⟨hq.bs.cell 0, hq.bn.cell 0⟩
        clear hK K
        try simp only [Act.put, List.setIfInBounds_toArray]
        refine wpAnyH_ready (rs := [10]) (by kernel_rfl) (by simp) ?_
        refine AllReadyH.cons rfl (fun K hK => ?_) ?_
        · have cc := hq.bb.cell 0
          have ff := hq.bb.frozen 0
          go_simp
          clear cc ff
          replace hq := hq.setB HD.out (i - a)
          refine hK.out _ _ ?_ (fun hHeld => ?_)
          · exact ⟨hq.bs.cell 0, hq.bn.cell 0⟩
          clear hK K
          try simp only [Act.put, List.setIfInBounds_toArray]
          refine wpAnyH_ready (rs := [11]) (by kernel_rfl) (by simp) ?_
          refine AllReadyH.cons rfl (fun K hK => ?_) ?_
          · have cc := hq.bf.cell 0
            have ff := hq.bf.frozen 0
            go_simp
            clear cc ff
            replace hq := hq.setF HD.out true
            refine hK.out _ _ ?_ (fun hHeld => ?_)
            · exact ⟨hq.bs.cell 0, hq.bn.cell 0⟩
            clear hK K
            try simp only [Act.put, List.setIfInBounds_toArray]
            refine wpAnyH_done (by kernel_rfl) ?_ _
            refine NoPanic.normal ?_
            have cF := hq.bf.cell 0
            go_wp2_with fail
            go_ret
            exact ⟨rfl, hq⟩
          exact AllReadyH.nil
        exact AllReadyH.nil
      exact AllReadyH.nil
    exact AllReadyH.nil
  exact AllReadyH.nil
set_option maxRecDepth 100000 in
set_option maxHeartbeats 8000000 in
theorem cycVisit_no (W : World) (C : Option Addr) (l r : Nat) (xs : List Int) (b1 b2 b3 b4 b5 gm k : Nat) (f : ByteArray → Option Int) (m i va vb : Int) (vf : Bool) (h : CyB W b1 b2 b3 b4 b5 gm k f m va vb vf W) (hd : gm < b2 ∧ b2 < b1 ∧ b1 < b3 ∧ b3 < b4 ∧ b4 < b5)
    (hx : SI W C l xs) (hC : ∀ b, blk C = some b → ¬ YC b1 b3 b4 b5 gm b) (hl : l ≤ 1048576) (hr : ∀ x ∈ xs, 0 ≤ x ∧ x ≤ 255) (hf : f (strOfNums xs) = none) (hk : k < maxLen) (ha : 0 ≤ i) (hi : i ≤ 1000000000) (hm : m + 1 = i) :
    Calls Try.prog 85 #[.slice C l r, .pointer (some ⟨b1, 0, none⟩), .pointer (some ⟨b2, 0, none⟩), .pointer (some ⟨b3, 0, none⟩), .pointer (some ⟨b4, 0, none⟩), .pointer (some ⟨b5, 0, none⟩)] W fun e W' => e = .returned (.bool true) ∧ CyB W b1 b2 b3 b4 b5 gm (k + 1) (fun t => if t = strOfNums xs then some i else f t) i 0 0 false W' := by
  have w1 : IntKind.i64.wrap (m + 1) = i := by rw [hm]; exact IntWalk.i64_in _ (by omega)
  have hsz : (strOfNums xs).size ≤ maxLen := by rw [strOfNums_size, hx.len]; simp only [maxLen]; omega
  have HKEY := Lib.hid (fun W' (z : CyB W b1 b2 b3 b4 b5 gm k f i va vb vf W') => keyOf_any C l r xs W' (z.si hx hC) hl hr)
  have HFA := Lib.hid (fun W' (z : CyB W b1 b2 b3 b4 b5 gm k f i va vb vf W') => firstAgain_no gm k f (strOfNums xs) i W' z.bm hk hsz hf ha hi)
  have HD := Lib.hid hd
  have HXX := Lib.hid hx
  have c1 : W.cell? ⟨b1, 0, none⟩ = some (.int .i64 m) := h.bn.cell 0
  have f1 := h.bn.frozen 0
  go_enter Try.func85, Try.ntmps85
  go_upto_region 2 with fail
  have hq := h.setN hd i
  generalize W.setCell ⟨b1, 0, none⟩ (.int .i64 i) = W1 at *
  clear c1 f1 hd hx hf hr h
  refine wp_region_noPanic ?_
  refine wp_region_held_drew (S := (fun w' => w'.cell? ⟨b2, 0, none⟩ = some (.map (some gm)) ∧ w'.cell? ⟨b1, 0, none⟩ = some (.int .i64 i))) (by kernel_rfl) ?_ (fun hHeld => ?_)
  · exact ⟨hq.bs.cell 0, hq.bn.cell 0⟩
  replace hq := hq.below (show Below W1.heap.size W1 W1.drew from below_drewN (Below.refl _ _) 1)
  generalize W1.drew = Wc at *
  refine wpAnyH_take (i := 0) (v := ?_) rfl (by kernel_rfl) (by kernel_rfl) (by kernel_rfl) (fun _ _ _ h => h) (Or.inl ⟨by rfl, ?_⟩) (by assumption) ?_
  rotate_left
  · intro w hSw
    try dsimp only at hSw
    obtain ⟨h0_, h1_⟩ := hSw
    go_simp
    try with_reducible rfl
  try simp only [Act.put, List.setIfInBounds_toArray, List.set_cons_zero, List.set_cons_succ]
  refine wpAnyH_take (i := 1) (v := ?_) rfl (by kernel_rfl) (by kernel_rfl) (by kernel_rfl) (fun _ _ _ h => h) (Or.inl ⟨by rfl, ?_⟩) (by assumption) ?_
  rotate_left
  · intro w hSw
    try dsimp only at hSw
    go_simp
    try with_reducible rfl
  try simp only [Act.put, List.setIfInBounds_toArray, List.set_cons_zero, List.set_cons_succ]
  refine wpAnyH_take (i := 3) (v := ?_) rfl (by kernel_rfl) (by kernel_rfl) (by kernel_rfl) (fun _ _ _ h => h) (Or.inl ⟨by rfl, ?_⟩) (by assumption) ?_
  rotate_left
  · intro w hSw
    try dsimp only at hSw
    obtain ⟨h0_, h1_⟩ := hSw
    go_simp
    try with_reducible rfl
  try simp only [Act.put, List.setIfInBounds_toArray, List.set_cons_zero, List.set_cons_succ]
  refine wpAnyH_ready (rs := [2]) (by kernel_rfl) (by simp) ?_
  refine AllReadyH.cons rfl (fun K hK => ?_) ?_
  · go_simp
    refine (HKEY.out _ hq).mono ?_
    rintro e Wd ⟨rfl, z7⟩
    replace hq := hq.below z7
    refine hK.out _ _ ?_ (fun hHeld => ?_)
    · exact ⟨hq.bs.cell 0, hq.bn.cell 0⟩
    clear hK K
    try simp only [Act.put, List.setIfInBounds_toArray, List.set_cons_zero, List.set_cons_succ]
    refine wpAnyH_ready (rs := [4]) (by kernel_rfl) (by simp) ?_
    refine AllReadyH.cons rfl (fun K hK => ?_) ?_
    · go_simp
      refine (HFA.out _ hq).mono ?_
      rintro e We ⟨rfl, hm2, hg2⟩
      replace hq := hq.put HD.out hm2 hg2
      refine hK.out _ _ ?_ (fun hHeld => ?_)
      · exact ⟨hq.bs.cell 0, hq.bn.cell 0⟩
      clear hK K
      try simp only [Act.put, List.setIfInBounds_toArray, List.set_cons_zero, List.set_cons_succ]
      refine wpAnyH_take (i := 5) (v := ?_) rfl (by kernel_rfl) (by kernel_rfl) (by kernel_rfl) (fun _ _ _ h => h) (Or.inl ⟨by rfl, ?_⟩) (by assumption) ?_
      rotate_left
      · intro w hSw
        try dsimp only at hSw
        go_simp
        try with_reducible rfl
      try simp only [Act.put, List.setIfInBounds_toArray, List.set_cons_zero, List.set_cons_succ]
      refine wpAnyH_take (i := 6) (v := ?_) rfl (by kernel_rfl) (by kernel_rfl) (by kernel_rfl) (fun _ _ _ h => h) (Or.inl ⟨by rfl, ?_⟩) (by assumption) ?_
      rotate_left
      · intro w hSw
        try dsimp only at hSw
        go_simp
        try with_reducible rfl
      try simp only [Act.put, List.setIfInBounds_toArray, List.set_cons_zero, List.set_cons_succ]
      refine wpAnyH_take (i := 7) (v := ?_) rfl (by kernel_rfl) (by kernel_rfl) (by kernel_rfl) (fun _ _ _ h => h) (Or.inl ⟨by rfl, ?_⟩) (by assumption) ?_
      rotate_left
      · intro w hSw
        try dsimp only at hSw
        go_simp
        try with_reducible rfl
      try simp only [Act.put, List.setIfInBounds_toArray, List.set_cons_zero, List.set_cons_succ]
      refine wpAnyH_take (i := 8) (v := ?_) rfl (by kernel_rfl) (by kernel_rfl) (by kernel_rfl) (fun _ _ _ h => h) (Or.inl ⟨by rfl, ?_⟩) (by assumption) ?_
      rotate_left
      · intro w hSw
        try dsimp only at hSw
        go_simp
        try with_reducible rfl
      try simp only [Act.put, List.setIfInBounds_toArray, List.set_cons_zero, List.set_cons_succ]
      refine wpAnyH_ready (rs := [9]) (by kernel_rfl) (by simp) ?_
      refine AllReadyH.cons rfl (fun K hK => ?_) ?_
      · have cc := hq.ba.cell 0
        have ff := hq.ba.frozen 0
        go_simp
        clear cc ff
        replace hq := hq.setA HD.out 0
        refine hK.out _ _ ?_ (fun hHeld => ?_)
        · exact ⟨hq.bs.cell 0, hq.bn.cell 0⟩
        clear hK K
        try simp only [Act.put, List.setIfInBounds_toArray]
        refine wpAnyH_ready (rs := [10]) (by kernel_rfl) (by simp) ?_
        refine AllReadyH.cons rfl (fun K hK => ?_) ?_
        · have cc := hq.bb.cell 0
          have ff := hq.bb.frozen 0
          go_simp
          clear cc ff
          replace hq := hq.setB HD.out 0
          refine hK.out _ _ ?_ (fun hHeld => ?_)
          · exact ⟨hq.bs.cell 0, hq.bn.cell 0⟩
          clear hK K
          try simp only [Act.put, List.setIfInBounds_toArray]
          refine wpAnyH_ready (rs := [11]) (by kernel_rfl) (by simp) ?_
          refine AllReadyH.cons rfl (fun K hK => ?_) ?_
          · have cc := hq.bf.cell 0
            have ff := hq.bf.frozen 0
            go_simp
            clear cc ff
            replace hq := hq.setF HD.out false
            refine hK.out _ _ ?_ (fun hHeld => ?_)
            · exact ⟨hq.bs.cell 0, hq.bn.cell 0⟩
            clear hK K
            try simp only [Act.put, List.setIfInBounds_toArray]
            refine wpAnyH_done (by kernel_rfl) ?_ _
            refine NoPanic.normal ?_
            have cF := hq.bf.cell 0
            go_wp2_with fail
            go_ret
            exact ⟨rfl, hq⟩
          exact AllReadyH.nil
        exact AllReadyH.nil
      exact AllReadyH.nil
    exact AllReadyH.nil
  exact AllReadyH.nil
end Go.Proofs.Ytokglpdlhacnaaa

/-
  Words that come again in the run of a tag system. No program is in sight.
-/
namespace Go.Proofs.Ytokglpdlhacnaaa
open Go.RowKit

theorem u8_inj {x y : Int} (hx : 0 ≤ x ∧ x ≤ 255) (hy : 0 ≤ y ∧ y ≤ 255) (h : UInt8.ofNat x.toNat = UInt8.ofNat y.toNat) : x = y := by
  have h1 : (UInt8.ofNat x.toNat).toNat = (UInt8.ofNat y.toNat).toNat := by rw [h]
  simp only [UInt8.toNat_ofNat'] at h1
  omega
theorem strOf_inj {xs ys : List Int} (hx : ∀ x ∈ xs, 0 ≤ x ∧ x ≤ 255) (hy : ∀ y ∈ ys, 0 ≤ y ∧ y ≤ 255) (h : strOfNums xs = strOfNums ys) : xs = ys := by
  have h1 : (xs.map fun n => UInt8.ofNat n.toNat) = ys.map fun n => UInt8.ofNat n.toNat := by
    have h2 := congrArg (fun b : ByteArray => b.data.toList) h
    simpa [strOfNums] using h2
  clear h
  induction xs generalizing ys with
  | nil => cases ys with
    | nil => rfl
    | cons y ys => simp at h1
  | cons x xs ih => cases ys with
    | nil => simp at h1
    | cons y ys =>
      simp only [List.map_cons, List.cons.injEq] at h1
      rw [u8_inj (hx x List.mem_cons_self) (hy y List.mem_cons_self) h1.1, ih (fun a ha => hx a (List.mem_cons_of_mem _ ha)) (fun a ha => hy a (List.mem_cons_of_mem _ ha)) h1.2]
section
variable (s : Sys (List Int)) (xs : List Int)
/-- When the word behind i steps stood first. -/
def prevA (i : Nat) : Option Nat := (List.range i).find? fun j => decide (s.it xs j = s.it xs i)
/-- What the map holds behind i visits. -/
def mapC (i : Nat) (t : ByteArray) : Option Int := ((List.range i).find? fun j => decide (strOfNums (s.it xs j) = t)).map fun j : Nat => (j : Int)
/-- What the boxes a, b, found hold behind i visits. -/
def cyV : Nat → Int × Int × Bool
  | 0 => (0, 0, false)
  | i + 1 => match prevA s xs i with
    | some j => ((j : Int), (i : Int) - (j : Int), true)
    | none => (0, 0, false)
end
section
variable {s : Sys (List Int)} {xs : List Int} {i : Nat}
theorem prevA_some {j : Nat} (h : prevA s xs i = some j) : j < i ∧ s.it xs j = s.it xs i := by
  have h1 := List.mem_of_find?_eq_some h
  have h2 := List.find?_some h
  exact ⟨List.mem_range.1 h1, by simpa using h2⟩
theorem prevA_none (h : prevA s xs i = none) : ∀ j, j < i → s.it xs j ≠ s.it xs i := by
  intro j hj
  have := List.find?_eq_none.1 h j (List.mem_range.2 hj)
  simpa using this
theorem mapC_zero (t : ByteArray) : mapC s xs 0 t = none := rfl
theorem mapC_own (h : ∀ j, j ≤ i → ∀ x ∈ s.it xs j, 0 ≤ x ∧ x ≤ 255) : mapC s xs i (strOfNums (s.it xs i)) = (prevA s xs i).map fun j : Nat => (j : Int) := by
  unfold mapC prevA
  congr 1
  have key : ∀ l : List Nat, (∀ j ∈ l, j < i) → l.find? (fun j => decide (strOfNums (s.it xs j) = strOfNums (s.it xs i))) = l.find? fun j => decide (s.it xs j = s.it xs i) := by
    intro l
    induction l with
    | nil => intro _; rfl
    | cons a l ih =>
      intro hl
      have e : decide (strOfNums (s.it xs a) = strOfNums (s.it xs i)) = decide (s.it xs a = s.it xs i) := by
        rw [decide_eq_decide]
        exact ⟨strOf_inj (h a (by have := hl a List.mem_cons_self; omega)) (h i (Nat.le_refl _)), fun e => by rw [e]⟩
      rw [List.find?_cons, List.find?_cons, e, ih (fun j hj => hl j (List.mem_cons_of_mem _ hj))]
  exact key _ (fun j hj => List.mem_range.1 hj)
theorem mapC_next (t : ByteArray) : mapC s xs (i + 1) t = (mapC s xs i t).or (if strOfNums (s.it xs i) = t then some (i : Int) else none) := by
  unfold mapC
  rw [List.range_succ, List.find?_append]
  cases (List.range i).find? (fun j => decide (strOfNums (s.it xs j) = t)) with
  | some a => rfl
  | none =>
    simp only [Option.none_or, Option.map_none, List.find?_cons, List.find?_nil]
    by_cases h : strOfNums (s.it xs i) = t
    · simp [h]
    · simp [h]
theorem mapC_old {a : Int} (h : mapC s xs i (strOfNums (s.it xs i)) = some a) (t : ByteArray) : mapC s xs i t = mapC s xs (i + 1) t := by
  rw [mapC_next]
  by_cases e : strOfNums (s.it xs i) = t
  · subst e; rw [h]; rfl
  · rw [if_neg e]; simp
theorem mapC_new (h : mapC s xs i (strOfNums (s.it xs i)) = none) (t : ByteArray) : (if t = strOfNums (s.it xs i) then some (i : Int) else mapC s xs i t) = mapC s xs (i + 1) t := by
  rw [mapC_next]
  by_cases e : t = strOfNums (s.it xs i)
  · subst e; rw [h]; simp
  · rw [if_neg e, if_neg (fun h => e h.symm)]; simp
theorem mapC_val {t : ByteArray} {a : Int} (h : mapC s xs i t = some a) : 0 ≤ a ∧ a ≤ (i : Int) := by
  unfold mapC at h
  rw [Option.map_eq_some_iff] at h
  obtain ⟨j, h1, rfl⟩ := h
  have := List.mem_range.1 (List.mem_of_find?_eq_some h1)
  omega
/-- A run that comes to a word again goes on for ever. -/
theorem cyc_rep {j : Nat} (hji : j < i) (he : s.it xs j = s.it xs i) : ∀ n, ∃ m, m < i ∧ s.it xs n = s.it xs m := by
  intro n
  induction n with
  | zero => exact ⟨0, by omega, rfl⟩
  | succ n ih =>
    obtain ⟨m, hm, e⟩ := ih
    have e1 : s.it xs (n + 1) = s.it xs (m + 1) := by show s.next _ = s.next _; rw [e]
    by_cases h : m + 1 = i
    · exact ⟨j, hji, by rw [e1, h, he]⟩
    · exact ⟨m + 1, by omega, e1⟩
theorem cyc_alive {j : Nat} (hA : s.Alive xs i) (hji : j < i) (he : s.it xs j = s.it xs i) (n : Nat) : s.Alive xs n ∧ s.halt (s.it xs n) = false := by
  constructor
  · intro k _
    obtain ⟨m, hm, e⟩ := cyc_rep hji he k
    rw [e]
    exact hA m hm
  · obtain ⟨m, hm, e⟩ := cyc_rep hji he n
    rw [e]
    exact (hA m hm).1
end
end Go.Proofs.Ytokglpdlhacnaaa

/-
  Contract of impl.TagCycle for valid systems.
-/
namespace Go.Proofs.Ytokglpdlhacnaaa
open Go.RowKit

/-- What TagCycle says. -/
def CycP (s : Sys (List Int)) (xs : List Int) (N : Nat) (w : World) (e : Ending) (w' : World) : Prop := Below w.heap.size w w' ∧
  ((∃ i, i ≤ N ∧ s.Alive xs i ∧ s.halt (s.it xs i) = true ∧ e = .returned (.tuple #[.int .i64 0, .int .i64 0, .int .i64 3])) ∨
  (∃ i j : Nat, i ≤ N ∧ j < i ∧ s.Alive xs i ∧ s.it xs j = s.it xs i ∧ e = .returned (.tuple #[.int .i64 (j : Int), .int .i64 ((i : Int) - (j : Int)), .int .i64 0])) ∨
  (s.Alive xs N ∧ s.halt (s.it xs N) = false ∧ e = .returned (.tuple #[.int .i64 0, .int .i64 0, .int .i64 6])) ∨
  (∃ i, s.Full xs N i ∧ e = .returned (.tuple #[.int .i64 0, .int .i64 0, .int .i64 5])))
/-- What TagCycle's own blocks hold ahead of visit i. -/
def cyD (s : Sys (List Int)) (xs : List Int) (b1 b2 b3 b4 b5 gm i : Nat) (X : Nat → Prop) (W : World) : Prop :=
  (X b1 ∧ X b2 ∧ X b3 ∧ X b4 ∧ X b5 ∧ X gm) ∧ CyB W b1 b2 b3 b4 b5 gm i (mapC s xs i) ((i : Int) - 1) (cyV s xs i).1 (cyV s xs i).2.1 (cyV s xs i).2.2 W
theorem CyB.base {W0 W : World} {b1 b2 b3 b4 b5 gm k : Nat} {f : ByteArray → Option Int} {i va vb : Int} {vf : Bool} (h : CyB W0 b1 b2 b3 b4 b5 gm k f i va vb vf W) : CyB W b1 b2 b3 b4 b5 gm k f i va vb vf W :=
  ⟨h.bn, h.bs, h.ba, h.bb, h.bf, h.bm, Keep.refl _ _⟩
theorem cyD_fr (s : Sys (List Int)) (xs : List Int) (b1 b2 b3 b4 b5 gm i : Nat) : FrD (cyD s xs b1 b2 b3 b4 b5 gm i) := by
  rintro X W W' ⟨⟨x1, x2, x3, x4, x5, x6⟩, h⟩ hf
  exact ⟨⟨x1, x2, x3, x4, x5, x6⟩, ⟨h.bn.fr hf x1, h.bs.fr hf x2, h.ba.fr hf x3, h.bb.fr hf x4, h.bf.fr hf x5, h.bm.keep (hf.same gm x6 h.bm.lt), Keep.refl _ _⟩⟩
theorem CyB.congr {W0 W : World} {b1 b2 b3 b4 b5 gm k k' : Nat} {f g : ByteArray → Option Int} {i i' va va' vb vb' : Int} {vf vf' : Bool} (h : CyB W0 b1 b2 b3 b4 b5 gm k f i va vb vf W) (hk : k ≤ k') (e : ∀ t, f t = g t) (e1 : i = i') (e2 : va = va') (e3 : vb = vb') (e4 : vf = vf') : CyB W b1 b2 b3 b4 b5 gm k' g i' va' vb' vf' W := by
  subst e1 e2 e3 e4
  exact ⟨h.bn, h.bs, h.ba, h.bb, h.bf, (h.bm.congr e).mono hk, Keep.refl _ _⟩
set_option maxRecDepth 100000 in
set_option maxHeartbeats 4000000 in
theorem tagCycleI_any (d : Int) (A : Option Addr) (n c : Nat) (ts : List Sl) (B : Option Addr) (m k : Nat) (hs : List Int) (C : Option Addr) (l r : Nat) (xs : List Int) (N : Nat) (w : World) (hx : SII w A n ts) (hy : SI w B m hs) (hz : SI w C l xs) (hn : n ≤ 1048576) (hm : m ≤ 1048576) (hns : ∀ t ∈ ts, t.xs.length ≤ 1048576) (hl : l ≤ 1048576)
    (hcode : tagCodeF d (nums ts) hs xs = 0) (hN1 : 1 ≤ N) (hN2 : N ≤ 20000) :
    Calls Try.prog 34 #[.agg #[.int .i64 d, .slice A n c, .slice B m k], .slice C l r, .int .i64 (N : Int)] w (CycP (tagSys d (nums ts) hs) xs N w) := by
  have hmm := @run_makeMap Try.prog
  obtain ⟨W, hW_⟩ : ∃ W, W = w.alloc (.cells #[.int .i64 d, .slice A n c, .slice B m k] 70) := ⟨_, rfl⟩
  have b0 : Blk W w.heap.size 70 #[.int .i64 d, .slice A n c, .slice B m k] := by rw [hW_]; exact Blk.new w _ _
  have y0 : Below w.heap.size w W := by rw [hW_]; exact (Below.refl _ _).alloc (Nat.le_refl _) _
  have HW := Lib.hid hW_
  clear hW_
  have q0 : W.cell? ⟨w.heap.size, 0, none⟩ = some (.int .i64 d) := b0.cell 0
  have q1 : W.cell? ⟨w.heap.size, 1, none⟩ = some (.slice A n c) := b0.cell 1
  have q2 : W.cell? ⟨w.heap.size, 2, none⟩ = some (.slice B m k) := b0.cell 2
  have hxl : xs.length = l := hz.len
  have HC := Lib.hid hcode
  have A2 : Hid (inB (N : Int) 1 20000 = true) := Lib.hid ((inB_iff _ _ _).2 (by omega))
  go_enter Try.func34, Try.ntmps34
  go_wp2_with fail
  rw [← HW.out]
  refine (tagCode_any _ _ _ _ ts _ _ _ hs _ _ _ xs _ (hx.below y0) (hy.below y0) (hz.below y0) hn hm hl (fun t ht => by have := hns t ht; omega)).mono ?_
  rintro e w2 ⟨rfl, hb2⟩
  have y2 := y0.trans (hb2.mono y0.size)
  have b2 := b0.below' hb2
  have HXL := Lib.hid hxl
  clear q0 q1 q2 hxl
  rw [hcode]
  clear hcode
  have q0 : w2.cell? ⟨w.heap.size, 0, none⟩ = some (.int .i64 d) := b2.cell 0
  have q1 : w2.cell? ⟨w.heap.size, 1, none⟩ = some (.slice A n c) := b2.cell 1
  have q2 : w2.cell? ⟨w.heap.size, 2, none⟩ = some (.slice B m k) := b2.cell 2
  go_upto_region 6 with (go_at_call 41; refine (budgetOk_is A2.out _).mono ?_; rintro e w' ⟨rfl, rfl⟩)
  obtain ⟨Wm, hWm⟩ : ∃ Wm, Wm = w2.alloc (.map #[] 0) := ⟨_, rfl⟩
  have hme : Wm.heap.size = w2.heap.size + 1 := by rw [hWm]; simp
  have ym : Below w2.heap.size w2 Wm := by rw [hWm]; exact (Below.refl _ _).alloc (Nat.le_refl _) _
  have sm : StrMap Wm w2.heap.size 0 (fun _ => none) := by rw [hWm]; exact StrMap.new w2
  have HWm := Lib.hid hWm
  clear hWm
  obtain ⟨W3, hW_⟩ : ∃ W, W = ((((Wm.alloc (.cells #[.map (some w2.heap.size)] 126)).alloc (.cells #[.int .i64 (-1)] 2)).alloc (.cells #[.int .i64 0] 2)).alloc (.cells #[.int .i64 0] 2)).alloc (.cells #[.bool false] 4) := ⟨_, rfl⟩
  have s_1 : (Wm.alloc (.cells #[.map (some w2.heap.size)] 126)).heap.size = Wm.heap.size + 1 := by simp
  have s_2 : ((Wm.alloc (.cells #[.map (some w2.heap.size)] 126)).alloc (.cells #[.int .i64 (-1)] 2)).heap.size = Wm.heap.size + 1 + 1 := by simp
  have s_3 : (((Wm.alloc (.cells #[.map (some w2.heap.size)] 126)).alloc (.cells #[.int .i64 (-1)] 2)).alloc (.cells #[.int .i64 0] 2)).heap.size = Wm.heap.size + 1 + 1 + 1 := by simp
  have s_4 : ((((Wm.alloc (.cells #[.map (some w2.heap.size)] 126)).alloc (.cells #[.int .i64 (-1)] 2)).alloc (.cells #[.int .i64 0] 2)).alloc (.cells #[.int .i64 0] 2)).heap.size = Wm.heap.size + 1 + 1 + 1 + 1 := by simp
  have s2 : Blk W3 Wm.heap.size 126 #[.map (some w2.heap.size)] := by rw [hW_]; exact ((((Blk.new Wm _ _).alloc _).alloc _).alloc _).alloc _
  have s1 : Blk W3 (Wm.heap.size + 1) 2 #[.int .i64 (-1)] := by rw [hW_, ← s_1]; exact (((Blk.new _ _ _).alloc _).alloc _).alloc _
  have s3 : Blk W3 (Wm.heap.size + 1 + 1) 2 #[.int .i64 0] := by rw [hW_, ← s_2]; exact ((Blk.new _ _ _).alloc _).alloc _
  have s4 : Blk W3 (Wm.heap.size + 1 + 1 + 1) 2 #[.int .i64 0] := by rw [hW_, ← s_3]; exact (Blk.new _ _ _).alloc _
  have s5 : Blk W3 (Wm.heap.size + 1 + 1 + 1 + 1) 4 #[.bool false] := by rw [hW_, ← s_4]; exact Blk.new _ _ _
  have y3 : Below Wm.heap.size Wm W3 := by rw [hW_]; exact (((((Below.refl _ _).alloc (Nat.le_refl _) _).alloc (by simp) _).alloc (by simp; omega) _).alloc (by simp; omega) _).alloc (by simp; omega) _
  have HW3 := Lib.hid hW_
  clear hW_ s_1 s_2 s_3 s_4
  have sm3 := sm.keep (y3.block w2.heap.size sm.lt)
  rw [hme] at s1 s2 s3 s4 s5
  have y23 := ym.trans (y3.mono ym.size)
  have bt3 := b2.below' y23
  have hs3 : w2.heap.size + 1 + 1 + 1 + 1 + 1 < W3.heap.size := s5.lt
  have hb2 := b2.lt
  have HS : Hid (CyB W3 (w2.heap.size + 1 + 1) (w2.heap.size + 1) (w2.heap.size + 1 + 1 + 1) (w2.heap.size + 1 + 1 + 1 + 1) (w2.heap.size + 1 + 1 + 1 + 1 + 1) w2.heap.size 0 (fun _ => none) (-1) 0 0 false W3) := Lib.hid ⟨s1, s2, s3, s4, s5, sm3, Keep.refl _ _⟩
  have HME := Lib.hid hme
  clear sm sm3 s1 s2 s3 s4 s5 ym hme
  go_upto_region 8 with fail
  rw [← HWm.out]
  try rw [HME.out]
  rw [← HW3.out]
  clear q0 q1 q2
  have q0 : W3.cell? ⟨w.heap.size, 0, none⟩ = some (.int .i64 d) := bt3.cell 0
  have q1 : W3.cell? ⟨w.heap.size, 1, none⟩ = some (.slice A n c) := bt3.cell 1
  have q2 : W3.cell? ⟨w.heap.size, 2, none⟩ = some (.slice B m k) := bt3.cell 2
  go_wp2_with fail
  refine (tagRunOf_any _ _ _ _ _ _ _ _ _ _ xs _ (hz.below (y2.trans (y23.mono y2.size))) hl).mono ?_
  rintro e w4 ⟨g, Q, r3, rfl, hg3, hr3, ho3, hb3⟩
  have hB4 := HS.out.below hb3
  clear q0 q1 q2
  have hd : w2.heap.size < (w2.heap.size + 1) ∧ (w2.heap.size + 1) < (w2.heap.size + 1 + 1) ∧ (w2.heap.size + 1 + 1) < (w2.heap.size + 1 + 1 + 1) ∧ (w2.heap.size + 1 + 1 + 1) < (w2.heap.size + 1 + 1 + 1 + 1) ∧ (w2.heap.size + 1 + 1 + 1 + 1) < (w2.heap.size + 1 + 1 + 1 + 1 + 1) := by omega
  have HDD := Lib.hid hd
  obtain ⟨p, hp⟩ : ∃ p : Tg, p = ⟨w2, g, d, A, n, c, ts, B, m, k, hs, xs⟩ := ⟨_, rfl⟩
  have hok : p.Ok := by rw [hp]; exact ⟨HC.out, hx.below y2, hy.below y2, by show w2.heap.size ≤ g; omega, hn, hm⟩
  have hpx : p.xs = xs := by rw [hp]
  have h0 : TgS p 0 (cyD p.sys p.xs (w2.heap.size + 1 + 1) (w2.heap.size + 1) (w2.heap.size + 1 + 1 + 1) (w2.heap.size + 1 + 1 + 1 + 1) (w2.heap.size + 1 + 1 + 1 + 1 + 1) w2.heap.size 0) w4 := by
    rw [hp]
    refine ⟨_, Q, r3, fun b => b = (w2.heap.size + 1 + 1) ∨ b = (w2.heap.size + 1) ∨ b = (w2.heap.size + 1 + 1 + 1) ∨ b = (w2.heap.size + 1 + 1 + 1 + 1) ∨ b = (w2.heap.size + 1 + 1 + 1 + 1 + 1) ∨ b = w2.heap.size, rfl, ⟨?_, ?_, hr3, ho3.mono (by show w2.heap.size ≤ _; omega), ?_, y23.trans (hb3.mono y23.size)⟩, ⟨.inl rfl, .inr (.inl rfl), .inr (.inr (.inl rfl)), .inr (.inr (.inr (.inl rfl))), .inr (.inr (.inr (.inr (.inl rfl)))), .inr (.inr (.inr (.inr (.inr rfl))))⟩, ?_⟩
    · show ¬ (g = (w2.heap.size + 1 + 1) ∨ g = (w2.heap.size + 1) ∨ g = (w2.heap.size + 1 + 1 + 1) ∨ g = (w2.heap.size + 1 + 1 + 1 + 1) ∨ g = (w2.heap.size + 1 + 1 + 1 + 1 + 1) ∨ g = w2.heap.size); omega
    · rintro b (h | h | h | h | h | h) <;> have := hb3.size <;> omega
    · intro b hb h
      have h9 := ho3.blk_ge b hb
      rcases h with h | h | h | h | h | h <;> omega
    · exact hB4.congr (Nat.le_refl _) (fun t => (mapC_zero t).symm) rfl rfl rfl rfl
  have hvis : ∀ i u W, i ≤ N → p.sys.Alive p.xs i → TgV p i (cyD p.sys p.xs (w2.heap.size + 1 + 1) (w2.heap.size + 1) (w2.heap.size + 1 + 1 + 1) (w2.heap.size + 1 + 1 + 1 + 1) (w2.heap.size + 1 + 1 + 1 + 1 + 1) w2.heap.size i) u W → Calls Try.prog 85 (#[u] ++ #[.pointer (some ⟨(w2.heap.size + 1 + 1), 0, none⟩), .pointer (some ⟨(w2.heap.size + 1), 0, none⟩), .pointer (some ⟨(w2.heap.size + 1 + 1 + 1), 0, none⟩), .pointer (some ⟨(w2.heap.size + 1 + 1 + 1 + 1), 0, none⟩), .pointer (some ⟨(w2.heap.size + 1 + 1 + 1 + 1 + 1), 0, none⟩)]) W fun e W' => e = .returned (.bool (prevA p.sys p.xs i).isNone) ∧ TgS p i (cyD p.sys p.xs (w2.heap.size + 1 + 1) (w2.heap.size + 1) (w2.heap.size + 1 + 1 + 1) (w2.heap.size + 1 + 1 + 1 + 1) (w2.heap.size + 1 + 1 + 1 + 1 + 1) w2.heap.size (i + 1)) W' := by
    rintro i u W hi hal ⟨Q', r', X, rfl, hO, ⟨x1, x2, x3, x4, x5, x6⟩, hB⟩
    have hlet : ∀ j, j ≤ i → ∀ x ∈ p.sys.it p.xs j, 0 ≤ x ∧ x ≤ 255 := fun j hj x hx => by
      have h1 := tagCode_parts (tagAlive_good hok.code (i := j) (fun q hq => hal q (by omega)))
      have h2 := h1.2.2.2.2.1 x hx
      have h3 := h1.2.2.2.2.2.2.1
      omega
    have hlen : (p.it i).length ≤ 1000 := (tagCode_parts (tagAlive_good hok.code hal)).2.2.2.1
    have hpw : p.w0 = w2 := by rw [hp]
    have hYX : ∀ b, YC (w2.heap.size + 1 + 1) (w2.heap.size + 1 + 1 + 1) (w2.heap.size + 1 + 1 + 1 + 1) (w2.heap.size + 1 + 1 + 1 + 1 + 1) w2.heap.size b → X b ∧ p.w0.heap.size ≤ b := by
      rw [hpw]
      rintro b (h | h | h | h | h)
      · subst h; exact ⟨x1, by omega⟩
      · subst h; exact ⟨x3, by omega⟩
      · subst h; exact ⟨x4, by omega⟩
      · subst h; exact ⟨x5, by omega⟩
      · subst h; exact ⟨x6, Nat.le_refl _⟩
    have hown := mapC_own hlet
    cases hpr : prevA p.sys p.xs i with
    | some j =>
      rw [hpr] at hown
      obtain ⟨hj1, _⟩ := prevA_some hpr
      refine (cycVisit_yes W Q' (p.it i).length r' (p.it i) (w2.heap.size + 1 + 1) (w2.heap.size + 1) (w2.heap.size + 1 + 1 + 1) (w2.heap.size + 1 + 1 + 1 + 1) (w2.heap.size + 1 + 1 + 1 + 1 + 1) w2.heap.size i _ _ (i : Int) _ _ (j : Int) _ hB HDD.out hO.own.rd (fun b hb hy => hO.nq b hb (hYX b hy).1) (by omega) (hlet i (Nat.le_refl _)) hown (by omega) (by omega) (by omega) (by omega)).mono ?_
      rintro e W' ⟨rfl, hB'⟩
      refine ⟨rfl, _, Q', r', _, rfl, hO.turn hB'.kp hYX, ⟨.inl x1, .inl x2, .inl x3, .inl x4, .inl x5, .inl x6⟩, ?_⟩
      exact hB'.congr (Nat.le_succ _) (mapC_old hown) (by omega) (by simp [cyV, hpr]) (by simp [cyV, hpr]) (by simp [cyV, hpr])
    | none =>
      rw [hpr] at hown
      refine (cycVisit_no W Q' (p.it i).length r' (p.it i) (w2.heap.size + 1 + 1) (w2.heap.size + 1) (w2.heap.size + 1 + 1 + 1) (w2.heap.size + 1 + 1 + 1 + 1) (w2.heap.size + 1 + 1 + 1 + 1 + 1) w2.heap.size i _ _ (i : Int) _ _ _ hB HDD.out hO.own.rd (fun b hb hy => hO.nq b hb (hYX b hy).1) (by omega) (hlet i (Nat.le_refl _)) hown (by simp only [maxLen]; omega) (by omega) (by omega) (by omega)).mono ?_
      rintro e W' ⟨rfl, hB'⟩
      refine ⟨rfl, _, Q', r', _, rfl, hO.turn hB'.kp hYX, ⟨.inl x1, .inl x2, .inl x3, .inl x4, .inl x5, .inl x6⟩, ?_⟩
      exact hB'.congr (Nat.le_refl _) (mapC_new hown) (by omega) (by simp [cyV, hpr]) (by simp [cyV, hpr]) (by simp [cyV, hpr])
  have hrun := runTagSys p hok N 85 #[.pointer (some ⟨(w2.heap.size + 1 + 1), 0, none⟩), .pointer (some ⟨(w2.heap.size + 1), 0, none⟩), .pointer (some ⟨(w2.heap.size + 1 + 1 + 1), 0, none⟩), .pointer (some ⟨(w2.heap.size + 1 + 1 + 1 + 1), 0, none⟩), .pointer (some ⟨(w2.heap.size + 1 + 1 + 1 + 1 + 1), 0, none⟩)] (fun i => (prevA p.sys p.xs i).isNone) (cyD p.sys p.xs (w2.heap.size + 1 + 1) (w2.heap.size + 1) (w2.heap.size + 1 + 1 + 1) (w2.heap.size + 1 + 1 + 1 + 1) (w2.heap.size + 1 + 1 + 1 + 1 + 1) w2.heap.size) (cyD_fr _ _ _ _ _ _ _ _) w4 (by omega) Try.call85 hvis h0
  have hpg : p.g = g := by rw [hp]
  rw [hpg] at hrun
  have HRUN := Lib.hid hrun
  have HP := Lib.hid hp
  clear hrun hp h0 hpg hok hvis hpx HS hB4
  go_wp2_with fail
  refine HRUN.out.mono ?_
  rintro e w5 (⟨i, hi, hal, _, hend, rfl, ⟨u, Q4, r4, X, _, ho, _, hB⟩⟩ | ⟨i, hi, hal, _, hh, hro, rfl, hF⟩)
  rotate_left
  · have hfu : (tagSys d (nums ts) hs).Full xs N i := by
      rw [HP.out] at hal hh hro
      exact ⟨hi, hal, hh, hro⟩
    have hlow : Below w2.heap.size w2 w5 := by have := hF; rwa [HP.out] at this
    have HR : Hid (CycP (tagSys d (nums ts) hs) xs N w (.returned (.tuple #[.int .i64 0, .int .i64 0, .int .i64 5])) w5) := Lib.hid ⟨y2.trans (hlow.mono y2.size), .inr (.inr (.inr ⟨i, hfu, rfl⟩))⟩
    clear hal hh hro hfu
    go_wp2_with fail
    exact bodyPost_ret (v := .tuple #[.int .i64 0, .int .i64 0, .int .i64 5]) (by simp [results, Try.results34, go_sem]) rfl HR.out
  have hlow : Below w2.heap.size w2 w5 := by have := ho.low; rwa [HP.out] at this
  have y4 := y2.trans (hlow.mono y2.size)
  have e1 : p.sys = tagSys d (nums ts) hs := by rw [HP.out]
  have e2 : p.xs = xs := by rw [HP.out]
  rw [e1, e2] at hal hend hB ⊢
  have HAL := Lib.hid hal
  have HEN := Lib.hid hend
  have HY := Lib.hid y4
  have k3 := hB.ba.cell 0
  have k4 := hB.bb.cell 0
  have k5 := hB.bf.cell 0
  clear ho hal hend hB hlow e1 e2 y4
  cases hh : (tagSys d (nums ts) hs).halt ((tagSys d (nums ts) hs).it xs i) with
  | true =>
    have HR : Hid (CycP (tagSys d (nums ts) hs) xs N w (.returned (.tuple #[.int .i64 0, .int .i64 0, .int .i64 3])) w5) := Lib.hid ⟨HY.out, .inl ⟨i, hi, HAL.out, hh, rfl⟩⟩
    clear hh k3 k4 k5
    go_wp2_with fail
    exact bodyPost_ret (v := .tuple #[.int .i64 0, .int .i64 0, .int .i64 3]) (by simp [results, Try.results34, go_sem]) rfl HR.out
  | false =>
    cases hpr : prevA (tagSys d (nums ts) hs) xs i with
    | some j =>
      obtain ⟨hj1, hj2⟩ := prevA_some hpr
      have v1 : (cyV (tagSys d (nums ts) hs) xs (i + 1)) = ((j : Int), (i : Int) - (j : Int), true) := by simp [cyV, hpr]
      rw [v1] at k3 k4 k5
      have K3 : w5.cell? ⟨w2.heap.size + 1 + 1 + 1, 0, none⟩ = some (.int .i64 (j : Int)) := k3
      have K4 : w5.cell? ⟨w2.heap.size + 1 + 1 + 1 + 1, 0, none⟩ = some (.int .i64 ((i : Int) - (j : Int))) := k4
      have K5 : w5.cell? ⟨w2.heap.size + 1 + 1 + 1 + 1 + 1, 0, none⟩ = some (.bool true) := k5
      have HR : Hid (∀ q, CycP (tagSys d (nums ts) hs) xs N w (.returned (.tuple #[.int .i64 (j : Int), .int .i64 ((i : Int) - (j : Int)), .int .i64 0])) (w5.drewN q)) := Lib.hid (fun q => ⟨below_drewN HY.out q, .inr (.inl ⟨i, j, hi, hj1, HAL.out, hj2, rfl⟩)⟩)
      clear hh hpr v1 k3 k4 k5 hj2
      obtain ⟨D, hD⟩ : ∃ D, D = (i : Int) - (j : Int) := ⟨_, rfl⟩
      rw [← hD] at K4 HR
      clear hD
      go_wp2_with fail
      go_quiet (fail)
      go_wp2_with fail
      exact bodyPost_ret (v := .tuple #[.int .i64 (j : Int), .int .i64 D, .int .i64 0]) (by simp [results, Try.results34, go_sem]) rfl (HR.out _)
    | none =>
      have v1 : (cyV (tagSys d (nums ts) hs) xs (i + 1)) = (0, 0, false) := by simp [cyV, hpr]
      rw [v1] at k3 k4 k5
      have K5 : w5.cell? ⟨w2.heap.size + 1 + 1 + 1 + 1 + 1, 0, none⟩ = some (.bool false) := k5
      have hiN : i = N := by
        rcases HEN.out with h | h | h
        · dsimp only at h; rw [hpr] at h; cases h
        · exact h
        · rw [hh] at h; cases h
      subst hiN
      have HR : Hid (CycP (tagSys d (nums ts) hs) xs i w (.returned (.tuple #[.int .i64 0, .int .i64 0, .int .i64 6])) w5) := Lib.hid ⟨HY.out, .inr (.inr (.inl ⟨HAL.out, hh, rfl⟩))⟩
      clear hh hpr v1 k3 k4 k5
      go_wp2_with fail
      exact bodyPost_ret (v := .tuple #[.int .i64 0, .int .i64 0, .int .i64 6]) (by simp [results, Try.results34, go_sem]) rfl HR.out
end Go.Proofs.Ytokglpdlhacnaaa

/-
  Whether two lists are equal (r8Same).
-/
namespace Go.Proofs.Ytokglpdlhacnaaa
open Go.RowKit

/-- A slice that came in lies in a block that is there. -/
theorem okWide_blk {P : Program} {w : World} {r : Reach} {base : Nat} {t e : TypeId} {A : Option Addr} {n c : Nat} (ht : P.underlying t = some (.slice e)) (h : Value.okWide P w r base t (.slice A n c)) : ∀ k, blk A = some k → k < w.heap.size := by
  intro k hk
  cases A with
  | none => cases hk
  | some a =>
    simp only [Value.okWide, ht, Cell.okWide, Cell.ok] at h
    obtain ⟨_, _, _, _, row, cells, hs, _⟩ := h
    have hk' : a.block = k := by simpa [blk] using hk
    subst hk'
    refine Nat.lt_of_not_le fun hle => ?_
    unfold World.shape? at hs
    rw [Array.getElem?_eq_none hle] at hs
    cases hs
set_option maxHeartbeats 400000 in
theorem r8Same_any (A B : Option Addr) (n m c d : Nat) (xs ys : List Int) (w : World) (hx : SI w A n xs) (hy : SI w B m ys) (hn : n ≤ 9223372036854775807) :
    Calls Try.prog 28 #[.slice A n c, .slice B m d] w fun e w' => e = .returned (.bool (sameI xs ys)) ∧ ∃ q, w' = w.drewN q := by
  by_cases hnm : n = m
  · subst hnm
    go_enter Try.func28, Try.ntmps28
    go_wp2
    go_loopw [5] (fun i wr => ∃ k q : Nat, k ≤ n ∧ i = .int .i64 k ∧ Hid (xs.take k = ys.take k) ∧ wr = w.drewN q) (fun i _ => n - (intOf i).toNat)
    case atStart => exact ⟨0, 0, by omega, rfl, rfl, rfl⟩
    case round =>
      obtain ⟨k, q, hk, rfl, he, rfl⟩ := hrel
      by_cases hlt : k < n
      · obtain ⟨b, off, rfl, _, hc⟩ := hx.at_ hlt
        obtain ⟨b', off', rfl, _, hc'⟩ := hy.at_ hlt
        go_wp2
        go_quiet (fail)
        go_wp2
        · go_ret
          exact ⟨ret_bool (sameI_ne hlt hx.len hy.len (by assumption)), _, World.drewN_drewN _ _ _⟩
        · exact ⟨⟨k + 1, _, by omega, by go_num, take_next hlt hx.len hy.len he.out (by assumption), rfl⟩, by simp [intOf]; omega⟩
      · go_wp2
        go_ret
        exact ⟨ret_bool (sameI_eq (by omega) hx.len hy.len he.out), _, rfl⟩
  · have hne : ((n : Int) != (m : Int)) = true := by simp; omega
    go_enter Try.func28, Try.ntmps28
    go_wp2
    go_ret
    exact ⟨ret_bool (sameI_len hnm hx.len hy.len), 0, rfl⟩
theorem r8Same_yes (A B : Option Addr) (n c d : Nat) (xs : List Int) (w : World) (hx : SI w A n xs) (hy : SI w B n xs) (hn : n ≤ 9223372036854775807) :
    Calls Try.prog 28 #[.slice A n c, .slice B n d] w fun e w' => e = .returned (.bool true) ∧ ∃ q, w' = w.drewN q :=
  (r8Same_any A B n n c d xs xs w hx hy hn).mono fun _ _ ⟨h1, h2⟩ => ⟨by rw [h1]; simp [sameI], h2⟩
end Go.Proofs.Ytokglpdlhacnaaa

/-
  The walk of the law FnTagCycles: it returns true, and nothing that was there before has turned.
-/
namespace Go.Proofs.Ytokglpdlhacnaaa
open Go.RowKit

theorem tag_lens2 {d : Nat} {ts : List Sl} {hs xs : List Int} (h : Small d (nums ts) hs xs) : ts.length ≤ 4 ∧ (∀ t ∈ ts, t.xs.length ≤ 1048576) ∧ hs.length ≤ 1048576 := by
  have h1 : (nums ts).length = ts.length := by simp [nums]
  have h2 := h.n4
  refine ⟨by omega, fun t ht => by have := h.row t.xs (List.mem_map.2 ⟨t, ht, rfl⟩); omega, ?_⟩
  have h3 := (tagCode_zero.1 h.code).1
  unfold validTagB risesB allIn at h3
  simp only [Bool.and_eq_true, decide_eq_true_eq, List.all_eq_true, inB_iff] at h3
  obtain ⟨⟨_, h4⟩, h5⟩ := h3
  have key : ∀ (l : List Int) (a : Int), l.Pairwise (· < ·) → (∀ y ∈ l, a ≤ y ∧ y ≤ 4) → a + l.length ≤ 5 ∨ l = [] := by
    intro l
    induction l with
    | nil => intro a _ _; exact .inr rfl
    | cons x r ih =>
      intro a hp hm
      obtain ⟨hp1, hp2⟩ := List.pairwise_cons.1 hp
      have hx := hm x (by simp)
      rcases ih (x + 1) hp2 (fun y hy => ⟨by have := hp1 y hy; omega, (hm y (by simp [hy])).2⟩) with h | rfl
      · left; simp only [List.length_cons]; omega
      · left; simp; omega
  rcases key hs 0 h4 (fun y hy => by have := h5 y hy; omega) with h | rfl
  · omega
  · simp
/-- One call of RunTag. -/
theorem runTag_at {d : Int} {A : Option Addr} {n c : Nat} {ts : List Sl} {B : Option Addr} {m k : Nat} {hs : List Int} {C : Option Addr} {l r : Nat} {xs : List Int} {b : Int} {w : World} (hx : SII w A n ts) (hy : SI w B m hs) (hz : SI w C l xs) (hn : n ≤ 1048576) (hm : m ≤ 1048576) (hns : ∀ t ∈ ts, t.xs.length ≤ 1048576) (hl : l ≤ 1048576) {M : List Int} {q h : Int} {v : Bool} (e : runTagF d (nums ts) hs xs b = (M, q, v, h)) :
    Calls Try.prog 35 #[.agg #[.int .i64 d, .slice A n c, .slice B m k], .slice C l r, .int .i64 b] w fun e w' => ∃ A2 c2, e = .returned (.tuple #[.slice A2 M.length c2, .int .i64 q, .bool v, .int .i64 h]) ∧ Own w' w.heap.size 2 1 A2 M.length c2 (ints M) ∧ Below w.heap.size w w' := by
  have h1 := runTagI_any d A n c ts B m k hs C l r xs b w hx hy hz hn hm hns hl
  rw [e] at h1
  exact h1
set_option maxRecDepth 100000 in
set_option maxHeartbeats 8000000 in
theorem lawTagCycles (A : Option Addr) (n c : Nat) (xs : List Int) (B : Option Addr) (m d : Nat) (ys : List Int) (w : World) (hx : SB w A n xs) (_hy : SB w B m ys) (hA : ∀ k, blk A = some k → k < w.heap.size) (hn : n ≤ 9223372036854775807) (hm : m ≤ 9223372036854775807) :
    Calls Try.prog 7 #[.slice A n c, .slice B m d] w fun e w' => e = .returned (.bool true) ∧ Below w.heap.size w w' := by
  cases hb : longB n m
  rotate_left
  · have HB := Lib.hid hb
    clear hb
    go_enter Try.func7, Try.ntmps7
    go_wp2_with (go_at_call 20; refine (r8Long_any _ _ _ _ _ _ _ hn hm).mono ?_; rw [HB.out]; rintro e w' ⟨rfl, rfl⟩)
    go_ret
    exact ⟨rfl, Below.refl _ _⟩
  have HB := Lib.hid hb
  clear hb
  go_enter Try.func7, Try.ntmps7
  go_wp2_with (go_at_call 20; refine (r8Long_any _ _ _ _ _ _ _ hn hm).mono ?_; rw [HB.out]; rintro e w' ⟨rfl, rfl⟩)
  refine (r8Tag_any A n c xs w hx hA hn).mono ?_
  rintro e W1 ⟨E, D, dc, ts, H, hc, hs, F, f, zs, rfl, oU, oH, oF, hsm, z1⟩
  obtain ⟨tl, htl⟩ : ∃ k, k = ts.length := ⟨_, rfl⟩
  obtain ⟨hl, hhl⟩ : ∃ k, k = hs.length := ⟨_, rfl⟩
  obtain ⟨zl, hzl⟩ : ∃ k, k = zs.length := ⟨_, rfl⟩
  obtain ⟨L1, L2, L3⟩ := tag_lens2 hsm
  rw [← htl] at oU L1 ⊢
  rw [← hhl] at oH L3 ⊢
  rw [← hzl] at oF ⊢
  have L4 : zl ≤ 7 := by rw [hzl]; exact hsm.short
  have L5 : tl ≤ 1048576 := by omega
  have HCD := Lib.hid hsm.code
  have HL2 := Lib.hid L2
  have HZL := Lib.hid hzl
  clear hsm htl hhl hzl L2
  obtain ⟨W2, hW_⟩ : ∃ W_, W_ = W1.alloc (.cells #[.int .i64 (E : Int), .slice D tl dc, .slice H hl hc] 70) := ⟨_, rfl⟩
  have b2 : Blk W2 W1.heap.size 70 #[.int .i64 (E : Int), .slice D tl dc, .slice H hl hc] := by rw [hW_]; exact Blk.new W1 _ _
  have z2 : Below W1.heap.size W1 W2 := by rw [hW_]; exact (Below.refl _ _).alloc (Nat.le_refl _) _
  have HW2 := Lib.hid hW_
  clear hW_
  have sU := Lib.hid (oU.below z2).sii
  have sH := Lib.hid (oH.below z2).asI
  have sF := Lib.hid (oF.below z2).asI
  have HZ2 := Lib.hid (z1.trans (z2.mono z1.size))
  have HB2 := Lib.hid b2
  have q0 : W2.cell? ⟨W1.heap.size, 0, none⟩ = some (.int .i64 (E : Int)) := b2.cell 0
  have q1 : W2.cell? ⟨W1.heap.size, 1, none⟩ = some (.slice D tl dc) := b2.cell 1
  have q2 : W2.cell? ⟨W1.heap.size, 2, none⟩ = some (.slice H hl hc) := b2.cell 2
  clear z1 z2 b2 oU oH oF
  go_upto_region 4 with fail
  rw [← HW2.out]
  clear HW2
  go_wp2_with fail
  refine (tagCycleI_any (E : Int) D tl dc ts H hl hc hs F zl f zs 60 W2 sU.out sH.out sF.out L5 L3 HL2.out (by omega) HCD.out (by omega) (by omega)).mono ?_
  rintro e W3 ⟨z3, hcyc⟩
  have HZ3 := Lib.hid (HZ2.out.trans (z3.mono HZ2.out.size))
  have hB3 := HB2.out.below' z3
  have HB3 := Lib.hid hB3
  have tU := Lib.hid (sU.out.below z3)
  have tH := Lib.hid (sH.out.below z3)
  have tF := Lib.hid (sF.out.below z3)
  clear q0 q1 q2 z3 sU sH sF
  have q0 : W3.cell? ⟨W1.heap.size, 0, none⟩ = some (.int .i64 (E : Int)) := hB3.cell 0
  have q1 : W3.cell? ⟨W1.heap.size, 1, none⟩ = some (.slice D tl dc) := hB3.cell 1
  have q2 : W3.cell? ⟨W1.heap.size, 2, none⟩ = some (.slice H hl hc) := hB3.cell 2
  clear hB3
  have hin : inB ((60 : Nat) : Int) 1 20000 = true := by decide
  rcases hcyc with ⟨i, hi, hal, hh, rfl⟩ | ⟨i, j, hi, hj, hal, hij, rfl⟩ | ⟨hal, hh, rfl⟩ | ⟨i, hfu, rfl⟩
  · -- it halts
    have e1 := runTagF_ended HCD.out hin ⟨hi, hal, .inr hh⟩
    have hh2 : haltsB (E : Int) hs ((tagSys (E : Int) (nums ts) hs).it zs i) = true := hh
    rw [hh2] at e1
    have HR := Lib.hid (runTag_at (c := dc) (k := hc) (r := f) (w := W3) tU.out tH.out tF.out L5 L3 HL2.out (by omega) e1)
    clear e1 hh hh2 hal
    generalize (tagSys (E : Int) (nums ts) hs).it zs i = M at *
    go_wp2_with (go_at_call 35; refine HR.out.mono ?_; rintro e W4 ⟨A4, c4, rfl, o4, z4⟩)
    go_ret
    exact ⟨by simp, HZ3.out.trans (z4.mono HZ3.out.size)⟩
  · -- it comes again
    obtain ⟨ha60, hh60⟩ := cyc_alive hal hj hij 60
    have e1 := runTagF_ended HCD.out hin ⟨Nat.le_refl _, ha60, .inl rfl⟩
    have hh2 : haltsB (E : Int) hs ((tagSys (E : Int) (nums ts) hs).it zs 60) = false := hh60
    rw [hh2] at e1
    have HR := Lib.hid (runTag_at (c := dc) (k := hc) (r := f) (w := W3) tU.out tH.out tF.out L5 L3 HL2.out (by omega) e1)
    obtain ⟨Dn, hDn⟩ : ∃ Dn : Nat, (i : Int) - (j : Int) = (Dn : Int) := ⟨i - j, by omega⟩
    rw [hDn]
    have hD1 : 1 ≤ Dn := by omega
    have hDi : j + Dn = i := by omega
    have hw : IntKind.i64.wrap ((j : Int) + (Dn : Int)) = (i : Int) := by rw [show (j : Int) + (Dn : Int) = (i : Int) by omega]; exact IntWalk.i64_in _ (by omega)
    have hi60 : (i : Int) ≤ 60 := by omega
    have hD60 : (Dn : Int) ≤ 60 := by omega
    have hD1' : (1 : Int) ≤ (Dn : Int) := by omega
    have HAL := Lib.hid hal
    have HIJ := Lib.hid hij
    have HDI := Lib.hid hDi
    have inD : inB (Dn : Int) 1 20000 = true := (inB_iff _ _ _).2 (by omega)
    -- the second stretch, from the word at j
    have hgood := tagAlive_good HCD.out (i := j) (fun q hq => hal q (by omega))
    have hend : (tagSys (E : Int) (nums ts) hs).Ended ((tagSys (E : Int) (nums ts) hs).it zs j) Dn Dn := ⟨Nat.le_refl _, fun q hq => by rw [Sys.it_add]; exact hal (j + q) (by omega), .inl rfl⟩
    have e2 := runTagF_ended hgood inD hend
    rw [Sys.it_add, hDi, ← hij] at e2
    have HE2 := Lib.hid e2
    have hlen : ((tagSys (E : Int) (nums ts) hs).it zs j).length ≤ 1000 := (tagCode_parts hgood).2.2.2.1
    clear e1 hh2 ha60 hh60 hal hij hDi hend e2 hDn inD
    by_cases hj0 : j = 0
    · subst hj0
      have e0 : (tagSys (E : Int) (nums ts) hs).it zs 0 = zs := rfl
      rw [e0] at HE2
      clear e0 hgood hlen
      generalize haltsB (E : Int) hs zs = hv at HE2
      have HR2 := Lib.hid (fun W (z : Below W3.heap.size W3 W) => runTag_at (c := dc) (k := hc) (r := f) (w := W) (tU.out.below z) (tH.out.below z) (tF.out.below z) L5 L3 HL2.out (by omega) HE2.out)
      go_wp2_with fail
      refine HR.out.mono ?_
      rintro e W4 ⟨A4, c4, rfl, _, z4⟩
      have hB4 := HB3.out.below' z4
      clear q0 q1 q2
      have q0 : W4.cell? ⟨W1.heap.size, 0, none⟩ = some (.int .i64 (E : Int)) := hB4.cell 0
      have q1 : W4.cell? ⟨W1.heap.size, 1, none⟩ = some (.slice D tl dc) := hB4.cell 1
      have q2 : W4.cell? ⟨W1.heap.size, 2, none⟩ = some (.slice H hl hc) := hB4.cell 2
      go_wp2_with fail
      refine (HR2.out W4 z4).mono ?_
      rintro e W5 ⟨A5, c5, rfl, o5, z5⟩
      have z35 := z4.trans (z5.mono z4.size)
      have o5' : Own W5 W4.heap.size 2 1 A5 zl c5 (ints zs) := by rw [HZL.out]; exact o5
      rw [← HZL.out]
      have HSM := Lib.hid (r8Same_yes F A5 zl f c5 zs W5 (tF.out.below z35) o5'.asI (by omega))
      clear q0 q1 q2 hB4 o5 o5'
      go_wp2_with (go_at_call 28; refine HSM.out.mono ?_; rintro e W6 ⟨rfl, q6, h6⟩; have z6 : Below W5.heap.size W5 W6 := (by rw [h6]; exact below_drewN (Below.refl _ _) _); clear h6)
      go_ret
      exact ⟨by simp, HZ3.out.trans ((z35.trans (z6.mono z35.size)).mono HZ3.out.size)⟩
    · have e1 := runTagF_ended HCD.out (N := j) ((inB_iff _ _ _).2 (by omega)) ⟨Nat.le_refl _, (fun q hq => HAL.out q (by omega)), .inl rfl⟩
      have HE1 := Lib.hid e1
      obtain ⟨M, hM⟩ : ∃ M, M = (tagSys (E : Int) (nums ts) hs).it zs j := ⟨_, rfl⟩
      rw [← hM] at HE1 HE2 hlen
      obtain ⟨ML, hML⟩ : ∃ ML, ML = M.length := ⟨_, rfl⟩
      have HML := Lib.hid hML
      have hj1 : (0 : Int) < (j : Int) := by omega
      clear e1 hgood hM
      generalize haltsB (E : Int) hs M = hv at HE2 HE1
      have HR1 := Lib.hid (fun W (z : Below W3.heap.size W3 W) => runTag_at (c := dc) (k := hc) (r := f) (w := W) (tU.out.below z) (tH.out.below z) (tF.out.below z) L5 L3 HL2.out (by omega) HE1.out)
      have hML1 : ML ≤ 1000 := by omega
      clear hML
      go_wp2_with fail
      refine HR.out.mono ?_
      rintro e W4 ⟨A4, c4, rfl, _, z4⟩
      have hB4 := HB3.out.below' z4
      clear q0 q1 q2
      have q0 : W4.cell? ⟨W1.heap.size, 0, none⟩ = some (.int .i64 (E : Int)) := hB4.cell 0
      have q1 : W4.cell? ⟨W1.heap.size, 1, none⟩ = some (.slice D tl dc) := hB4.cell 1
      have q2 : W4.cell? ⟨W1.heap.size, 2, none⟩ = some (.slice H hl hc) := hB4.cell 2
      go_wp2_with fail
      refine (HR1.out W4 z4).mono ?_
      rintro e W5 ⟨A5, c5, rfl, o5, z5⟩
      have z35 := z4.trans (z5.mono z4.size)
      have hB5 := hB4.below' z5
      clear q0 q1 q2
      have q0 : W5.cell? ⟨W1.heap.size, 0, none⟩ = some (.int .i64 (E : Int)) := hB5.cell 0
      have q1 : W5.cell? ⟨W1.heap.size, 1, none⟩ = some (.slice D tl dc) := hB5.cell 1
      have q2 : W5.cell? ⟨W1.heap.size, 2, none⟩ = some (.slice H hl hc) := hB5.cell 2
      have HO5 : Hid (Own W5 W4.heap.size 2 1 A5 ML c5 (ints M)) := Lib.hid (by rw [HML.out]; exact o5)
      rw [← HML.out]
      clear o5 hB4
      go_wp2_with fail
      refine (runTag_at (c := dc) (k := hc) (r := c5) (w := W5) (tU.out.below z35) (tH.out.below z35) HO5.out.asI L5 L3 HL2.out (by omega) HE2.out).mono ?_
      rintro e W6 ⟨A6, c6, rfl, o6, z6⟩
      have o6' : Own W6 W5.heap.size 2 1 A6 ML c6 (ints M) := by rw [HML.out]; exact o6
      rw [← HML.out]
      have z36 := z35.trans (z6.mono z35.size)
      have HSM := Lib.hid (r8Same_yes A5 A6 ML c5 c6 M W6 (HO5.out.below z6).asI o6'.asI (by omega))
      clear q0 q1 q2 hB5 o6 o6'
      go_wp2_with (go_at_call 28; refine HSM.out.mono ?_; rintro e W7 ⟨rfl, q7, h7⟩; have z7 : Below W6.heap.size W6 W7 := (by rw [h7]; exact below_drewN (Below.refl _ _) _); clear h7)
      go_ret
      exact ⟨by simp, HZ3.out.trans ((z36.trans (z7.mono z36.size)).mono HZ3.out.size)⟩
  · -- it goes on
    have e1 := runTagF_ended HCD.out hin ⟨Nat.le_refl _, hal, .inl rfl⟩
    have hh2 : haltsB (E : Int) hs ((tagSys (E : Int) (nums ts) hs).it zs 60) = false := hh
    rw [hh2] at e1
    have HR := Lib.hid (runTag_at (c := dc) (k := hc) (r := f) (w := W3) tU.out tH.out tF.out L5 L3 HL2.out (by omega) e1)
    clear e1 hh hh2 hal
    generalize (tagSys (E : Int) (nums ts) hs).it zs 60 = M at *
    go_wp2_with (go_at_call 35; refine HR.out.mono ?_; rintro e W4 ⟨A4, c4, rfl, o4, z4⟩)
    go_ret
    exact ⟨by simp, HZ3.out.trans (z4.mono HZ3.out.size)⟩
  · -- no room
    have e1 := runTagF_full HCD.out hin hfu
    have HR := Lib.hid (runTag_at (c := dc) (k := hc) (r := f) (w := W3) tU.out tH.out tF.out L5 L3 HL2.out (by omega) e1)
    clear e1 hfu
    go_wp2_with (go_at_call 35; refine HR.out.mono ?_; rintro e W4 ⟨A4, c4, rfl, o4, z4⟩)
    go_ret
    exact ⟨by simp, HZ3.out.trans (z4.mono HZ3.out.size)⟩
end Go.Proofs.Ytokglpdlhacnaaa
