/-
  Contract of the method that makes the first or the last wall of a formula tape longer.
-/
import Derived.Test.YtbpofkggoolmpaaPbFmAll8
namespace Go.Proofs.Ytbpofkggoolmpaa
open Go.RowKit

theorem sii_two {w : World} {g : Nat} {t : TypeId} {A1 A2 : Option Addr} {n1 n2 c1 c2 : Nat} {xs1 xs2 : List Int} (h : Blk w g t #[.slice A1 n1 c1, .slice A2 n2 c2]) (h1 : SI w A1 n1 xs1) (h2 : SI w A2 n2 xs2) : SII w (some ⟨g, 0, none⟩) 2 [⟨A1, c1, xs1⟩, ⟨A2, c2, xs2⟩] := by
  have e1 := h1.len
  have e2 := h2.len
  subst e1 e2
  refine ⟨⟨rfl, fun _ => ⟨g, 0, rfl, fun k hk => ?_⟩⟩, fun t ht => ?_⟩
  · match k, hk with
    | 0, _ => exact h.cell 0
    | 1, _ => exact h.cell 1
  · simp at ht
    rcases ht with rfl | rfl
    · exact h1
    · exact h2
def Join2P (w : World) (zs : List Int) (e : Ending) (w' : World) : Prop := ∃ (D : Option Addr) (dd : Nat), e = .returned (.slice D zs.length dd) ∧ Own w' w.heap.size 2 1 D zs.length dd (ints zs) ∧ Below w.heap.size w w'
/-- Two words joined: the row of the two words was laid just now. -/
theorem joined2_any {A1 A2 : Option Addr} {n1 n2 c1 c2 g : Nat} {xs1 xs2 : List Int} {W : World} (h : Blk W g 26 #[.slice A1 n1 c1, .slice A2 n2 c2]) (h1 : SI W A1 n1 xs1) (h2 : SI W A2 n2 xs2) (hl : n1 + n2 ≤ 1048576) :
    Calls Try.prog 261 #[.slice (some ⟨g, 0, none⟩) 2 2] W (Join2P W (xs1 ++ xs2)) := by
  have e1 := h1.len
  have e2 := h2.len
  refine (joinedI_any _ 2 2 _ _ (sii_two h h1 h2) (by omega) (by simp; omega)).mono ?_
  rintro e w' ⟨D, dd, rfl, o, z⟩
  have hz : ([⟨A1, c1, xs1⟩, ⟨A2, c2, xs2⟩] : List Sl).flatMap Sl.xs = xs1 ++ xs2 := by simp
  rw [hz] at o ⊢
  exact ⟨D, dd, rfl, o, z⟩

theorem Rd.blk1 {w : World} {g : Nat} {t : TypeId} {x : Int} (h : Blk w g t #[.int .i64 x]) : SI w (some ⟨g, 0, none⟩) 1 [x] := by
  refine ⟨rfl, fun _ => ⟨g, 0, rfl, fun k hk => ?_⟩⟩
  match k, hk with
  | 0, _ => exact h.cell 0

theorem last_any (q h a : Int) (A : Option Addr) (n c : Nat) (B : Option Addr) (m d : Nat) (C : Option Addr) (l k : Nat) (w : World) (hn : n ≤ 1048576) :
    Calls Try.prog 292 #[.agg #[.int .i64 q, .int .i64 h, .int .i64 a, .slice A n c, .slice B m d, .slice C l k]] w fun e w' => e = .returned (.int .i64 ((n : Int) - 1)) ∧ Below w.heap.size w w' := by
  obtain ⟨W, hW_⟩ : ∃ W, W = w.alloc (.cells #[.int .i64 q, .int .i64 h, .int .i64 a, .slice A n c, .slice B m d, .slice C l k] 31) := ⟨_, rfl⟩
  have b0 : Blk W w.heap.size 31 #[.int .i64 q, .int .i64 h, .int .i64 a, .slice A n c, .slice B m d, .slice C l k] := by rw [hW_]; exact Blk.new w _ _
  have y0 : Below w.heap.size w W := by rw [hW_]; exact (Below.refl _ _).alloc (Nat.le_refl _) _
  have HW := Lib.hid hW_
  clear hW_
  have v0 : W.cell? ⟨w.heap.size, 0, none⟩ = some (.int .i64 q) := b0.cell 0
  have v1 : W.cell? ⟨w.heap.size, 1, none⟩ = some (.int .i64 h) := b0.cell 1
  have v2 : W.cell? ⟨w.heap.size, 2, none⟩ = some (.int .i64 a) := b0.cell 2
  have v3 : W.cell? ⟨w.heap.size, 3, none⟩ = some (.slice A n c) := b0.cell 3
  have v4 : W.cell? ⟨w.heap.size, 4, none⟩ = some (.slice B m d) := b0.cell 4
  have v5 : W.cell? ⟨w.heap.size, 5, none⟩ = some (.slice C l k) := b0.cell 5
  have wn : IntKind.i64.wrap ((n : Int) - 1) = (n : Int) - 1 := IntWalk.i64_in _ (by omega)
  go_enter Try.func292, Try.ntmps292
  go_upto_region 1 with fail
  rw [← HW.out]
  go_wp2_with (go_at_call 170; refine (sizeII_any _ _ _ _ (by omega)).mono ?_; rintro e w' ⟨rfl, rfl⟩)
  go_ret
  exact ⟨rfl, y0⟩

/-- A formula tape that is short, its head at a wall. -/
def FmSz (f : Fm) : Prop := 0 ≤ f.h ∧ f.h ≤ f.R.length ∧ f.W.length = f.R.length + 1 ∧ f.O.length = f.R.length ∧ 1 ≤ f.R.length ∧ f.R.length ≤ 3 ∧ (∀ x ∈ f.W, x.length ≤ 1000) ∧ (∀ x ∈ f.R, x.length ≤ 1000) ∧ -1 ≤ f.a ∧ f.a ≤ 1000
/-- Blocks of other types are as they were. -/
def FrF (w w' : World) : Prop := ∀ (b : Nat) (t : TypeId) (cs : Array Value), Blk w b t cs → t ≠ 31 → t ≠ 26 → t ≠ 2 → Blk w' b t cs
theorem FrF.below {w w' : World} (z : Below w.heap.size w w') : FrF w w' := fun _ _ _ h _ _ _ => h.below' z
theorem FrF.trans {a b c : World} (h : FrF a b) (k : FrF b c) : FrF a c := fun x t cs hb h1 h2 h3 => k x t cs (h x t cs hb h1 h2 h3) h1 h2 h3
theorem FrF.setB {a w : World} (h : FrF a w) {g i : Nat} {cs : Array Value} (hb : Blk w g 31 cs) (v : Value) : FrF a (w.setCell ⟨g, i, none⟩ v) := fun x t c hx h1 h2 h3 => (h x t c hx h1 h2 h3).far (p := ⟨g, i, none⟩) (fun e => by
  have h4 := h x t c hx h1 h2 h3
  have e : x = g := e
  subst e
  unfold Blk at h4 hb
  rw [h4] at hb
  simp at hb
  exact h1 hb.2) v
theorem FrF.setS {a w : World} (h : FrF a w) {b off i lo s n c : Nat} {xs : List Value} (ho : Own w lo 26 s (some ⟨b, off, none⟩) n c xs) (v : Value) : FrF a (w.setCell ⟨b, i, none⟩ v) := fun x t cs hx h1 h2 h3 => (h x t cs hx h1 h2 h3).far (p := ⟨b, i, none⟩) (fun e => (h x t cs hx h1 h2 h3).aptt ho h2 (by have e : x = b := e; rw [e]; rfl)) v
theorem FrF.setI {a w : World} (h : FrF a w) {b off i lo s n c : Nat} {A : Option Addr} {xs : List Value} (ho : Own w lo 2 s A n c xs) (hA : A = some ⟨b, off, none⟩) (v : Value) : FrF a (w.setCell ⟨b, i, none⟩ v) := fun x t cs hx h1 h2 h3 => (h x t cs hx h1 h2 h3).far (p := ⟨b, i, none⟩) (fun e => (h x t cs hx h1 h2 h3).aptt ho h3 (by have e : x = b := e; rw [hA, e]; rfl)) v
theorem FrF.grow {a w w2 : World} (h : FrF a w) {lo s n c : Nat} {A : Option Addr} {xs : List Value} (ho : Own w lo 2 s A n c xs) (hg : w.grownBy w2 (blk A)) : FrF a w2 := fun x t cs hx h1 h2 h3 => (h x t cs hx h1 h2 h3).growt ho hg h3
theorem FrF.box {a w w' : World} (h : FrF a w) {g : Nat} {cs : Array Value} (hb : Blk w g 31 cs) (hk : ∀ b, b ≠ g → w'.heap[b]? = w.heap[b]?) : FrF a w' := fun x t c hx h1 h2 h3 => (h x t c hx h1 h2 h3).keptH (hk x (fun e => by
  have h4 := h x t c hx h1 h2 h3
  subst e
  unfold Blk at h4 hb
  rw [h4] at hb
  simp at hb
  exact h1 hb.2))
def TurnP (w : World) (lo g : Nat) (f : Fm) (e : Ending) (w' : World) : Prop := (∃ u, e = .returned u) ∧ FmBox w' lo g f ∧ Below lo w w' ∧ FrF w w'

set_option maxRecDepth 100000 in
set_option maxHeartbeats 4000000 in
theorem widen_any (g lo : Nat) (f : Fm) (w : World) (hF : FmBox w lo g f) (hs : FmSz f) :
    Calls Try.prog 260 #[.pointer (some ⟨g, 0, none⟩)] w (TurnP w lo g (widenF f)) := by
  obtain ⟨A, c, ts, B, d, us, C, k, hb, ⟨hO, eW, eR⟩, hlg⟩ := hF
  obtain ⟨q, h, a, FW, FR, os⟩ := f
  obtain ⟨s1, s2, s3, s4, s5, s6, s7, s8, s9, s10⟩ := hs
  dsimp only at eW eR hb hO s1 s2 s3 s4 s5 s6 s7 s8 s9 s10
  subst eW eR
  rw [nums_len] at s2 s3 s4 s5 s6
  rw [nums_len] at s3
  obtain ⟨hN, rfl⟩ : ∃ hN : Nat, h = (hN : Int) := ⟨h.toNat, by omega⟩
  obtain ⟨t, bb, off, hT, htm, rfl, hbl, hc, hrow⟩ := hO.1.sii.pick (k := hN) (by omega)
  have htl : t.xs.length ≤ 1000 := s7 _ (List.mem_map.2 ⟨t, htm, rfl⟩)
  obtain ⟨res, hres⟩ : ∃ res, res = widenF ⟨q, (hN : Int), a, nums ts, nums us, os⟩ := ⟨_, rfl⟩
  rw [← hres]
  have HRES : Hid (res = if a = -1 ∧ hN = 0 then ⟨q, (hN : Int), 0, (nums ts).set 0 (0 :: t.xs), nums us, os⟩ else if a = (t.xs.length : Int) ∧ (hN : Int) = (ts.length : Int) - 1 then ⟨q, (hN : Int), a, (nums ts).set hN (t.xs ++ [0]), nums us, os⟩ else ⟨q, (hN : Int), a, nums ts, nums us, os⟩) := Lib.hid (by
    rw [hres]
    unfold widenF
    dsimp only
    rw [rowAt_eq hT.out, nums_len, Int.toNat_natCast]
    by_cases h0 : hN = 0
    · subst h0
      rw [show rowAt (nums ts) 0 = t.xs from rowAt_eq hT.out]
      simp
    · have h1 : ¬ (hN : Int) = 0 := by omega
      simp [h0])
  have hsz := hb.lt
  have hw := Nat.le_trans hlg (Nat.le_of_lt hsz)
  have hgb : g ≠ bb := by
    intro e
    have h1 := hb.aptt hO.1.1 (by decide)
    exact h1 (by rw [e]; rfl)
  have HROW := Lib.hid hrow
  have HTT := hT
  have HTM := Lib.hid htm
  have i1 : (0 : Int) ≤ (hN : Int) := by omega
  have i2 : (hN : Int) < (ts.length : Int) := by omega
  have i3 : hN < ts.length := by omega
  have i4 : (0 : Int) < (ts.length : Int) := by omega
  have i5 : 0 < ts.length := by omega
  have wl : IntKind.i64.wrap ((ts.length : Int) - 1) = (ts.length : Int) - 1 := IntWalk.i64_in _ (by omega)
  have tl : ts.length ≤ 4 := by omega
  have KS : Hid (∀ W', Below w.heap.size w W' → W'.cell? ⟨g, 3, none⟩ = some (.slice (some ⟨bb, off, none⟩) ts.length c) ∧ W'.cell? ⟨g, 1, none⟩ = some (.int .i64 (hN : Int)) ∧ W'.cell? ⟨bb, off + hN, none⟩ = some (.slice t.A t.xs.length t.c)) := Lib.hid (fun W' z => ⟨(hb.below' z).cell 3, (hb.below' z).cell 1, (z.cell (p := ⟨bb, off + hN, none⟩) hbl).trans hc⟩)
  clear hres hrow htm hT s1 s2 s3 s4 s5 s6 s7 s8 hc
  go_enter Try.func260, Try.ntmps260
  go_upto_region 0 with fail
  have hp : Below w.heap.size w w.drew := below_drewN (Below.refl _ _) 1
  refine wp_region_noPanic ?_
  refine wp_region_held_drew (S := (fun w' => w'.cell? ⟨g, 3, none⟩ = some (.slice (some ⟨bb, off, none⟩) ts.length c) ∧ w'.cell? ⟨g, 1, none⟩ = some (.int .i64 (hN : Int)) ∧ w'.cell? ⟨bb, off + hN, none⟩ = some (.slice t.A t.xs.length t.c))) (by kernel_rfl) ?_ (fun hHeld => ?_)
  · exact KS.out _ hp
  generalize w.drew = W0 at *
  refine wpAnyH_take (i := 0) (v := ?_) rfl (by kernel_rfl) (by kernel_rfl) (by kernel_rfl) (fun _ _ _ h => h) (Or.inl ⟨by rfl, ?_⟩) (by assumption) ?_
  rotate_left
  · intro w hSw
    try dsimp only at hSw
    obtain ⟨hs0_, hs1_, hs2_⟩ := hSw
    go_simp
    try with_reducible rfl
  try simp only [Act.put, List.setIfInBounds_toArray]
  refine wpAnyH_take (i := 1) (v := ?_) rfl (by kernel_rfl) (by kernel_rfl) (by kernel_rfl) (fun _ _ _ h => h) (Or.inl ⟨by rfl, ?_⟩) (by assumption) ?_
  rotate_left
  · intro w hSw
    try dsimp only at hSw
    obtain ⟨hs0_, hs1_, hs2_⟩ := hSw
    go_simp
    try with_reducible rfl
  try simp only [Act.put]
  refine wpAnyH_take (i := 2) (v := ?_) rfl (by kernel_rfl) (by kernel_rfl) (by kernel_rfl) (fun _ _ _ h => h) (Or.inl ⟨by rfl, ?_⟩) (by assumption) ?_
  rotate_left
  · intro w hSw
    try dsimp only at hSw
    obtain ⟨hs0_, hs1_, hs2_⟩ := hSw
    go_simp
    try with_reducible rfl
  try simp only [Act.put]
  refine wpAnyH_take (i := 3) (v := ?_) rfl (by kernel_rfl) (by kernel_rfl) (by kernel_rfl) (fun _ _ _ h => h) (Or.inl ⟨by rfl, ?_⟩) (by assumption) ?_
  rotate_left
  · intro w hSw
    try dsimp only at hSw
    obtain ⟨hs0_, hs1_, hs2_⟩ := hSw
    go_simp
    try with_reducible rfl
  try simp only [Act.put]
  refine wpAnyH_take (i := 4) (v := ?_) rfl (by kernel_rfl) (by kernel_rfl) (by kernel_rfl) (fun _ _ _ h => h) (Or.inl ⟨by rfl, ?_⟩) (by assumption) ?_
  rotate_left
  · intro w hSw
    try dsimp only at hSw
    obtain ⟨hs0_, hs1_, hs2_⟩ := hSw
    go_simp
    try with_reducible rfl
  try simp only [Act.put]
  refine wpAnyH_take (i := 5) (v := ?_) rfl (by kernel_rfl) (by kernel_rfl) (by kernel_rfl) (fun _ _ _ h => h) (Or.inl ⟨by rfl, ?_⟩) (by assumption) ?_
  rotate_left
  · intro w hSw
    try dsimp only at hSw
    obtain ⟨hs0_, hs1_, hs2_⟩ := hSw
    go_simp
    try with_reducible rfl
  try simp only [Act.put]
  refine wpAnyH_take (i := 6) (v := ?_) rfl (by kernel_rfl) (by kernel_rfl) (by kernel_rfl) (fun _ _ _ h => h) (Or.inl ⟨by rfl, ?_⟩) (by assumption) ?_
  rotate_left
  · intro w hSw
    try dsimp only at hSw
    obtain ⟨hs0_, hs1_, hs2_⟩ := hSw
    go_simp
    try with_reducible rfl
  try simp only [Act.put]
  refine wpAnyH_take (i := 7) (v := ?_) rfl (by kernel_rfl) (by kernel_rfl) (by kernel_rfl) (fun _ _ _ h => h) (Or.inl ⟨by rfl, ?_⟩) (by assumption) ?_
  rotate_left
  · intro w hSw
    try dsimp only at hSw
    obtain ⟨hs0_, hs1_, hs2_⟩ := hSw
    go_simp
    try with_reducible rfl
  try simp only [Act.put]
  refine wpAnyH_take (i := 8) (v := ?_) rfl (by kernel_rfl) (by kernel_rfl) (by kernel_rfl) (fun _ _ _ h => h) (Or.inl ⟨by rfl, ?_⟩) (by assumption) ?_
  rotate_left
  · intro w hSw
    try dsimp only at hSw
    obtain ⟨hs0_, hs1_, hs2_⟩ := hSw
    go_simp
    try with_reducible rfl
  try simp only [Act.put]
  refine wpAnyH_take (i := 9) (v := ?_) rfl (by kernel_rfl) (by kernel_rfl) (by kernel_rfl) (fun _ _ _ h => h) (Or.inl ⟨by rfl, ?_⟩) (by assumption) ?_
  rotate_left
  · intro w hSw
    try dsimp only at hSw
    obtain ⟨hs0_, hs1_, hs2_⟩ := hSw
    go_simp
    try with_reducible rfl
  try simp only [Act.put]
  try simp only [List.getElem_toArray, List.getElem_cons_zero, List.getElem_cons_succ, List.setIfInBounds_toArray, List.set_cons_zero, List.set_cons_succ]
  refine wpAnyH_ready (rs := [10]) (by kernel_rfl) (by simp) ?_
  refine AllReadyH.cons rfl (fun K hK => ?_) ?_
  · go_simp
    refine hK.out _ _ ?_ (fun hHeld => ?_)
    · exact KS.out _ hp
    clear hK K
    try simp only [Act.put, List.setIfInBounds_toArray, List.set_cons_zero, List.set_cons_succ]
    refine wpAnyH_done (by kernel_rfl) ?_ _
    refine NoPanic.normal ?_
    have hb0 := hb.below' hp
    have hO0 := hO.below hp
    have HR0 := Lib.hid (HROW.out.below hp)
    have hs0 := hp.size
    have hpl : Below lo w W0 := hp.mono hw
    clear KS hb hO HROW hbl
    have v0 : W0.cell? ⟨g, 0, none⟩ = some (.int .i64 q) := hb0.cell 0
    have v1 : W0.cell? ⟨g, 1, none⟩ = some (.int .i64 (hN : Int)) := hb0.cell 1
    have v2 : W0.cell? ⟨g, 2, none⟩ = some (.int .i64 a) := hb0.cell 2
    have v3 : W0.cell? ⟨g, 3, none⟩ = some (.slice (some ⟨bb, off, none⟩) ts.length c) := hb0.cell 3
    have v4 : W0.cell? ⟨g, 4, none⟩ = some (.slice B us.length d) := hb0.cell 4
    have v5 : W0.cell? ⟨g, 5, none⟩ = some (.slice C os.length k) := hb0.cell 5
    by_cases hc1 : a = -1 ∧ hN = 0
    · obtain ⟨rfl, rfl⟩ := hc1
      have HRV : Hid (res = ⟨q, ((0 : Nat) : Int), 0, (nums ts).set 0 (0 :: t.xs), nums us, os⟩) := Lib.hid (by rw [HRES.out, if_pos ⟨rfl, rfl⟩])
      go_upto_region 2 with fail
      have hp2 : Below W0.heap.size W0 W0.drew := below_drewN (Below.refl _ _) 1
      have hsp := hO0.1.1
      refine wp_region_noPanic ?_
      refine wp_region_held_drew (S := (fun w' => w'.cell? ⟨g, 3, none⟩ = some (.slice (some ⟨bb, off, none⟩) ts.length c))) (by kernel_rfl) ?_ (fun hHeld => ?_)
      · exact (hb0.below' hp2).cell 3
      generalize hW0r : W0.drew = W0r at *
      refine wpAnyH_take (i := 0) (v := ?_) rfl (by kernel_rfl) (by kernel_rfl) (by kernel_rfl) (fun _ _ _ h => h) (Or.inl ⟨by rfl, ?_⟩) (by assumption) ?_
      rotate_left
      · intro w hSw
        try dsimp only at hSw
        go_simp
        try with_reducible rfl
      try simp only [Act.put, List.setIfInBounds_toArray]
      refine wpAnyH_take (i := 1) (v := ?_) rfl (by kernel_rfl) (by kernel_rfl) (by kernel_rfl) (fun _ _ _ h => h) (Or.inl ⟨by rfl, ?_⟩) (by assumption) ?_
      rotate_left
      · intro w hSw
        try dsimp only at hSw
        go_simp
        try with_reducible rfl
      try simp only [Act.put]
      refine wpAnyH_take (i := 2) (v := ?_) rfl (by kernel_rfl) (by kernel_rfl) (by kernel_rfl) (fun _ _ _ h => h) (Or.inl ⟨by rfl, ?_⟩) (by assumption) ?_
      rotate_left
      · intro w hSw
        try dsimp only at hSw
        go_simp
        try with_reducible rfl
      try simp only [Act.put]
      refine wpAnyH_take (i := 3) (v := ?_) rfl (by kernel_rfl) (by kernel_rfl) (by kernel_rfl) (fun _ _ _ h => h) (Or.inl ⟨by rfl, ?_⟩) (by assumption) ?_
      rotate_left
      · intro w hSw
        try dsimp only at hSw
        go_simp
        try with_reducible rfl
      try simp only [Act.put]
      refine wpAnyH_take (i := 4) (v := ?_) rfl (by kernel_rfl) (by kernel_rfl) (by kernel_rfl) (fun _ _ _ h => h) (Or.inl ⟨by rfl, ?_⟩) (by assumption) ?_
      rotate_left
      · intro w hSw
        try dsimp only at hSw
        go_simp
        try with_reducible rfl
      try simp only [Act.put]
      refine wpAnyH_take (i := 6) (v := ?_) rfl (by kernel_rfl) (by kernel_rfl) (by kernel_rfl) (fun _ _ _ h => h) (Or.inl ⟨by rfl, ?_⟩) (by assumption) ?_
      rotate_left
      · intro w hSw
        try dsimp only at hSw
        go_simp
        try with_reducible rfl
      try simp only [Act.put]
      try simp only [List.getElem_toArray, List.getElem_cons_zero, List.getElem_cons_succ, List.setIfInBounds_toArray, List.set_cons_zero, List.set_cons_succ]
      refine wpAnyH_ready (rs := [5]) (by kernel_rfl) (by simp) ?_
      refine AllReadyH.cons rfl (fun K hK => ?_) ?_
      · go_simp
        obtain ⟨W1, g1, hW1, hg1, z1, h1, l1, hp3⟩ := alloc_pack3 hp2 hp2.size #[.int .i64 0] 2
        rw [hW1]
        subst hg1
        have hpc := hp3
        have hbc := hb0.below' hpc
        refine hK.out _ _ ?_ (fun hHeld => ?_)
        · first
            | exact hb6c.cell 3
            | exact hbc.cell 3
        clear hK K
        try simp only [Act.put, List.setIfInBounds_toArray, List.set_cons_zero, List.set_cons_succ]
        try simp only [putAll, markAll, dstAt, Act.put, List.getElem_toArray, List.getElem?_toArray, List.getElem_cons_zero, List.getElem_cons_succ, List.getElem?_cons_zero, List.getElem?_cons_succ, Option.bind_some, List.setIfInBounds_toArray, List.set_cons_zero, List.set_cons_succ]
        refine wpAnyH_ready (rs := [7]) (by kernel_rfl) (by simp) ?_
        refine AllReadyH.cons rfl (fun K hK => ?_) ?_
        · go_simp
          obtain ⟨W2, g2, hW2, hg2, z2, h2, l2, hp4⟩ := alloc_pack3 hp3 hp3.size #[.slice (some ⟨W0r.heap.size, 0, none⟩) 1 1, .slice t.A t.xs.length t.c] 26
          rw [hW2]
          subst hg2
          have hpc := hp4
          have hbc := hb0.below' hpc
          refine hK.out _ _ ?_ (fun hHeld => ?_)
          · first
              | exact hb6c.cell 3
              | exact hbc.cell 3
          clear hK K
          try simp only [Act.put, List.setIfInBounds_toArray, List.set_cons_zero, List.set_cons_succ]
          try simp only [putAll, markAll, dstAt, Act.put, List.getElem_toArray, List.getElem?_toArray, List.getElem_cons_zero, List.getElem_cons_succ, List.getElem?_cons_zero, List.getElem?_cons_succ, Option.bind_some, List.setIfInBounds_toArray, List.set_cons_zero, List.set_cons_succ]
          refine wpAnyH_ready (rs := [8]) (by kernel_rfl) (by simp) ?_
          refine AllReadyH.cons rfl (fun K hK => ?_) ?_
          · go_simp
            refine (joined2_any (xs1 := [0]) (xs2 := t.xs) h2 (Rd.blk1 (h1.below' z2)) (HR0.out.below hp4) (by omega)).mono ?_
            rintro e W3 ⟨D, dd, rfl, oD, z3⟩
            have hp5 := hp4.trans (z3.mono hp4.size)
            have hpc := hp5
            have hbc := hb0.below' hpc
            have hO5 := hO0.below hp5
            obtain ⟨bb', off', he, _, _, hcs, hfs⟩ := hO5.1.1.at_ (k := 0) (by simpa using i5)
            cases he
            simp only [Nat.add_zero] at hcs hfs
            have hO6 : FmO (W3.setCell ⟨bb, off, none⟩ (.slice D (t.xs.length + 1) dd)) lo (some ⟨bb, off, none⟩) c (ts.set 0 ⟨D, dd, 0 :: t.xs⟩) B d us C k os := hO0.putW hp5 HTT.out (u := ⟨D, dd, 0 :: t.xs⟩) rfl oD (Nat.le_trans hp4.size (Nat.le_refl _)) (by have := hp4.size; omega)
            refine hK.out _ _ ?_ (fun hHeld => ?_)
            · first
                | exact hb6c.cell 3
                | exact hbc.cell 3
            clear hK K
            try simp only [Act.put, List.setIfInBounds_toArray, List.set_cons_zero, List.set_cons_succ]
            refine wpAnyH_take (i := 9) (v := ?_) rfl (by kernel_rfl) (by kernel_rfl) (by kernel_rfl) (fun _ _ _ h => h) (Or.inl ⟨by rfl, ?_⟩) (by assumption) ?_
            rotate_left
            · intro w hSw
              try dsimp only at hSw
              go_simp
              try with_reducible rfl
            try simp only [Act.put, List.setIfInBounds_toArray]
            try simp only [List.getElem_toArray, List.getElem_cons_zero, List.getElem_cons_succ, List.set_cons_zero, List.set_cons_succ]
            refine wpAnyH_ready (rs := [10]) (by kernel_rfl) (by simp) ?_
            refine AllReadyH.cons rfl (fun K hK => ?_) ?_
            · go_simp
              have hbd := hbc.far (p := ⟨bb, off, none⟩) hgb (.slice D (0 :: t.xs).length dd)
              have fr4 : FrF w (W3.setCell ⟨bb, off, none⟩ (.slice D (t.xs.length + 1) dd)) := (FrF.below (hp.trans (hp5.mono hs0))).setS hO5.1.1 _
              have hz4 : Below lo w (W3.setCell ⟨bb, off, none⟩ (.slice D (t.xs.length + 1) dd)) := (hpl.trans (hp5.mono (Nat.le_trans hw hs0))).setCell (hO0.1.1.blk_ge bb rfl) _
              generalize W3.setCell ⟨bb, off, none⟩ (.slice D (t.xs.length + 1) dd) = W4 at *
              have hb6c := hbd
              have e0 : W4.cell? ⟨g, 0, none⟩ = some (.int .i64 q) := hbd.cell 0
              have e1 : W4.cell? ⟨g, 1, none⟩ = some (.int .i64 ((0 : Nat) : Int)) := hbd.cell 1
              have e2 : W4.cell? ⟨g, 2, none⟩ = some (.int .i64 (-1)) := hbd.cell 2
              have e3 : W4.cell? ⟨g, 3, none⟩ = some (.slice (some ⟨bb, off, none⟩) ts.length c) := hbd.cell 3
              have e4 : W4.cell? ⟨g, 4, none⟩ = some (.slice B us.length d) := hbd.cell 4
              have e5 : W4.cell? ⟨g, 5, none⟩ = some (.slice C os.length k) := hbd.cell 5
              have f0 := hbd.frozen 0
              have f1 := hbd.frozen 1
              have f2 := hbd.frozen 2
              have f3 := hbd.frozen 3
              have f4 := hbd.frozen 4
              have f5 := hbd.frozen 5
              refine hK.out _ _ ?_ (fun hHeld => ?_)
              · first
                  | exact hb6c.cell 3
                  | exact hbc.cell 3
              clear hK K
              try simp only [Act.put, List.setIfInBounds_toArray]
              refine wpAnyH_take (i := 11) (v := ?_) rfl (by kernel_rfl) (by kernel_rfl) (by kernel_rfl) (fun _ _ _ h => h) (Or.inl ⟨by rfl, ?_⟩) (by assumption) ?_
              rotate_left
              · intro w hSw
                try dsimp only at hSw
                go_simp
                try with_reducible rfl
              try simp only [Act.put, List.setIfInBounds_toArray]
              refine wpAnyH_take (i := 12) (v := ?_) rfl (by kernel_rfl) (by kernel_rfl) (by kernel_rfl) (fun _ _ _ h => h) (Or.inl ⟨by rfl, ?_⟩) (by assumption) ?_
              rotate_left
              · intro w hSw
                try dsimp only at hSw
                go_simp
                try with_reducible rfl
              try simp only [Act.put]
              try simp only [List.getElem_toArray, List.getElem_cons_zero, List.getElem_cons_succ, List.setIfInBounds_toArray, List.set_cons_zero, List.set_cons_succ]
              refine wpAnyH_ready (rs := [13]) (by kernel_rfl) (by simp) ?_
              refine AllReadyH.cons rfl (fun K hK => ?_) ?_
              · go_simp
                have hbe := hbd.set_ 2 (.int .i64 0)
                have hb6c := hbe
                refine hK.out _ _ ?_ (fun hHeld => ?_)
                · first
                    | exact hb6c.cell 3
                    | exact hbc.cell 3
                clear hK K
                try simp only [Act.put, List.setIfInBounds_toArray]
                refine wpAnyH_done (by kernel_rfl) ?_ _
                refine NoPanic.normal ?_
                have hO7 := hO6.far hbd (by decide) (by decide) (w' := W4.setCell ⟨g, 2, none⟩ (.int .i64 0)) (fun b hb => Below.heap_setCell _ _ _ _ hb)
                have hz7 : Below lo w (W4.setCell ⟨g, 2, none⟩ (.int .i64 0)) := hz4.setCell hlg _
                have hbf : Blk (W4.setCell ⟨g, 2, none⟩ (.int .i64 0)) g 31 #[.int .i64 q, .int .i64 ((0 : Nat) : Int), .int .i64 0, .slice (some ⟨bb, off, none⟩) (ts.set 0 ⟨D, dd, 0 :: t.xs⟩).length c, .slice B us.length d, .slice C os.length k] := by
                  rw [List.length_set]
                  exact hbe
                have HFIN : Hid (FmBox (W4.setCell ⟨g, 2, none⟩ (.int .i64 0)) lo g res) := Lib.hid (by
                  rw [HRV.out]
                  exact ⟨_, c, _, B, d, us, C, k, hbf, ⟨hO7, by rw [nums_set], rfl⟩, hlg⟩)
                go_wp2_with fail
                go_end0
                exact ⟨⟨_, rfl⟩, HFIN.out, hz7, fr4.setB hbd _⟩
              exact AllReadyH.nil
            exact AllReadyH.nil
          exact AllReadyH.nil
        exact AllReadyH.nil
      exact AllReadyH.nil
    by_cases hc2 : a = (t.xs.length : Int)
    rotate_left
    · have HRV : Hid (res = ⟨q, (hN : Int), a, nums ts, nums us, os⟩) := Lib.hid (by rw [HRES.out, if_neg hc1, if_neg (fun h => hc2 h.1)])
      have hd2 : (a == (t.xs.length : Int)) = false := by simpa using hc2
      by_cases hc3 : a = -1
      · subst hc3
        have hh0 : ¬ (hN : Int) = 0 := fun h => hc1 ⟨rfl, by omega⟩
        clear hc1 hc2
        go_upto_region 3 with fail
        have hp2 : Below W0.heap.size W0 W0.drew := below_drewN (Below.refl _ _) 1
        refine wp_region_noPanic ?_
        refine wp_region_held_drew (S := (fun w' => w'.cell? ⟨g, 2, none⟩ = some (.int .i64 (-1)))) (by kernel_rfl) ?_ (fun hHeld => ?_)
        · exact (hb0.below' hp2).cell 2
        generalize W0.drew = Wd at *
        refine wpAnyH_take (i := 0) (v := ?_) rfl (by kernel_rfl) (by kernel_rfl) (by kernel_rfl) (fun _ _ _ h => h) (Or.inl ⟨by rfl, ?_⟩) (by assumption) ?_
        rotate_left
        · intro w hSw
          try dsimp only at hSw
          go_simp
          try with_reducible rfl
        try simp only [Act.put, List.setIfInBounds_toArray]
        refine wpAnyH_take (i := 1) (v := ?_) rfl (by kernel_rfl) (by kernel_rfl) (by kernel_rfl) (fun _ _ _ h => h) (Or.inl ⟨by rfl, ?_⟩) (by assumption) ?_
        rotate_left
        · intro w hSw
          try dsimp only at hSw
          go_simp
          try with_reducible rfl
        try simp only [Act.put]
        refine wpAnyH_take (i := 2) (v := ?_) rfl (by kernel_rfl) (by kernel_rfl) (by kernel_rfl) (fun _ _ _ h => h) (Or.inl ⟨by rfl, ?_⟩) (by assumption) ?_
        rotate_left
        · intro w hSw
          try dsimp only at hSw
          go_simp
          try with_reducible rfl
        try simp only [Act.put]
        refine wpAnyH_take (i := 3) (v := ?_) rfl (by kernel_rfl) (by kernel_rfl) (by kernel_rfl) (fun _ _ _ h => h) (Or.inl ⟨by rfl, ?_⟩) (by assumption) ?_
        rotate_left
        · intro w hSw
          try dsimp only at hSw
          go_simp
          try with_reducible rfl
        try simp only [Act.put]
        refine wpAnyH_take (i := 4) (v := ?_) rfl (by kernel_rfl) (by kernel_rfl) (by kernel_rfl) (fun _ _ _ h => h) (Or.inl ⟨by rfl, ?_⟩) (by assumption) ?_
        rotate_left
        · intro w hSw
          try dsimp only at hSw
          go_simp
          try with_reducible rfl
        try simp only [Act.put]
        try simp only [List.getElem_toArray, List.getElem_cons_zero, List.getElem_cons_succ, List.setIfInBounds_toArray, List.set_cons_zero, List.set_cons_succ]
        refine wpAnyH_ready (rs := [5]) (by kernel_rfl) (by simp) ?_
        refine AllReadyH.cons rfl (fun K hK => ?_) ?_
        · go_simp
          refine (sizeI_any _ _ _ _ (by omega)).mono ?_
          rintro e W1 ⟨rfl, rfl⟩
          refine hK.out _ _ ?_ (fun hHeld => ?_)
          · exact (hb0.below' hp2).cell 2
          clear hK K
          try simp only [Act.put, List.setIfInBounds_toArray, List.set_cons_zero, List.set_cons_succ]
          refine wpAnyH_take (i := 6) (v := ?_) rfl (by kernel_rfl) (by kernel_rfl) (by kernel_rfl) (fun _ _ _ h => h) (Or.inl ⟨by rfl, ?_⟩) (by assumption) ?_
          rotate_left
          · intro w hSw
            try dsimp only at hSw
            go_simp
            try with_reducible rfl
          try simp only [Act.put, List.setIfInBounds_toArray]
          refine wpAnyH_take (i := 7) (v := ?_) rfl (by kernel_rfl) (by kernel_rfl) (by kernel_rfl) (fun _ _ _ h => h) (Or.inl ⟨by rfl, ?_⟩) (by assumption) ?_
          rotate_left
          · intro w hSw
            try dsimp only at hSw
            go_simp
            try with_reducible rfl
          try simp only [Act.put]
          try simp only [List.getElem_toArray, List.getElem_cons_zero, List.getElem_cons_succ, List.setIfInBounds_toArray, List.set_cons_zero, List.set_cons_succ]
          refine wpAnyH_take (i := 8) (v := undef) rfl (by kernel_rfl) (by kernel_rfl) (by kernel_rfl) (fun _ _ _ h => h) (Or.inr ⟨by rfl, rfl⟩) (by assumption) ?_
          try simp only [Act.put, List.setIfInBounds_toArray]
          try simp only [List.getElem_toArray, List.getElem_cons_zero, List.getElem_cons_succ, List.set_cons_zero, List.set_cons_succ]
          refine wpAnyH_take (i := 9) (v := undef) rfl (by kernel_rfl) (by kernel_rfl) (by kernel_rfl) (fun _ _ _ h => h) (Or.inr ⟨by rfl, rfl⟩) (by assumption) ?_
          try simp only [Act.put, List.setIfInBounds_toArray]
          try simp only [List.getElem_toArray, List.getElem_cons_zero, List.getElem_cons_succ, List.set_cons_zero, List.set_cons_succ]
          refine wpAnyH_take (i := 10) (v := undef) rfl (by kernel_rfl) (by kernel_rfl) (by kernel_rfl) (fun _ _ _ h => h) (Or.inr ⟨by rfl, rfl⟩) (by assumption) ?_
          try simp only [Act.put, List.setIfInBounds_toArray]
          try simp only [List.getElem_toArray, List.getElem_cons_zero, List.getElem_cons_succ, List.set_cons_zero, List.set_cons_succ]
          refine wpAnyH_take (i := 11) (v := undef) rfl (by kernel_rfl) (by kernel_rfl) (by kernel_rfl) (fun _ _ _ h => h) (Or.inr ⟨by rfl, rfl⟩) (by assumption) ?_
          try simp only [Act.put, List.setIfInBounds_toArray]
          try simp only [List.getElem_toArray, List.getElem_cons_zero, List.getElem_cons_succ, List.set_cons_zero, List.set_cons_succ]
          refine wpAnyH_take (i := 12) (v := undef) rfl (by kernel_rfl) (by kernel_rfl) (by kernel_rfl) (fun _ _ _ h => h) (Or.inr ⟨by rfl, rfl⟩) (by assumption) ?_
          try simp only [Act.put, List.setIfInBounds_toArray]
          try simp only [List.getElem_toArray, List.getElem_cons_zero, List.getElem_cons_succ, List.set_cons_zero, List.set_cons_succ]
          refine wpAnyH_take (i := 13) (v := undef) rfl (by kernel_rfl) (by kernel_rfl) (by kernel_rfl) (fun _ _ _ h => h) (Or.inr ⟨by rfl, rfl⟩) (by assumption) ?_
          try simp only [Act.put, List.setIfInBounds_toArray]
          try simp only [List.getElem_toArray, List.getElem_cons_zero, List.getElem_cons_succ, List.set_cons_zero, List.set_cons_succ]
          refine wpAnyH_take (i := 14) (v := undef) rfl (by kernel_rfl) (by kernel_rfl) (by kernel_rfl) (fun _ _ _ h => h) (Or.inr ⟨by rfl, rfl⟩) (by assumption) ?_
          try simp only [Act.put, List.setIfInBounds_toArray]
          try simp only [List.getElem_toArray, List.getElem_cons_zero, List.getElem_cons_succ, List.set_cons_zero, List.set_cons_succ]
          refine wpAnyH_take (i := 15) (v := undef) rfl (by kernel_rfl) (by kernel_rfl) (by kernel_rfl) (fun _ _ _ h => h) (Or.inr ⟨by rfl, rfl⟩) (by assumption) ?_
          try simp only [Act.put, List.setIfInBounds_toArray]
          try simp only [List.getElem_toArray, List.getElem_cons_zero, List.getElem_cons_succ, List.set_cons_zero, List.set_cons_succ]
          refine wpAnyH_take (i := 16) (v := undef) rfl (by kernel_rfl) (by kernel_rfl) (by kernel_rfl) (fun _ _ _ h => h) (Or.inr ⟨by rfl, rfl⟩) (by assumption) ?_
          try simp only [Act.put, List.setIfInBounds_toArray]
          refine wpAnyH_take (i := 17) (v := ?_) rfl (by kernel_rfl) (by kernel_rfl) (by kernel_rfl) (fun _ _ _ h => h) (Or.inl ⟨by rfl, ?_⟩) (by assumption) ?_
          rotate_left
          · intro w hSw
            try dsimp only at hSw
            go_simp
            try with_reducible rfl
          try simp only [Act.put]
          try simp only [List.getElem_toArray, List.getElem_cons_zero, List.getElem_cons_succ, List.setIfInBounds_toArray, List.set_cons_zero, List.set_cons_succ]
          refine wpAnyH_ready (rs := [18]) (by kernel_rfl) (by simp) ?_
          refine AllReadyH.cons rfl (fun K hK => ?_) ?_
          · go_simp
            refine hK.out _ _ ?_ (fun hHeld => ?_)
            · exact (hb0.below' hp2).cell 2
            clear hK K
            try simp only [Act.put, List.setIfInBounds_toArray, List.set_cons_zero, List.set_cons_succ]
            refine wpAnyH_done (by kernel_rfl) ?_ _
            refine NoPanic.normal ?_
            have HFIN : Hid (FmBox Wd lo g res) := Lib.hid (by
              rw [HRV.out]
              exact ⟨_, c, ts, B, d, us, C, k, hb0.below' hp2, ⟨hO0.below hp2, rfl, rfl⟩, hlg⟩)
            have hz7 : Below lo w Wd := hpl.trans (hp2.mono (Nat.le_trans hw hs0))
            go_wp2_with fail
            go_end0
            exact ⟨⟨_, rfl⟩, HFIN.out, hz7, FrF.below (hp.trans (hp2.mono hs0))⟩
          exact AllReadyH.nil
        exact AllReadyH.nil
      · clear hc1 hc2
        go_upto_region 3 with fail
        have hp2 : Below W0.heap.size W0 W0.drew := below_drewN (Below.refl _ _) 1
        refine wp_region_noPanic ?_
        refine wp_region_held_drew (S := (fun w' => w'.cell? ⟨g, 2, none⟩ = some (.int .i64 a))) (by kernel_rfl) ?_ (fun hHeld => ?_)
        · exact (hb0.below' hp2).cell 2
        generalize W0.drew = Wd at *
        refine wpAnyH_take (i := 0) (v := ?_) rfl (by kernel_rfl) (by kernel_rfl) (by kernel_rfl) (fun _ _ _ h => h) (Or.inl ⟨by rfl, ?_⟩) (by assumption) ?_
        rotate_left
        · intro w hSw
          try dsimp only at hSw
          go_simp
          try with_reducible rfl
        try simp only [Act.put, List.setIfInBounds_toArray]
        refine wpAnyH_take (i := 1) (v := ?_) rfl (by kernel_rfl) (by kernel_rfl) (by kernel_rfl) (fun _ _ _ h => h) (Or.inl ⟨by rfl, ?_⟩) (by assumption) ?_
        rotate_left
        · intro w hSw
          try dsimp only at hSw
          go_simp
          try with_reducible rfl
        try simp only [Act.put]
        refine wpAnyH_take (i := 2) (v := ?_) rfl (by kernel_rfl) (by kernel_rfl) (by kernel_rfl) (fun _ _ _ h => h) (Or.inl ⟨by rfl, ?_⟩) (by assumption) ?_
        rotate_left
        · intro w hSw
          try dsimp only at hSw
          go_simp
          try with_reducible rfl
        try simp only [Act.put]
        refine wpAnyH_take (i := 3) (v := ?_) rfl (by kernel_rfl) (by kernel_rfl) (by kernel_rfl) (fun _ _ _ h => h) (Or.inl ⟨by rfl, ?_⟩) (by assumption) ?_
        rotate_left
        · intro w hSw
          try dsimp only at hSw
          go_simp
          try with_reducible rfl
        try simp only [Act.put]
        refine wpAnyH_take (i := 4) (v := ?_) rfl (by kernel_rfl) (by kernel_rfl) (by kernel_rfl) (fun _ _ _ h => h) (Or.inl ⟨by rfl, ?_⟩) (by assumption) ?_
        rotate_left
        · intro w hSw
          try dsimp only at hSw
          go_simp
          try with_reducible rfl
        try simp only [Act.put]
        try simp only [List.getElem_toArray, List.getElem_cons_zero, List.getElem_cons_succ, List.setIfInBounds_toArray, List.set_cons_zero, List.set_cons_succ]
        refine wpAnyH_ready (rs := [5]) (by kernel_rfl) (by simp) ?_
        refine AllReadyH.cons rfl (fun K hK => ?_) ?_
        · go_simp
          refine (sizeI_any _ _ _ _ (by omega)).mono ?_
          rintro e W1 ⟨rfl, rfl⟩
          refine hK.out _ _ ?_ (fun hHeld => ?_)
          · exact (hb0.below' hp2).cell 2
          clear hK K
          try simp only [Act.put, List.setIfInBounds_toArray, List.set_cons_zero, List.set_cons_succ]
          refine wpAnyH_take (i := 6) (v := ?_) rfl (by kernel_rfl) (by kernel_rfl) (by kernel_rfl) (fun _ _ _ h => h) (Or.inl ⟨by rfl, ?_⟩) (by assumption) ?_
          rotate_left
          · intro w hSw
            try dsimp only at hSw
            go_simp
            try with_reducible rfl
          try simp only [Act.put, List.setIfInBounds_toArray]
          refine wpAnyH_take (i := 7) (v := ?_) rfl (by kernel_rfl) (by kernel_rfl) (by kernel_rfl) (fun _ _ _ h => h) (Or.inl ⟨by rfl, ?_⟩) (by assumption) ?_
          rotate_left
          · intro w hSw
            try dsimp only at hSw
            go_simp
            try with_reducible rfl
          try simp only [Act.put]
          try simp only [List.getElem_toArray, List.getElem_cons_zero, List.getElem_cons_succ, List.setIfInBounds_toArray, List.set_cons_zero, List.set_cons_succ]
          refine wpAnyH_take (i := 8) (v := undef) rfl (by kernel_rfl) (by kernel_rfl) (by kernel_rfl) (fun _ _ _ h => h) (Or.inr ⟨by rfl, rfl⟩) (by assumption) ?_
          try simp only [Act.put, List.setIfInBounds_toArray]
          try simp only [List.getElem_toArray, List.getElem_cons_zero, List.getElem_cons_succ, List.set_cons_zero, List.set_cons_succ]
          refine wpAnyH_take (i := 9) (v := undef) rfl (by kernel_rfl) (by kernel_rfl) (by kernel_rfl) (fun _ _ _ h => h) (Or.inr ⟨by rfl, rfl⟩) (by assumption) ?_
          try simp only [Act.put, List.setIfInBounds_toArray]
          try simp only [List.getElem_toArray, List.getElem_cons_zero, List.getElem_cons_succ, List.set_cons_zero, List.set_cons_succ]
          refine wpAnyH_take (i := 10) (v := undef) rfl (by kernel_rfl) (by kernel_rfl) (by kernel_rfl) (fun _ _ _ h => h) (Or.inr ⟨by rfl, rfl⟩) (by assumption) ?_
          try simp only [Act.put, List.setIfInBounds_toArray]
          try simp only [List.getElem_toArray, List.getElem_cons_zero, List.getElem_cons_succ, List.set_cons_zero, List.set_cons_succ]
          refine wpAnyH_take (i := 11) (v := undef) rfl (by kernel_rfl) (by kernel_rfl) (by kernel_rfl) (fun _ _ _ h => h) (Or.inr ⟨by rfl, rfl⟩) (by assumption) ?_
          try simp only [Act.put, List.setIfInBounds_toArray]
          try simp only [List.getElem_toArray, List.getElem_cons_zero, List.getElem_cons_succ, List.set_cons_zero, List.set_cons_succ]
          refine wpAnyH_take (i := 12) (v := undef) rfl (by kernel_rfl) (by kernel_rfl) (by kernel_rfl) (fun _ _ _ h => h) (Or.inr ⟨by rfl, rfl⟩) (by assumption) ?_
          try simp only [Act.put, List.setIfInBounds_toArray]
          try simp only [List.getElem_toArray, List.getElem_cons_zero, List.getElem_cons_succ, List.set_cons_zero, List.set_cons_succ]
          refine wpAnyH_take (i := 13) (v := undef) rfl (by kernel_rfl) (by kernel_rfl) (by kernel_rfl) (fun _ _ _ h => h) (Or.inr ⟨by rfl, rfl⟩) (by assumption) ?_
          try simp only [Act.put, List.setIfInBounds_toArray]
          try simp only [List.getElem_toArray, List.getElem_cons_zero, List.getElem_cons_succ, List.set_cons_zero, List.set_cons_succ]
          refine wpAnyH_take (i := 14) (v := undef) rfl (by kernel_rfl) (by kernel_rfl) (by kernel_rfl) (fun _ _ _ h => h) (Or.inr ⟨by rfl, rfl⟩) (by assumption) ?_
          try simp only [Act.put, List.setIfInBounds_toArray]
          try simp only [List.getElem_toArray, List.getElem_cons_zero, List.getElem_cons_succ, List.set_cons_zero, List.set_cons_succ]
          refine wpAnyH_take (i := 15) (v := undef) rfl (by kernel_rfl) (by kernel_rfl) (by kernel_rfl) (fun _ _ _ h => h) (Or.inr ⟨by rfl, rfl⟩) (by assumption) ?_
          try simp only [Act.put, List.setIfInBounds_toArray]
          try simp only [List.getElem_toArray, List.getElem_cons_zero, List.getElem_cons_succ, List.set_cons_zero, List.set_cons_succ]
          refine wpAnyH_take (i := 16) (v := undef) rfl (by kernel_rfl) (by kernel_rfl) (by kernel_rfl) (fun _ _ _ h => h) (Or.inr ⟨by rfl, rfl⟩) (by assumption) ?_
          try simp only [Act.put, List.setIfInBounds_toArray]
          refine wpAnyH_take (i := 17) (v := ?_) rfl (by kernel_rfl) (by kernel_rfl) (by kernel_rfl) (fun _ _ _ h => h) (Or.inl ⟨by rfl, ?_⟩) (by assumption) ?_
          rotate_left
          · intro w hSw
            try dsimp only at hSw
            go_simp
            try with_reducible rfl
          try simp only [Act.put]
          try simp only [List.getElem_toArray, List.getElem_cons_zero, List.getElem_cons_succ, List.setIfInBounds_toArray, List.set_cons_zero, List.set_cons_succ]
          refine wpAnyH_ready (rs := [18]) (by kernel_rfl) (by simp) ?_
          refine AllReadyH.cons rfl (fun K hK => ?_) ?_
          · go_simp
            refine hK.out _ _ ?_ (fun hHeld => ?_)
            · exact (hb0.below' hp2).cell 2
            clear hK K
            try simp only [Act.put, List.setIfInBounds_toArray, List.set_cons_zero, List.set_cons_succ]
            refine wpAnyH_done (by kernel_rfl) ?_ _
            refine NoPanic.normal ?_
            have HFIN : Hid (FmBox Wd lo g res) := Lib.hid (by
              rw [HRV.out]
              exact ⟨_, c, ts, B, d, us, C, k, hb0.below' hp2, ⟨hO0.below hp2, rfl, rfl⟩, hlg⟩)
            have hz7 : Below lo w Wd := hpl.trans (hp2.mono (Nat.le_trans hw hs0))
            go_wp2_with fail
            go_end0
            exact ⟨⟨_, rfl⟩, HFIN.out, hz7, FrF.below (hp.trans (hp2.mono hs0))⟩
          exact AllReadyH.nil
        exact AllReadyH.nil
    subst hc2
    have hh1 : ¬ (t.xs.length : Int) = -1 := by omega
    by_cases hc4 : (hN : Int) = (ts.length : Int) - 1
    rotate_left
    · have HRV : Hid (res = ⟨q, (hN : Int), (t.xs.length : Int), nums ts, nums us, os⟩) := Lib.hid (by rw [HRES.out, if_neg hc1, if_neg (fun h => hc4 h.2)])
      have hd4 : ((hN : Int) == (ts.length : Int) - 1) = false := by simpa using hc4
      clear hc1 hc4
      go_upto_region 3 with fail
      have hp2 : Below W0.heap.size W0 W0.drew := below_drewN (Below.refl _ _) 1
      refine wp_region_noPanic ?_
      refine wp_region_held_drew (S := (fun w' => w'.cell? ⟨g, 0, none⟩ = some (.int .i64 q) ∧ w'.cell? ⟨g, 1, none⟩ = some (.int .i64 (hN : Int)) ∧ w'.cell? ⟨g, 2, none⟩ = some (.int .i64 (t.xs.length : Int)) ∧ w'.cell? ⟨g, 3, none⟩ = some (.slice (some ⟨bb, off, none⟩) ts.length c) ∧ w'.cell? ⟨g, 4, none⟩ = some (.slice B us.length d) ∧ w'.cell? ⟨g, 5, none⟩ = some (.slice C os.length k))) (by kernel_rfl) ?_ (fun hHeld => ?_)
      · exact ⟨(hb0.below' hp2).cell 0, (hb0.below' hp2).cell 1, (hb0.below' hp2).cell 2, (hb0.below' hp2).cell 3, (hb0.below' hp2).cell 4, (hb0.below' hp2).cell 5⟩
      generalize W0.drew = Wd at *
      refine wpAnyH_take (i := 0) (v := ?_) rfl (by kernel_rfl) (by kernel_rfl) (by kernel_rfl) (fun _ _ _ h => h) (Or.inl ⟨by rfl, ?_⟩) (by assumption) ?_
      rotate_left
      · intro w hSw
        try dsimp only at hSw
        obtain ⟨hs0_, hs1_, hs2_, hs3_, hs4_, hs5_⟩ := hSw
        go_simp
        try with_reducible rfl
      try simp only [Act.put, List.setIfInBounds_toArray]
      refine wpAnyH_take (i := 1) (v := ?_) rfl (by kernel_rfl) (by kernel_rfl) (by kernel_rfl) (fun _ _ _ h => h) (Or.inl ⟨by rfl, ?_⟩) (by assumption) ?_
      rotate_left
      · intro w hSw
        try dsimp only at hSw
        obtain ⟨hs0_, hs1_, hs2_, hs3_, hs4_, hs5_⟩ := hSw
        go_simp
        try with_reducible rfl
      try simp only [Act.put]
      refine wpAnyH_take (i := 2) (v := ?_) rfl (by kernel_rfl) (by kernel_rfl) (by kernel_rfl) (fun _ _ _ h => h) (Or.inl ⟨by rfl, ?_⟩) (by assumption) ?_
      rotate_left
      · intro w hSw
        try dsimp only at hSw
        obtain ⟨hs0_, hs1_, hs2_, hs3_, hs4_, hs5_⟩ := hSw
        go_simp
        try with_reducible rfl
      try simp only [Act.put]
      refine wpAnyH_take (i := 3) (v := ?_) rfl (by kernel_rfl) (by kernel_rfl) (by kernel_rfl) (fun _ _ _ h => h) (Or.inl ⟨by rfl, ?_⟩) (by assumption) ?_
      rotate_left
      · intro w hSw
        try dsimp only at hSw
        obtain ⟨hs0_, hs1_, hs2_, hs3_, hs4_, hs5_⟩ := hSw
        go_simp
        try with_reducible rfl
      try simp only [Act.put]
      refine wpAnyH_take (i := 4) (v := ?_) rfl (by kernel_rfl) (by kernel_rfl) (by kernel_rfl) (fun _ _ _ h => h) (Or.inl ⟨by rfl, ?_⟩) (by assumption) ?_
      rotate_left
      · intro w hSw
        try dsimp only at hSw
        obtain ⟨hs0_, hs1_, hs2_, hs3_, hs4_, hs5_⟩ := hSw
        go_simp
        try with_reducible rfl
      try simp only [Act.put]
      try simp only [List.getElem_toArray, List.getElem_cons_zero, List.getElem_cons_succ, List.setIfInBounds_toArray, List.set_cons_zero, List.set_cons_succ]
      refine wpAnyH_ready (rs := [5]) (by kernel_rfl) (by simp) ?_
      refine AllReadyH.cons rfl (fun K hK => ?_) ?_
      · go_simp
        refine (sizeI_any _ _ _ _ (by omega)).mono ?_
        rintro e W1 ⟨rfl, rfl⟩
        have hbc := hb0.below' hp2
        refine hK.out _ _ ?_ (fun hHeld => ?_)
        · exact ⟨hbc.cell 0, hbc.cell 1, hbc.cell 2, hbc.cell 3, hbc.cell 4, hbc.cell 5⟩
        clear hK K
        try simp only [Act.put, List.setIfInBounds_toArray, List.set_cons_zero, List.set_cons_succ]
        refine wpAnyH_take (i := 6) (v := ?_) rfl (by kernel_rfl) (by kernel_rfl) (by kernel_rfl) (fun _ _ _ h => h) (Or.inl ⟨by rfl, ?_⟩) (by assumption) ?_
        rotate_left
        · intro w hSw
          try dsimp only at hSw
          obtain ⟨hs0_, hs1_, hs2_, hs3_, hs4_, hs5_⟩ := hSw
          go_simp
          try with_reducible rfl
        try simp only [Act.put, List.setIfInBounds_toArray]
        refine wpAnyH_take (i := 7) (v := ?_) rfl (by kernel_rfl) (by kernel_rfl) (by kernel_rfl) (fun _ _ _ h => h) (Or.inl ⟨by rfl, ?_⟩) (by assumption) ?_
        rotate_left
        · intro w hSw
          try dsimp only at hSw
          obtain ⟨hs0_, hs1_, hs2_, hs3_, hs4_, hs5_⟩ := hSw
          go_simp
          try with_reducible rfl
        try simp only [Act.put]
        try simp only [List.getElem_toArray, List.getElem_cons_zero, List.getElem_cons_succ, List.setIfInBounds_toArray, List.set_cons_zero, List.set_cons_succ]
        refine wpAnyH_take (i := 8) (v := ?_) rfl (by kernel_rfl) (by kernel_rfl) (by kernel_rfl) (fun _ _ _ h => h) (Or.inl ⟨by rfl, ?_⟩) (by assumption) ?_
        rotate_left
        · intro w hSw
          try dsimp only at hSw
          obtain ⟨hs0_, hs1_, hs2_, hs3_, hs4_, hs5_⟩ := hSw
          go_simp
          try with_reducible rfl
        try simp only [Act.put, List.setIfInBounds_toArray]
        try simp only [List.getElem_toArray, List.getElem_cons_zero, List.getElem_cons_succ, List.set_cons_zero, List.set_cons_succ]
        refine wpAnyH_take (i := 9) (v := ?_) rfl (by kernel_rfl) (by kernel_rfl) (by kernel_rfl) (fun _ _ _ h => h) (Or.inl ⟨by rfl, ?_⟩) (by assumption) ?_
        rotate_left
        · intro w hSw
          try dsimp only at hSw
          obtain ⟨hs0_, hs1_, hs2_, hs3_, hs4_, hs5_⟩ := hSw
          go_simp
          try with_reducible rfl
        try simp only [Act.put, List.setIfInBounds_toArray]
        try simp only [List.getElem_toArray, List.getElem_cons_zero, List.getElem_cons_succ, List.set_cons_zero, List.set_cons_succ]
        refine wpAnyH_take (i := 10) (v := ?_) rfl (by kernel_rfl) (by kernel_rfl) (by kernel_rfl) (fun _ _ _ h => h) (Or.inl ⟨by rfl, ?_⟩) (by assumption) ?_
        rotate_left
        · intro w hSw
          try dsimp only at hSw
          obtain ⟨hs0_, hs1_, hs2_, hs3_, hs4_, hs5_⟩ := hSw
          go_simp
          try with_reducible rfl
        try simp only [Act.put, List.setIfInBounds_toArray]
        try simp only [List.getElem_toArray, List.getElem_cons_zero, List.getElem_cons_succ, List.set_cons_zero, List.set_cons_succ]
        refine wpAnyH_take (i := 11) (v := ?_) rfl (by kernel_rfl) (by kernel_rfl) (by kernel_rfl) (fun _ _ _ h => h) (Or.inl ⟨by rfl, ?_⟩) (by assumption) ?_
        rotate_left
        · intro w hSw
          try dsimp only at hSw
          obtain ⟨hs0_, hs1_, hs2_, hs3_, hs4_, hs5_⟩ := hSw
          go_simp
          try with_reducible rfl
        try simp only [Act.put, List.setIfInBounds_toArray]
        try simp only [List.getElem_toArray, List.getElem_cons_zero, List.getElem_cons_succ, List.set_cons_zero, List.set_cons_succ]
        refine wpAnyH_take (i := 12) (v := ?_) rfl (by kernel_rfl) (by kernel_rfl) (by kernel_rfl) (fun _ _ _ h => h) (Or.inl ⟨by rfl, ?_⟩) (by assumption) ?_
        rotate_left
        · intro w hSw
          try dsimp only at hSw
          obtain ⟨hs0_, hs1_, hs2_, hs3_, hs4_, hs5_⟩ := hSw
          go_simp
          try with_reducible rfl
        try simp only [Act.put, List.setIfInBounds_toArray]
        try simp only [List.getElem_toArray, List.getElem_cons_zero, List.getElem_cons_succ, List.set_cons_zero, List.set_cons_succ]
        refine wpAnyH_take (i := 13) (v := ?_) rfl (by kernel_rfl) (by kernel_rfl) (by kernel_rfl) (fun _ _ _ h => h) (Or.inl ⟨by rfl, ?_⟩) (by assumption) ?_
        rotate_left
        · intro w hSw
          try dsimp only at hSw
          obtain ⟨hs0_, hs1_, hs2_, hs3_, hs4_, hs5_⟩ := hSw
          go_simp
          try with_reducible rfl
        try simp only [Act.put, List.setIfInBounds_toArray]
        try simp only [List.getElem_toArray, List.getElem_cons_zero, List.getElem_cons_succ, List.set_cons_zero, List.set_cons_succ]
        refine wpAnyH_take (i := 14) (v := ?_) rfl (by kernel_rfl) (by kernel_rfl) (by kernel_rfl) (fun _ _ _ h => h) (Or.inl ⟨by rfl, ?_⟩) (by assumption) ?_
        rotate_left
        · intro w hSw
          try dsimp only at hSw
          obtain ⟨hs0_, hs1_, hs2_, hs3_, hs4_, hs5_⟩ := hSw
          go_simp
          try with_reducible rfl
        try simp only [Act.put, List.setIfInBounds_toArray]
        try simp only [List.getElem_toArray, List.getElem_cons_zero, List.getElem_cons_succ, List.set_cons_zero, List.set_cons_succ]
        refine wpAnyH_ready (rs := [15]) (by kernel_rfl) (by simp) ?_
        refine AllReadyH.cons rfl (fun K hK => ?_) ?_
        · go_simp
          refine (last_any _ _ _ _ _ _ _ _ _ _ _ _ _ (by omega)).mono ?_
          rintro e W2 ⟨rfl, z2⟩
          have hp3 := hp2.trans (z2.mono hp2.size)
          have hbc := hb0.below' hp3
          refine hK.out _ _ ?_ (fun hHeld => ?_)
          · exact ⟨hbc.cell 0, hbc.cell 1, hbc.cell 2, hbc.cell 3, hbc.cell 4, hbc.cell 5⟩
          clear hK K
          try simp only [Act.put, List.setIfInBounds_toArray, List.set_cons_zero, List.set_cons_succ]
          try simp only [putAll, markAll, dstAt, Act.put, List.getElem_toArray, List.getElem?_toArray, List.getElem_cons_zero, List.getElem_cons_succ, List.getElem?_cons_zero, List.getElem?_cons_succ, Option.bind_some, List.setIfInBounds_toArray, List.set_cons_zero, List.set_cons_succ]
          refine wpAnyH_take (i := 16) (v := ?_) rfl (by kernel_rfl) (by kernel_rfl) (by kernel_rfl) (fun _ _ _ h => h) (Or.inl ⟨by rfl, ?_⟩) (by assumption) ?_
          rotate_left
          · intro w hSw
            try dsimp only at hSw
            obtain ⟨hs0_, hs1_, hs2_, hs3_, hs4_, hs5_⟩ := hSw
            go_simp
            try with_reducible rfl
          try simp only [Act.put, List.setIfInBounds_toArray]
          refine wpAnyH_take (i := 17) (v := ?_) rfl (by kernel_rfl) (by kernel_rfl) (by kernel_rfl) (fun _ _ _ h => h) (Or.inl ⟨by rfl, ?_⟩) (by assumption) ?_
          rotate_left
          · intro w hSw
            try dsimp only at hSw
            obtain ⟨hs0_, hs1_, hs2_, hs3_, hs4_, hs5_⟩ := hSw
            go_simp
            try with_reducible rfl
          try simp only [Act.put]
          try simp only [List.getElem_toArray, List.getElem_cons_zero, List.getElem_cons_succ, List.setIfInBounds_toArray, List.set_cons_zero, List.set_cons_succ]
          refine wpAnyH_ready (rs := [18]) (by kernel_rfl) (by simp) ?_
          refine AllReadyH.cons rfl (fun K hK => ?_) ?_
          · go_simp
            refine hK.out _ _ ?_ (fun hHeld => ?_)
            · exact ⟨hbc.cell 0, hbc.cell 1, hbc.cell 2, hbc.cell 3, hbc.cell 4, hbc.cell 5⟩
            clear hK K
            try simp only [Act.put, List.setIfInBounds_toArray, List.set_cons_zero, List.set_cons_succ]
            refine wpAnyH_done (by kernel_rfl) ?_ _
            refine NoPanic.normal ?_
            have HFIN : Hid (FmBox W2 lo g res) := Lib.hid (by
              rw [HRV.out]
              exact ⟨_, c, ts, B, d, us, C, k, hbc, ⟨hO0.below hp3, rfl, rfl⟩, hlg⟩)
            have hz7 : Below lo w W2 := hpl.trans (hp3.mono (Nat.le_trans hw hs0))
            go_wp2_with fail
            go_end0
            exact ⟨⟨_, rfl⟩, HFIN.out, hz7, FrF.below (hp.trans (hp3.mono hs0))⟩
          exact AllReadyH.nil
        exact AllReadyH.nil
      exact AllReadyH.nil
    have HRV : Hid (res = ⟨q, (hN : Int), (t.xs.length : Int), (nums ts).set hN (t.xs ++ [0]), nums us, os⟩) := Lib.hid (by rw [HRES.out, if_neg hc1, if_pos ⟨rfl, hc4⟩])
    have hd4 : ((hN : Int) == (ts.length : Int) - 1) = true := by simpa using hc4
    clear hc1 hc4
    go_upto_region 3 with fail
    have hp2 : Below W0.heap.size W0 W0.drew := below_drewN (Below.refl _ _) 1
    refine wp_region_noPanic ?_
    refine wp_region_held_drew (S := (fun w' => w'.cell? ⟨g, 0, none⟩ = some (.int .i64 q) ∧ w'.cell? ⟨g, 1, none⟩ = some (.int .i64 (hN : Int)) ∧ w'.cell? ⟨g, 2, none⟩ = some (.int .i64 (t.xs.length : Int)) ∧ w'.cell? ⟨g, 3, none⟩ = some (.slice (some ⟨bb, off, none⟩) ts.length c) ∧ w'.cell? ⟨g, 4, none⟩ = some (.slice B us.length d) ∧ w'.cell? ⟨g, 5, none⟩ = some (.slice C os.length k))) (by kernel_rfl) ?_ (fun hHeld => ?_)
    · exact ⟨(hb0.below' hp2).cell 0, (hb0.below' hp2).cell 1, (hb0.below' hp2).cell 2, (hb0.below' hp2).cell 3, (hb0.below' hp2).cell 4, (hb0.below' hp2).cell 5⟩
    generalize W0.drew = Wd at *
    refine wpAnyH_take (i := 0) (v := ?_) rfl (by kernel_rfl) (by kernel_rfl) (by kernel_rfl) (fun _ _ _ h => h) (Or.inl ⟨by rfl, ?_⟩) (by assumption) ?_
    rotate_left
    · intro w hSw
      try dsimp only at hSw
      obtain ⟨hs0_, hs1_, hs2_, hs3_, hs4_, hs5_⟩ := hSw
      go_simp
      try with_reducible rfl
    try simp only [Act.put, List.setIfInBounds_toArray]
    refine wpAnyH_take (i := 1) (v := ?_) rfl (by kernel_rfl) (by kernel_rfl) (by kernel_rfl) (fun _ _ _ h => h) (Or.inl ⟨by rfl, ?_⟩) (by assumption) ?_
    rotate_left
    · intro w hSw
      try dsimp only at hSw
      obtain ⟨hs0_, hs1_, hs2_, hs3_, hs4_, hs5_⟩ := hSw
      go_simp
      try with_reducible rfl
    try simp only [Act.put]
    refine wpAnyH_take (i := 2) (v := ?_) rfl (by kernel_rfl) (by kernel_rfl) (by kernel_rfl) (fun _ _ _ h => h) (Or.inl ⟨by rfl, ?_⟩) (by assumption) ?_
    rotate_left
    · intro w hSw
      try dsimp only at hSw
      obtain ⟨hs0_, hs1_, hs2_, hs3_, hs4_, hs5_⟩ := hSw
      go_simp
      try with_reducible rfl
    try simp only [Act.put]
    refine wpAnyH_take (i := 3) (v := ?_) rfl (by kernel_rfl) (by kernel_rfl) (by kernel_rfl) (fun _ _ _ h => h) (Or.inl ⟨by rfl, ?_⟩) (by assumption) ?_
    rotate_left
    · intro w hSw
      try dsimp only at hSw
      obtain ⟨hs0_, hs1_, hs2_, hs3_, hs4_, hs5_⟩ := hSw
      go_simp
      try with_reducible rfl
    try simp only [Act.put]
    refine wpAnyH_take (i := 4) (v := ?_) rfl (by kernel_rfl) (by kernel_rfl) (by kernel_rfl) (fun _ _ _ h => h) (Or.inl ⟨by rfl, ?_⟩) (by assumption) ?_
    rotate_left
    · intro w hSw
      try dsimp only at hSw
      obtain ⟨hs0_, hs1_, hs2_, hs3_, hs4_, hs5_⟩ := hSw
      go_simp
      try with_reducible rfl
    try simp only [Act.put]
    try simp only [List.getElem_toArray, List.getElem_cons_zero, List.getElem_cons_succ, List.setIfInBounds_toArray, List.set_cons_zero, List.set_cons_succ]
    refine wpAnyH_ready (rs := [5]) (by kernel_rfl) (by simp) ?_
    refine AllReadyH.cons rfl (fun K hK => ?_) ?_
    · go_simp
      refine (sizeI_any _ _ _ _ (by omega)).mono ?_
      rintro e W1 ⟨rfl, rfl⟩
      have hbc := hb0.below' hp2
      refine hK.out _ _ ?_ (fun hHeld => ?_)
      · exact ⟨hbc.cell 0, hbc.cell 1, hbc.cell 2, hbc.cell 3, hbc.cell 4, hbc.cell 5⟩
      clear hK K
      try simp only [Act.put, List.setIfInBounds_toArray, List.set_cons_zero, List.set_cons_succ]
      refine wpAnyH_take (i := 6) (v := ?_) rfl (by kernel_rfl) (by kernel_rfl) (by kernel_rfl) (fun _ _ _ h => h) (Or.inl ⟨by rfl, ?_⟩) (by assumption) ?_
      rotate_left
      · intro w hSw
        try dsimp only at hSw
        obtain ⟨hs0_, hs1_, hs2_, hs3_, hs4_, hs5_⟩ := hSw
        go_simp
        try with_reducible rfl
      try simp only [Act.put, List.setIfInBounds_toArray]
      refine wpAnyH_take (i := 7) (v := ?_) rfl (by kernel_rfl) (by kernel_rfl) (by kernel_rfl) (fun _ _ _ h => h) (Or.inl ⟨by rfl, ?_⟩) (by assumption) ?_
      rotate_left
      · intro w hSw
        try dsimp only at hSw
        obtain ⟨hs0_, hs1_, hs2_, hs3_, hs4_, hs5_⟩ := hSw
        go_simp
        try with_reducible rfl
      try simp only [Act.put]
      try simp only [List.getElem_toArray, List.getElem_cons_zero, List.getElem_cons_succ, List.setIfInBounds_toArray, List.set_cons_zero, List.set_cons_succ]
      refine wpAnyH_take (i := 8) (v := ?_) rfl (by kernel_rfl) (by kernel_rfl) (by kernel_rfl) (fun _ _ _ h => h) (Or.inl ⟨by rfl, ?_⟩) (by assumption) ?_
      rotate_left
      · intro w hSw
        try dsimp only at hSw
        obtain ⟨hs0_, hs1_, hs2_, hs3_, hs4_, hs5_⟩ := hSw
        go_simp
        try with_reducible rfl
      try simp only [Act.put, List.setIfInBounds_toArray]
      try simp only [List.getElem_toArray, List.getElem_cons_zero, List.getElem_cons_succ, List.set_cons_zero, List.set_cons_succ]
      refine wpAnyH_take (i := 9) (v := ?_) rfl (by kernel_rfl) (by kernel_rfl) (by kernel_rfl) (fun _ _ _ h => h) (Or.inl ⟨by rfl, ?_⟩) (by assumption) ?_
      rotate_left
      · intro w hSw
        try dsimp only at hSw
        obtain ⟨hs0_, hs1_, hs2_, hs3_, hs4_, hs5_⟩ := hSw
        go_simp
        try with_reducible rfl
      try simp only [Act.put, List.setIfInBounds_toArray]
      try simp only [List.getElem_toArray, List.getElem_cons_zero, List.getElem_cons_succ, List.set_cons_zero, List.set_cons_succ]
      refine wpAnyH_take (i := 10) (v := ?_) rfl (by kernel_rfl) (by kernel_rfl) (by kernel_rfl) (fun _ _ _ h => h) (Or.inl ⟨by rfl, ?_⟩) (by assumption) ?_
      rotate_left
      · intro w hSw
        try dsimp only at hSw
        obtain ⟨hs0_, hs1_, hs2_, hs3_, hs4_, hs5_⟩ := hSw
        go_simp
        try with_reducible rfl
      try simp only [Act.put, List.setIfInBounds_toArray]
      try simp only [List.getElem_toArray, List.getElem_cons_zero, List.getElem_cons_succ, List.set_cons_zero, List.set_cons_succ]
      refine wpAnyH_take (i := 11) (v := ?_) rfl (by kernel_rfl) (by kernel_rfl) (by kernel_rfl) (fun _ _ _ h => h) (Or.inl ⟨by rfl, ?_⟩) (by assumption) ?_
      rotate_left
      · intro w hSw
        try dsimp only at hSw
        obtain ⟨hs0_, hs1_, hs2_, hs3_, hs4_, hs5_⟩ := hSw
        go_simp
        try with_reducible rfl
      try simp only [Act.put, List.setIfInBounds_toArray]
      try simp only [List.getElem_toArray, List.getElem_cons_zero, List.getElem_cons_succ, List.set_cons_zero, List.set_cons_succ]
      refine wpAnyH_take (i := 12) (v := ?_) rfl (by kernel_rfl) (by kernel_rfl) (by kernel_rfl) (fun _ _ _ h => h) (Or.inl ⟨by rfl, ?_⟩) (by assumption) ?_
      rotate_left
      · intro w hSw
        try dsimp only at hSw
        obtain ⟨hs0_, hs1_, hs2_, hs3_, hs4_, hs5_⟩ := hSw
        go_simp
        try with_reducible rfl
      try simp only [Act.put, List.setIfInBounds_toArray]
      try simp only [List.getElem_toArray, List.getElem_cons_zero, List.getElem_cons_succ, List.set_cons_zero, List.set_cons_succ]
      refine wpAnyH_take (i := 13) (v := ?_) rfl (by kernel_rfl) (by kernel_rfl) (by kernel_rfl) (fun _ _ _ h => h) (Or.inl ⟨by rfl, ?_⟩) (by assumption) ?_
      rotate_left
      · intro w hSw
        try dsimp only at hSw
        obtain ⟨hs0_, hs1_, hs2_, hs3_, hs4_, hs5_⟩ := hSw
        go_simp
        try with_reducible rfl
      try simp only [Act.put, List.setIfInBounds_toArray]
      try simp only [List.getElem_toArray, List.getElem_cons_zero, List.getElem_cons_succ, List.set_cons_zero, List.set_cons_succ]
      refine wpAnyH_take (i := 14) (v := ?_) rfl (by kernel_rfl) (by kernel_rfl) (by kernel_rfl) (fun _ _ _ h => h) (Or.inl ⟨by rfl, ?_⟩) (by assumption) ?_
      rotate_left
      · intro w hSw
        try dsimp only at hSw
        obtain ⟨hs0_, hs1_, hs2_, hs3_, hs4_, hs5_⟩ := hSw
        go_simp
        try with_reducible rfl
      try simp only [Act.put, List.setIfInBounds_toArray]
      try simp only [List.getElem_toArray, List.getElem_cons_zero, List.getElem_cons_succ, List.set_cons_zero, List.set_cons_succ]
      refine wpAnyH_ready (rs := [15]) (by kernel_rfl) (by simp) ?_
      refine AllReadyH.cons rfl (fun K hK => ?_) ?_
      · go_simp
        refine (last_any _ _ _ _ _ _ _ _ _ _ _ _ _ (by omega)).mono ?_
        rintro e W2 ⟨rfl, z2⟩
        have hp3 := hp2.trans (z2.mono hp2.size)
        have hbc := hb0.below' hp3
        refine hK.out _ _ ?_ (fun hHeld => ?_)
        · exact ⟨hbc.cell 0, hbc.cell 1, hbc.cell 2, hbc.cell 3, hbc.cell 4, hbc.cell 5⟩
        clear hK K
        try simp only [Act.put, List.setIfInBounds_toArray, List.set_cons_zero, List.set_cons_succ]
        try simp only [putAll, markAll, dstAt, Act.put, List.getElem_toArray, List.getElem?_toArray, List.getElem_cons_zero, List.getElem_cons_succ, List.getElem?_cons_zero, List.getElem?_cons_succ, Option.bind_some, List.setIfInBounds_toArray, List.set_cons_zero, List.set_cons_succ]
        refine wpAnyH_take (i := 16) (v := ?_) rfl (by kernel_rfl) (by kernel_rfl) (by kernel_rfl) (fun _ _ _ h => h) (Or.inl ⟨by rfl, ?_⟩) (by assumption) ?_
        rotate_left
        · intro w hSw
          try dsimp only at hSw
          obtain ⟨hs0_, hs1_, hs2_, hs3_, hs4_, hs5_⟩ := hSw
          go_simp
          try with_reducible rfl
        try simp only [Act.put, List.setIfInBounds_toArray]
        refine wpAnyH_take (i := 17) (v := ?_) rfl (by kernel_rfl) (by kernel_rfl) (by kernel_rfl) (fun _ _ _ h => h) (Or.inl ⟨by rfl, ?_⟩) (by assumption) ?_
        rotate_left
        · intro w hSw
          try dsimp only at hSw
          obtain ⟨hs0_, hs1_, hs2_, hs3_, hs4_, hs5_⟩ := hSw
          go_simp
          try with_reducible rfl
        try simp only [Act.put]
        try simp only [List.getElem_toArray, List.getElem_cons_zero, List.getElem_cons_succ, List.setIfInBounds_toArray, List.set_cons_zero, List.set_cons_succ]
        refine wpAnyH_ready (rs := [18]) (by kernel_rfl) (by simp) ?_
        refine AllReadyH.cons rfl (fun K hK => ?_) ?_
        · go_simp
          refine hK.out _ _ ?_ (fun hHeld => ?_)
          · exact ⟨hbc.cell 0, hbc.cell 1, hbc.cell 2, hbc.cell 3, hbc.cell 4, hbc.cell 5⟩
          clear hK K
          try simp only [Act.put, List.setIfInBounds_toArray, List.set_cons_zero, List.set_cons_succ]
          refine wpAnyH_done (by kernel_rfl) ?_ _
          refine NoPanic.normal ?_
          have hO3 := hO0.below hp3
          have fr3 : FrF w W2 := FrF.below (hp.trans (hp3.mono hs0))
          have hz3 : Below lo w W2 := hpl.trans (hp3.mono (Nat.le_trans hw hs0))
          have hw3 : lo ≤ W2.heap.size := Nat.le_trans hw hz3.size
          clear z2 hp3 hp2 hb0 hO0 hpl HR0 v0 v1 v2 v3 v4 v5
          have v0 : W2.cell? ⟨g, 0, none⟩ = some (.int .i64 q) := hbc.cell 0
          have v1 : W2.cell? ⟨g, 1, none⟩ = some (.int .i64 (hN : Int)) := hbc.cell 1
          have v2 : W2.cell? ⟨g, 2, none⟩ = some (.int .i64 (t.xs.length : Int)) := hbc.cell 2
          have v3 : W2.cell? ⟨g, 3, none⟩ = some (.slice (some ⟨bb, off, none⟩) ts.length c) := hbc.cell 3
          have v4 : W2.cell? ⟨g, 4, none⟩ = some (.slice B us.length d) := hbc.cell 4
          have v5 : W2.cell? ⟨g, 5, none⟩ = some (.slice C os.length k) := hbc.cell 5
          go_upto_region 4 with fail
          have hp4 : Below W2.heap.size W2 W2.drew := below_drewN (Below.refl _ _) 1
          refine wp_region_noPanic ?_
          refine wp_region_held_drew (S := (fun w' => w'.cell? ⟨g, 3, none⟩ = some (.slice (some ⟨bb, off, none⟩) ts.length c) ∧ w'.cell? ⟨g, 1, none⟩ = some (.int .i64 (hN : Int)))) (by kernel_rfl) ?_ (fun hHeld => ?_)
          · exact ⟨(hbc.below' hp4).cell 3, (hbc.below' hp4).cell 1⟩
          generalize hWq : W2.drew = Wq at *
          refine wpAnyH_take (i := 0) (v := ?_) rfl (by kernel_rfl) (by kernel_rfl) (by kernel_rfl) (fun _ _ _ h => h) (Or.inl ⟨by rfl, ?_⟩) (by assumption) ?_
          rotate_left
          · intro w hSw
            try dsimp only at hSw
            obtain ⟨hs0_, hs1_⟩ := hSw
            go_simp
            try with_reducible rfl
          try simp only [Act.put, List.setIfInBounds_toArray]
          refine wpAnyH_take (i := 1) (v := ?_) rfl (by kernel_rfl) (by kernel_rfl) (by kernel_rfl) (fun _ _ _ h => h) (Or.inl ⟨by rfl, ?_⟩) (by assumption) ?_
          rotate_left
          · intro w hSw
            try dsimp only at hSw
            obtain ⟨hs0_, hs1_⟩ := hSw
            go_simp
            try with_reducible rfl
          try simp only [Act.put]
          refine wpAnyH_take (i := 2) (v := ?_) rfl (by kernel_rfl) (by kernel_rfl) (by kernel_rfl) (fun _ _ _ h => h) (Or.inl ⟨by rfl, ?_⟩) (by assumption) ?_
          rotate_left
          · intro w hSw
            try dsimp only at hSw
            obtain ⟨hs0_, hs1_⟩ := hSw
            go_simp
            try with_reducible rfl
          try simp only [Act.put]
          refine wpAnyH_take (i := 3) (v := ?_) rfl (by kernel_rfl) (by kernel_rfl) (by kernel_rfl) (fun _ _ _ h => h) (Or.inl ⟨by rfl, ?_⟩) (by assumption) ?_
          rotate_left
          · intro w hSw
            try dsimp only at hSw
            obtain ⟨hs0_, hs1_⟩ := hSw
            go_simp
            try with_reducible rfl
          try simp only [Act.put]
          refine wpAnyH_take (i := 4) (v := ?_) rfl (by kernel_rfl) (by kernel_rfl) (by kernel_rfl) (fun _ _ _ h => h) (Or.inl ⟨by rfl, ?_⟩) (by assumption) ?_
          rotate_left
          · intro w hSw
            try dsimp only at hSw
            obtain ⟨hs0_, hs1_⟩ := hSw
            go_simp
            try with_reducible rfl
          try simp only [Act.put]
          refine wpAnyH_take (i := 5) (v := ?_) rfl (by kernel_rfl) (by kernel_rfl) (by kernel_rfl) (fun _ _ _ h => h) (Or.inl ⟨by rfl, ?_⟩) (by assumption) ?_
          rotate_left
          · intro w hSw
            try dsimp only at hSw
            obtain ⟨hs0_, hs1_⟩ := hSw
            go_simp
            try with_reducible rfl
          try simp only [Act.put]
          refine wpAnyH_take (i := 6) (v := ?_) rfl (by kernel_rfl) (by kernel_rfl) (by kernel_rfl) (fun _ _ _ h => h) (Or.inl ⟨by rfl, ?_⟩) (by assumption) ?_
          rotate_left
          · intro w hSw
            try dsimp only at hSw
            obtain ⟨hs0_, hs1_⟩ := hSw
            go_simp
            try with_reducible rfl
          try simp only [Act.put]
          refine wpAnyH_take (i := 7) (v := ?_) rfl (by kernel_rfl) (by kernel_rfl) (by kernel_rfl) (fun _ _ _ h => h) (Or.inl ⟨by rfl, ?_⟩) (by assumption) ?_
          rotate_left
          · intro w hSw
            try dsimp only at hSw
            obtain ⟨hs0_, hs1_⟩ := hSw
            go_simp
            try with_reducible rfl
          try simp only [Act.put]
          refine wpAnyH_take (i := 8) (v := ?_) rfl (by kernel_rfl) (by kernel_rfl) (by kernel_rfl) (fun _ _ _ h => h) (Or.inl ⟨by rfl, ?_⟩) (by assumption) ?_
          rotate_left
          · intro w hSw
            try dsimp only at hSw
            obtain ⟨hs0_, hs1_⟩ := hSw
            go_simp
            try with_reducible rfl
          try simp only [Act.put]
          try simp only [List.getElem_toArray, List.getElem_cons_zero, List.getElem_cons_succ, List.setIfInBounds_toArray, List.set_cons_zero, List.set_cons_succ]
          refine wpAnyH_ready (rs := [9]) (by kernel_rfl) (by simp) ?_
          refine AllReadyH.cons rfl (fun K hK => ?_) ?_
          · go_simp
            obtain ⟨W5, g5, hW5, hg5, z5, h5, l5, hp5⟩ := alloc_pack3 hp4 hp4.size #[.int .i64 0] 2
            rw [hW5]
            subst hg5
            have hb5 := hbc.below' hp5
            have hO5 := hO3.below hp5
            have hrw := hO5.1.2.1 t HTM.out
            have hb6 := hb5
            refine hK.out _ _ ?_ (fun hHeld => ?_)
            · exact ⟨hb6.cell 3, hb6.cell 1⟩
            clear hK K
            try simp only [Act.put, List.setIfInBounds_toArray, List.set_cons_zero, List.set_cons_succ]
            try simp only [putAll, markAll, dstAt, Act.put, List.getElem_toArray, List.getElem?_toArray, List.getElem_cons_zero, List.getElem_cons_succ, List.getElem?_cons_zero, List.getElem?_cons_succ, Option.bind_some, List.setIfInBounds_toArray, List.set_cons_zero, List.set_cons_succ]
            refine wpAnyH_ready (rs := [10]) (by kernel_rfl) (by simp) ?_
            refine AllReadyH.cons rfl (fun K hK => ?_) ?_
            · rw [if_pos (by rfl)]
              refine wp_append_Own (.tmp 65) (.tmp 66) rfl elI (lo := lo) rfl hrw rfl (Rd.blk1 h5) (ints_one [0]) (by omega) (by simp only [maxLen]; omega) (Nat.le_trans hw3 hp5.size) ?_
              intro A8 c8 w8 ho8 hg8 hw8
              have hz8 : Below lo w w8 := hrw.below_of (hz3.trans (hp5.mono hw3)) hg8 (Nat.le_trans hw3 hp5.size)
              have fr8 : FrF w w8 := (fr3.trans (FrF.below hp5)).grow hrw hg8
              have hb8 := hb5.growt hrw hg8 (by decide)
              have hb6 := hb8
              have hsp8 : Own w8 lo 26 1 (some ⟨bb, off, none⟩) ts.length c (ts.map Sl.val) := hO5.1.1.grown hg8 (fun gg hg' hb' => hrw.blk_ne hO5.1.1 (by decide) gg hg' hb')
              obtain ⟨bb', off', he, _, _, hcs, hfs⟩ := hsp8.at_ (k := hN) (by simpa using i3)
              cases he
              have hO9 : FmO (w8.setCell ⟨bb, off + hN, none⟩ (.slice A8 (t.xs.length + 1) c8)) lo (some ⟨bb, off, none⟩) c (ts.set hN ⟨A8, c8, t.xs ++ [0]⟩) B d us C k os := by
                have := hO5.growW HTT.out (u := ⟨A8, c8, t.xs ++ [0]⟩) rfl (by simpa [ints] using ho8) hg8 hw8.1
                simpa [Sl.val] using this
              refine hK.out _ _ ?_ (fun hHeld => ?_)
              · exact ⟨hb6.cell 3, hb6.cell 1⟩
              clear hK K
              try simp only [Act.put, List.setIfInBounds_toArray]
              refine wpAnyH_take (i := 11) (v := ?_) rfl (by kernel_rfl) (by kernel_rfl) (by kernel_rfl) (fun _ _ _ h => h) (Or.inl ⟨by rfl, ?_⟩) (by assumption) ?_
              rotate_left
              · intro w hSw
                try dsimp only at hSw
                obtain ⟨hs0_, hs1_⟩ := hSw
                go_simp
                try with_reducible rfl
              try simp only [Act.put]
              try simp only [List.getElem_toArray, List.getElem_cons_zero, List.getElem_cons_succ, List.setIfInBounds_toArray, List.set_cons_zero, List.set_cons_succ]
              refine wpAnyH_ready (rs := [12]) (by kernel_rfl) (by simp) ?_
              refine AllReadyH.cons rfl (fun K hK => ?_) ?_
              · go_simp
                have hbd := hb8.far (p := ⟨bb, off + hN, none⟩) hgb (.slice A8 (t.xs.length + 1) c8)
                have hz9 : Below lo w (w8.setCell ⟨bb, off + hN, none⟩ (.slice A8 (t.xs.length + 1) c8)) := hz8.setCell (hO3.1.1.blk_ge bb rfl) _
                have fr9 := fr8.setS (b := bb) (i := off + hN) hsp8 (.slice A8 (t.xs.length + 1) c8)
                generalize w8.setCell ⟨bb, off + hN, none⟩ (.slice A8 (t.xs.length + 1) c8) = W9 at *
                have hb6 := hbd
                refine hK.out _ _ ?_ (fun hHeld => ?_)
                · exact ⟨hb6.cell 3, hb6.cell 1⟩
                clear hK K
                try simp only [Act.put, List.setIfInBounds_toArray]
                refine wpAnyH_done (by kernel_rfl) ?_ _
                refine NoPanic.normal ?_
                have hbf : Blk W9 g 31 #[.int .i64 q, .int .i64 (hN : Int), .int .i64 (t.xs.length : Int), .slice (some ⟨bb, off, none⟩) (ts.set hN ⟨A8, c8, t.xs ++ [0]⟩).length c, .slice B us.length d, .slice C os.length k] := by
                  rw [List.length_set]
                  exact hbd
                have HFIN : Hid (FmBox W9 lo g res) := Lib.hid (by
                  rw [HRV.out]
                  exact ⟨_, c, _, B, d, us, C, k, hbf, ⟨hO9, by rw [nums_set], rfl⟩, hlg⟩)
                go_wp2_with fail
                go_end0
                exact ⟨⟨_, rfl⟩, HFIN.out, hz9, fr9⟩
              exact AllReadyH.nil
            exact AllReadyH.nil
          exact AllReadyH.nil
        exact AllReadyH.nil
      exact AllReadyH.nil
    exact AllReadyH.nil
  exact AllReadyH.nil
end Go.Proofs.Ytbpofkggoolmpaa
