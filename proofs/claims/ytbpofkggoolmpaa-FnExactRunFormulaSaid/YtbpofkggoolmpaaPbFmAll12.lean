/-
  Contract of the reference's copy of a formula tape.
-/
import Derived.Test.YtbpofkggoolmpaaPbFmAll1
import Derived.Test.YtbpofkggoolmpaaPbFmAll8
namespace Go.Proofs.Ytbpofkggoolmpaa
open Go.RowKit

def NewFmV (w : World) (f : Fm) (e : Ending) (w' : World) : Prop :=
  ∃ A c ts B d us C k, e = .returned (.agg #[.int .i64 f.q, .int .i64 f.h, .int .i64 f.a, .slice A ts.length c, .slice B us.length d, .slice C f.O.length k]) ∧ FmR w' w.heap.size f A c ts B d us C k ∧ Below w.heap.size w w'
/-- What was copied so far. -/
def OwS (w : World) (g3 : Nat) (q h a : Int) (xss yss : List (List Int)) (os : List Int) (i j : Nat) (wr : World) : Prop :=
  ∃ (A : Option Addr) (c : Nat) (ts : List Sl) (B : Option Addr) (d : Nat) (us : List Sl) (C : Option Addr) (k : Nat), Blk wr g3 31 #[.int .i64 q, .int .i64 h, .int .i64 a, .slice A ts.length c, .slice B us.length d, .slice C os.length k] ∧ Blk wr w.heap.size 31 #[.int .i64 0, .int .i64 0, .int .i64 0, .slice none 0 0, .slice none 0 0, .slice none 0 0] ∧ FmO wr w.heap.size A c ts B d us C k os ∧ nums ts = xss.take i ∧ nums us = yss.take j ∧ Below w.heap.size w wr

theorem FmO.lits {w : World} {lo l3 a b : Nat} {C : Option Addr} {k : Nat} {os : List Int} (ha : Blk w a 26 #[]) (hb : Blk w b 26 #[]) (hC : Own w l3 2 1 C os.length k (ints os)) (la : lo ≤ a) (lb : lo ≤ b) (lc : lo ≤ l3) (hne : a ≠ b) : FmO w lo (some ⟨a, 0, none⟩) 0 [] (some ⟨b, 0, none⟩) 0 [] C k os :=
  have own : ∀ {g : Nat}, Blk w g 26 #[] → lo ≤ g → Own w lo 26 1 (some ⟨g, 0, none⟩) 0 0 [] := fun h hl => ⟨by simp, .inr ⟨_, 0, #[], rfl, hl, h, Nat.le_refl _, by simp [maxLen], by simp, fun k hk => absurd hk (by simp)⟩⟩
  ⟨⟨own ha la, by simp, List.Pairwise.nil⟩, ⟨own hb lb, by simp, List.Pairwise.nil⟩, hC.mono lc, ⟨fun _ ⟨_, ht, _⟩ => absurd ht List.not_mem_nil, fun _ ⟨_, ht, _⟩ => absurd ht List.not_mem_nil, fun _ ⟨_, ht, _⟩ => absurd ht List.not_mem_nil, fun k h1 h2 => hne (by simp [blk] at h1 h2; omega)⟩⟩

set_option maxRecDepth 100000 in
set_option maxHeartbeats 8000000 in
theorem l27Own_any (g : Nat) (q hd a : Int) (A : Option Addr) (n c : Nat) (ts : List Sl) (B : Option Addr) (m d : Nat) (us : List Sl) (C : Option Addr) (l0 k0 : Nat) (os : List Int) (w : World) (hg : FmAt w g ⟨q, hd, a, nums ts, nums us, os⟩ A n c B m d C l0 k0) (hx : SII w A n ts) (hy : SII w B m us) (hz : SI w C l0 os) (hn : n ≤ 1048576) (hm : m ≤ 1048576) (hl : l0 ≤ 1048576) (hns : ∀ t ∈ ts, t.xs.length ≤ 1048576) (hms : ∀ t ∈ us, t.xs.length ≤ 1048576) :
    Calls Try.prog 103 #[.pointer (some ⟨g, 0, none⟩)] w (NewFmV w ⟨q, hd, a, nums ts, nums us, os⟩) := by
  obtain ⟨v0, v1, v2, v3, v4, v5⟩ := hg
  have hgl : g < w.heap.size := World.block_lt_of_cell? w _ v0
  have KF : Hid (∀ W', Below w.heap.size w W' → W'.cell? ⟨g, 0, none⟩ = some (.int .i64 q) ∧ W'.cell? ⟨g, 1, none⟩ = some (.int .i64 hd) ∧ W'.cell? ⟨g, 2, none⟩ = some (.int .i64 a) ∧ W'.cell? ⟨g, 3, none⟩ = some (.slice A n c) ∧ W'.cell? ⟨g, 4, none⟩ = some (.slice B m d) ∧ W'.cell? ⟨g, 5, none⟩ = some (.slice C l0 k0)) := Lib.hid (fun W' z => ⟨(z.cell (p := ⟨g, 0, none⟩) hgl).trans v0, (z.cell (p := ⟨g, 1, none⟩) hgl).trans v1, (z.cell (p := ⟨g, 2, none⟩) hgl).trans v2, (z.cell (p := ⟨g, 3, none⟩) hgl).trans v3, (z.cell (p := ⟨g, 4, none⟩) hgl).trans v4, (z.cell (p := ⟨g, 5, none⟩) hgl).trans v5⟩)
  have KS : Hid (∀ W', Below w.heap.size w W' → W'.cell? ⟨g, 0, none⟩ = some (.int .i64 q) ∧ W'.cell? ⟨g, 1, none⟩ = some (.int .i64 hd) ∧ W'.cell? ⟨g, 2, none⟩ = some (.int .i64 a) ∧ W'.cell? ⟨g, 5, none⟩ = some (.slice C l0 k0)) := Lib.hid (fun W' z => ⟨(KF.out W' z).1, (KF.out W' z).2.1, (KF.out W' z).2.2.1, (KF.out W' z).2.2.2.2.2⟩)
  have HX := Lib.hid hx
  have HY := Lib.hid hy
  have HZ := Lib.hid hz
  have HNS := Lib.hid hns
  have HMS := Lib.hid hms
  have HTL := Lib.hid hx.len
  have HUL := Lib.hid hy.len
  have HOL := Lib.hid hz.len
  clear v0 v1 v2 v3 v4 v5 hx hy hz hns hms
  obtain ⟨W, hW_⟩ : ∃ W, W = w.alloc (.cells #[.int .i64 0, .int .i64 0, .int .i64 0, .slice none 0 0, .slice none 0 0, .slice none 0 0] 31) := ⟨_, rfl⟩
  have b2 : Blk W w.heap.size 31 #[.int .i64 0, .int .i64 0, .int .i64 0, .slice none 0 0, .slice none 0 0, .slice none 0 0] := by rw [hW_]; exact Blk.new w _ _
  have y0 : Below w.heap.size w W := by rw [hW_]; exact (Below.refl _ _).alloc (Nat.le_refl _) _
  have HW := Lib.hid hW_
  clear hW_
  go_enter Try.func103, Try.ntmps103
  go_upto_region 1 with fail
  rw [← HW.out]
  have hp0 : Below W.heap.size W W.drew := below_drewN (Below.refl _ _) 1
  refine wp_region_noPanic ?_
  refine wp_region_held_drew (S := (fun w' => w'.cell? ⟨g, 0, none⟩ = some (.int .i64 q) ∧ w'.cell? ⟨g, 1, none⟩ = some (.int .i64 hd) ∧ w'.cell? ⟨g, 2, none⟩ = some (.int .i64 a) ∧ w'.cell? ⟨g, 5, none⟩ = some (.slice C l0 k0))) (by kernel_rfl) ?_ (fun hHeld => ?_)
  · exact KS.out _ (y0.trans (hp0.mono y0.size))
  generalize W.drew = Wc at *
  refine wpAnyH_take (i := 0) (v := ?_) rfl (by kernel_rfl) (by kernel_rfl) (by kernel_rfl) (fun _ _ _ h => h) (Or.inl ⟨by rfl, ?_⟩) (by assumption) ?_
  rotate_left
  · intro w hSw
    try dsimp only at hSw
    obtain ⟨hs0_, hs1_, hs2_, hs3_⟩ := hSw
    go_simp
    try with_reducible rfl
  try simp only [Act.put, List.setIfInBounds_toArray]
  refine wpAnyH_take (i := 1) (v := ?_) rfl (by kernel_rfl) (by kernel_rfl) (by kernel_rfl) (fun _ _ _ h => h) (Or.inl ⟨by rfl, ?_⟩) (by assumption) ?_
  rotate_left
  · intro w hSw
    try dsimp only at hSw
    obtain ⟨hs0_, hs1_, hs2_, hs3_⟩ := hSw
    go_simp
    try with_reducible rfl
  try simp only [Act.put]
  refine wpAnyH_take (i := 2) (v := ?_) rfl (by kernel_rfl) (by kernel_rfl) (by kernel_rfl) (fun _ _ _ h => h) (Or.inl ⟨by rfl, ?_⟩) (by assumption) ?_
  rotate_left
  · intro w hSw
    try dsimp only at hSw
    obtain ⟨hs0_, hs1_, hs2_, hs3_⟩ := hSw
    go_simp
    try with_reducible rfl
  try simp only [Act.put]
  refine wpAnyH_take (i := 3) (v := ?_) rfl (by kernel_rfl) (by kernel_rfl) (by kernel_rfl) (fun _ _ _ h => h) (Or.inl ⟨by rfl, ?_⟩) (by assumption) ?_
  rotate_left
  · intro w hSw
    try dsimp only at hSw
    obtain ⟨hs0_, hs1_, hs2_, hs3_⟩ := hSw
    go_simp
    try with_reducible rfl
  try simp only [Act.put]
  refine wpAnyH_take (i := 4) (v := ?_) rfl (by kernel_rfl) (by kernel_rfl) (by kernel_rfl) (fun _ _ _ h => h) (Or.inl ⟨by rfl, ?_⟩) (by assumption) ?_
  rotate_left
  · intro w hSw
    try dsimp only at hSw
    obtain ⟨hs0_, hs1_, hs2_, hs3_⟩ := hSw
    go_simp
    try with_reducible rfl
  try simp only [Act.put]
  refine wpAnyH_take (i := 5) (v := ?_) rfl (by kernel_rfl) (by kernel_rfl) (by kernel_rfl) (fun _ _ _ h => h) (Or.inl ⟨by rfl, ?_⟩) (by assumption) ?_
  rotate_left
  · intro w hSw
    try dsimp only at hSw
    obtain ⟨hs0_, hs1_, hs2_, hs3_⟩ := hSw
    go_simp
    try with_reducible rfl
  try simp only [Act.put]
  refine wpAnyH_take (i := 6) (v := ?_) rfl (by kernel_rfl) (by kernel_rfl) (by kernel_rfl) (fun _ _ _ h => h) (Or.inl ⟨by rfl, ?_⟩) (by assumption) ?_
  rotate_left
  · intro w hSw
    try dsimp only at hSw
    obtain ⟨hs0_, hs1_, hs2_, hs3_⟩ := hSw
    go_simp
    try with_reducible rfl
  try simp only [Act.put]
  refine wpAnyH_take (i := 7) (v := ?_) rfl (by kernel_rfl) (by kernel_rfl) (by kernel_rfl) (fun _ _ _ h => h) (Or.inl ⟨by rfl, ?_⟩) (by assumption) ?_
  rotate_left
  · intro w hSw
    try dsimp only at hSw
    obtain ⟨hs0_, hs1_, hs2_, hs3_⟩ := hSw
    go_simp
    try with_reducible rfl
  try simp only [Act.put]
  refine wpAnyH_take (i := 8) (v := ?_) rfl (by kernel_rfl) (by kernel_rfl) (by kernel_rfl) (fun _ _ _ h => h) (Or.inl ⟨by rfl, ?_⟩) (by assumption) ?_
  rotate_left
  · intro w hSw
    try dsimp only at hSw
    obtain ⟨hs0_, hs1_, hs2_, hs3_⟩ := hSw
    go_simp
    try with_reducible rfl
  try simp only [Act.put]
  refine wpAnyH_take (i := 9) (v := ?_) rfl (by kernel_rfl) (by kernel_rfl) (by kernel_rfl) (fun _ _ _ h => h) (Or.inl ⟨by rfl, ?_⟩) (by assumption) ?_
  rotate_left
  · intro w hSw
    try dsimp only at hSw
    obtain ⟨hs0_, hs1_, hs2_, hs3_⟩ := hSw
    go_simp
    try with_reducible rfl
  try simp only [Act.put]
  refine wpAnyH_take (i := 10) (v := ?_) rfl (by kernel_rfl) (by kernel_rfl) (by kernel_rfl) (fun _ _ _ h => h) (Or.inl ⟨by rfl, ?_⟩) (by assumption) ?_
  rotate_left
  · intro w hSw
    try dsimp only at hSw
    obtain ⟨hs0_, hs1_, hs2_, hs3_⟩ := hSw
    go_simp
    try with_reducible rfl
  try simp only [Act.put]
  refine wpAnyH_take (i := 11) (v := ?_) rfl (by kernel_rfl) (by kernel_rfl) (by kernel_rfl) (fun _ _ _ h => h) (Or.inl ⟨by rfl, ?_⟩) (by assumption) ?_
  rotate_left
  · intro w hSw
    try dsimp only at hSw
    obtain ⟨hs0_, hs1_, hs2_, hs3_⟩ := hSw
    go_simp
    try with_reducible rfl
  try simp only [Act.put]
  refine wpAnyH_take (i := 14) (v := ?_) rfl (by kernel_rfl) (by kernel_rfl) (by kernel_rfl) (fun _ _ _ h => h) (Or.inl ⟨by rfl, ?_⟩) (by assumption) ?_
  rotate_left
  · intro w hSw
    try dsimp only at hSw
    obtain ⟨hs0_, hs1_, hs2_, hs3_⟩ := hSw
    go_simp
    try with_reducible rfl
  try simp only [Act.put]
  refine wpAnyH_take (i := 15) (v := ?_) rfl (by kernel_rfl) (by kernel_rfl) (by kernel_rfl) (fun _ _ _ h => h) (Or.inl ⟨by rfl, ?_⟩) (by assumption) ?_
  rotate_left
  · intro w hSw
    try dsimp only at hSw
    obtain ⟨hs0_, hs1_, hs2_, hs3_⟩ := hSw
    go_simp
    try with_reducible rfl
  try simp only [Act.put]
  refine wpAnyH_take (i := 16) (v := ?_) rfl (by kernel_rfl) (by kernel_rfl) (by kernel_rfl) (fun _ _ _ h => h) (Or.inl ⟨by rfl, ?_⟩) (by assumption) ?_
  rotate_left
  · intro w hSw
    try dsimp only at hSw
    obtain ⟨hs0_, hs1_, hs2_, hs3_⟩ := hSw
    go_simp
    try with_reducible rfl
  try simp only [Act.put]
  refine wpAnyH_take (i := 17) (v := ?_) rfl (by kernel_rfl) (by kernel_rfl) (by kernel_rfl) (fun _ _ _ h => h) (Or.inl ⟨by rfl, ?_⟩) (by assumption) ?_
  rotate_left
  · intro w hSw
    try dsimp only at hSw
    obtain ⟨hs0_, hs1_, hs2_, hs3_⟩ := hSw
    go_simp
    try with_reducible rfl
  try simp only [Act.put]
  simp only [List.getElem_toArray, List.getElem_cons_zero, List.getElem_cons_succ, List.setIfInBounds_toArray, List.set_cons_zero, List.set_cons_succ]
  refine wpAnyH_batch (n := 5) (is := [12, 13, 18, 19, 20]) [⟨12, [], (RMade (fun g => .slice (some ⟨g, 0, none⟩) 0 0) 26 #[]), false⟩, ⟨13, [], (RMade (fun g => .slice (some ⟨g, 0, none⟩) 0 0) 26 #[]), false⟩, ⟨18, [], (RCall (fun a_ e_ b_ => NewI a_ os e_ b_)), false⟩, ⟨19, [12, 13, 18], (RKnown (fun vl => ∃ x y z, vl = [.agg #[.int .i64 q, .int .i64 hd, .int .i64 a, x, y, z], x, y, z])), false⟩, ⟨20, [], (RMade (fun g => .pointer (some ⟨g, 0, none⟩)) 31 #[.int .i64 0, .int .i64 0, .int .i64 0, .slice none 0 0, .slice none 0 0, .slice none 0 0]), false⟩] rfl rfl (by kernel_rfl) (by decide) (by kernel_rfl) (fun _ _ _ _ h => h) (fun w' hb => ?_) (BStay.all_cons (RMade.stay) <| BStay.all_cons (RMade.stay) <| BStay.all_cons (RCall.stay) <| BStay.all_cons (RKnown.stay) <| BStay.all_cons (RMade.stay) <| BStay.all_nil) ?_ ?_
  · exact KS.out _ (y0.trans ((hp0.trans (hb.mono hp0.size)).mono y0.size))
  · refine BStep.all_cons (BStep.mk rfl (fun vs l h w1 hz hn hsp K hK => ?_)) ?_
    · simp only [putAll, List.map, Act.put, List.getElem_toArray, List.getElem_cons_zero, List.getElem_cons_succ, List.setIfInBounds_toArray, List.set_cons_zero, List.set_cons_succ] at hK ⊢
      clear hn hsp
      go_simp
      exact hK _ _ ((Below.refl _ _).alloc (Nat.le_refl _) _) ⟨_, rfl, Blk.new _ _ _, Nat.le_refl _, by simp⟩
    refine BStep.all_cons (BStep.mk rfl (fun vs l h w1 hz hn hsp K hK => ?_)) ?_
    · simp only [putAll, List.map, Act.put, List.getElem_toArray, List.getElem_cons_zero, List.getElem_cons_succ, List.setIfInBounds_toArray, List.set_cons_zero, List.set_cons_succ] at hK ⊢
      clear hn hsp
      go_simp
      exact hK _ _ ((Below.refl _ _).alloc (Nat.le_refl _) _) ⟨_, rfl, Blk.new _ _ _, Nat.le_refl _, by simp⟩
    refine BStep.all_cons (BStep.mk rfl (fun vs l h w1 hz hn hsp K hK => ?_)) ?_
    · simp only [putAll, List.map, Act.put, List.getElem_toArray, List.getElem_cons_zero, List.getElem_cons_succ, List.setIfInBounds_toArray, List.set_cons_zero, List.set_cons_succ] at hK ⊢
      clear hn hsp
      go_simp
      refine (l00Own_any _ _ _ os _ (HZ.out.below (y0.trans ((hp0.trans (hz.mono hp0.size)).mono y0.size))) hl).mono ?_
      rintro e W2 hT
      obtain ⟨E, ec, rfl, oE, zE⟩ := id hT
      exact hK _ _ zE ⟨_, _, _, rfl, hT, rfl, Below.refl _ _⟩
    refine BStep.all_cons (BStep.mk rfl (fun vs l h w1 hz hn hsp K hK => ?_)) ?_
    · simp only [putAll, List.map, dstAt, Act.put, List.getElem_toArray, List.getElem?_toArray, List.getElem_cons_zero, List.getElem_cons_succ, List.getElem?_cons_zero, List.getElem?_cons_succ, Option.bind_some, List.setIfInBounds_toArray, List.set_cons_zero, List.set_cons_succ] at hK ⊢
      simp only [List.forall_mem_cons, List.map] at hn
      obtain ⟨nn12, nn13, nn18, nn19, nn20, _⟩ := hn
      have q12 := (nn12 (by simp)).2.2.2
      have q13 := (nn13 (by simp)).2.2.2
      have q18 := (nn18 (by simp)).2.2.2
      obtain ⟨a12, e12, _⟩ := q12
      obtain ⟨a13, e13, _⟩ := q13
      obtain ⟨wa, wb, vv, e18, ⟨E, ec, hv, oE, zE⟩, _, zb⟩ := q18
      cases hv
      simp only [List.head?_cons, Option.some.injEq, List.cons.injEq, and_true] at e12 e13 e18
      rw [e12, e13, e18] at hK ⊢
      clear nn12 nn13 nn18 nn19 nn20 hsp e12 e13 e18
      go_simp
      exact hK _ _ (Below.refl _ _) ⟨_, _, _, rfl⟩
    refine BStep.all_cons (BStep.mk rfl (fun vs l h w1 hz hn hsp K hK => ?_)) ?_
    · simp only [putAll, List.map, Act.put, List.getElem_toArray, List.getElem_cons_zero, List.getElem_cons_succ, List.setIfInBounds_toArray, List.set_cons_zero, List.set_cons_succ] at hK ⊢
      clear hn hsp
      go_simp
      exact hK _ _ ((Below.refl _ _).alloc (Nat.le_refl _) _) ⟨_, rfl, Blk.new _ _ _, Nat.le_refl _, by simp⟩
    exact BStep.all_nil
  · intro vs l h w1 hz ht hsp
    simp only [Through, List.forall_mem_cons, List.map] at ht
    simp only [putAll, markAll, dstAt, Act.put, List.getElem?_toArray, List.getElem?_cons_zero, List.getElem?_cons_succ, Option.bind_some, List.setIfInBounds_toArray, List.set_cons_zero, List.set_cons_succ]
    obtain ⟨⟨k12, _, m12, a12, e12, h12, g12, i12⟩, ⟨k13, _, m13, a13, e13, h13, g13, i13⟩, ⟨k18, _, m18, wa, wb, vv, e18, ⟨E, ec, hv, oE, zE⟩, ew, zb⟩, ⟨_, _, _, p19, q19, r19, e19⟩, ⟨k20, _, m20, g3, e20, h20, g20, i20⟩, _⟩ := ht
    cases hv
    simp only [List.head?_cons, Option.some.injEq, List.cons.injEq, and_true] at e12 e13 e18 e19 e20
    obtain ⟨e19, rfl, rfl, rfl⟩ := e19
    rw [e19, e12, e13, e18, e20]
    have n45 : a12 ≠ a13 := by
      have := hsp 12 (by simp) 13 (by simp) (by decide)
      omega
    have hp1 : Below w.heap.size w w1 := y0.trans ((hp0.trans (hz.mono hp0.size)).mono y0.size)
    have hs0 := y0.size
    have hs1 := hp0.size
    have hO := FmO.lits (lo := w.heap.size) h12 h13 (oE.below zb) (by omega) (by omega) (by omega) n45
    have hg3 : w.heap.size ≤ g3 := by omega
    have hbW := b2.below' (hp0.trans (hz.mono hp0.size))
    have hgW : g3 ≠ w.heap.size := by have := b2.lt; omega
    clear e12 e13 e18 e19 e20 k12 k13 k18 k20 m12 m13 m18 m20 i12 i13 i20 g12 g13 g20 hsp hz ew zb oE zE
    try simp only [putAll, markAll, dstAt, Act.put, List.getElem_toArray, List.getElem?_toArray, List.getElem_cons_zero, List.getElem_cons_succ, List.getElem?_cons_zero, List.getElem?_cons_succ, Option.bind_some, List.setIfInBounds_toArray, List.set_cons_zero, List.set_cons_succ]
    refine wpAnyH_ready (rs := [21]) (by kernel_rfl) (by simp) ?_
    refine AllReadyH.cons rfl (fun K hK => ?_) ?_
    · skip
      have x0 : w1.cell? ⟨g3, 0, none⟩ = some (.int .i64 0) := h20.cell 0
      have x1 : w1.cell? ⟨g3, 1, none⟩ = some (.int .i64 0) := h20.cell 1
      have x2 : w1.cell? ⟨g3, 2, none⟩ = some (.int .i64 0) := h20.cell 2
      have x3 : w1.cell? ⟨g3, 3, none⟩ = some (.slice none 0 0) := h20.cell 3
      have x4 : w1.cell? ⟨g3, 4, none⟩ = some (.slice none 0 0) := h20.cell 4
      have x5 : w1.cell? ⟨g3, 5, none⟩ = some (.slice none 0 0) := h20.cell 5
      have f0 := h20.frozen 0
      have f1 := h20.frozen 1
      have f2 := h20.frozen 2
      have f3 := h20.frozen 3
      have f4 := h20.frozen 4
      have f5 := h20.frozen 5
      go_simp
      have hO2 := hO.far (w' := _) h20 (by decide) (by decide) (fm_kept (.int .i64 q) (.int .i64 hd) (.int .i64 a) (.slice (some ⟨a12, 0, none⟩) 0 0) (.slice (some ⟨a13, 0, none⟩) 0 0) (.slice E os.length ec))
      have hbW2 : Blk _ w.heap.size 31 #[.int .i64 0, .int .i64 0, .int .i64 0, .slice none 0 0, .slice none 0 0, .slice none 0 0] := hbW.keptH (fm_kept (.int .i64 q) (.int .i64 hd) (.int .i64 a) (.slice (some ⟨a12, 0, none⟩) 0 0) (.slice (some ⟨a13, 0, none⟩) 0 0) (.slice E os.length ec) w.heap.size (Ne.symm hgW))
      have hbf := fm_set h20 (.int .i64 q) (.int .i64 hd) (.int .i64 a) (.slice (some ⟨a12, 0, none⟩) 0 0) (.slice (some ⟨a13, 0, none⟩) 0 0) (.slice E os.length ec)
      have hzf := fm_below hp1 hg3 (.int .i64 q) (.int .i64 hd) (.int .i64 a) (.slice (some ⟨a12, 0, none⟩) 0 0) (.slice (some ⟨a13, 0, none⟩) 0 0) (.slice E os.length ec)
      refine hK.out _ _ ?_ (fun hHeld => ?_)
      · exact KS.out _ hzf
      clear hK K
      try simp only [Act.put, List.setIfInBounds_toArray]
      refine wpAnyH_done (by kernel_rfl) ?_ _
      refine NoPanic.normal ?_
      generalize (((((w1.setCell ⟨g3, 0, none⟩ (.int .i64 q)).setCell ⟨g3, 1, none⟩ (.int .i64 hd)).setCell ⟨g3, 2, none⟩ (.int .i64 a)).setCell ⟨g3, 3, none⟩ (.slice (some ⟨a12, 0, none⟩) 0 0)).setCell ⟨g3, 4, none⟩ (.slice (some ⟨a13, 0, none⟩) 0 0)).setCell ⟨g3, 5, none⟩ (.slice E os.length ec) = W2 at *
      have HS0 : Hid (OwS w g3 q hd a (nums ts) (nums us) os 0 0 W2) := Lib.hid ⟨some ⟨a12, 0, none⟩, 0, [], some ⟨a13, 0, none⟩, 0, [], E, ec, hbf, hbW2, hO2, rfl, rfl, hzf⟩
      clear hbf hbW2 hO2 hzf x0 x1 x2 x3 x4 x5 f0 f1 f2 f3 f4 f5 hO hbW h12 h13 h20
      go_wp2_with fail
      go_loopw [4] (fun s4 wr => ∃ k : Nat, k ≤ n ∧ s4 = .int .i64 (k : Int) ∧ Hid (OwS w g3 q hd a (nums ts) (nums us) os k 0 wr)) (fun s4 _ => n - (intOf s4).toNat)
      case atStart => exact ⟨0, Nat.zero_le _, rfl, HS0⟩
      case round =>
        obtain ⟨k, hk, rfl, HS⟩ := hrel
        obtain ⟨A', c', ts', B', d', us', C', k', hb, hr, hO, hW, hR, hz⟩ := HS.out
        have hsz0 := hz.size
        have i1 : (0 : Int) ≤ (k : Int) := by omega
        have htl : ts'.length = k := by have h1 := congrArg List.length hW; rw [nums_len, List.length_take, nums_len, HTL.out] at h1; omega
        have hub : ts'.length ≤ 1048576 := by omega
        by_cases hlt : k < n
        rotate_left
        · have i2 : ¬ (k : Int) < (n : Int) := by omega
          obtain rfl : n = k := by omega
          have hs3 := (KF.out _ hz).2.2.2.1
          clear hb hr hO hW hR htl hub
          go_wp2_with fail
          go_loopw [5] (fun s5 wr => ∃ k : Nat, k ≤ m ∧ s5 = .int .i64 (k : Int) ∧ Hid (OwS w g3 q hd a (nums ts) (nums us) os n k wr)) (fun s5 _ => m - (intOf s5).toNat)
          case atStart => exact ⟨0, Nat.zero_le _, rfl, HS⟩
          case round =>
            obtain ⟨k, hk, rfl, HS⟩ := hrel
            obtain ⟨A', c', ts', B', d', us', C', k', hb, hr, hO, hW, hR, hz⟩ := HS.out
            have hsz0 := hz.size
            have i1 : (0 : Int) ≤ (k : Int) := by omega
            have htl : us'.length = k := by have h1 := congrArg List.length hR; rw [nums_len, List.length_take, nums_len, HUL.out] at h1; omega
            have hub : us'.length ≤ 1048576 := by omega
            by_cases hlt : k < m
            rotate_left
            · have i2 : ¬ (k : Int) < (m : Int) := by omega
              obtain rfl : m = k := by omega
              have hs3 := (KF.out _ hz).2.2.2.2.1
              clear hb hr hO hW hR htl hub
              obtain ⟨A', c', ts', B', d', us', C', k', hb, hr, hO, hW, hR, hz⟩ := HS.out
              have hEW : nums ts' = nums ts := by rw [hW, List.take_of_length_le (by rw [nums_len, HTL.out]; omega)]
              have hER : nums us' = nums us := by rw [hR, List.take_of_length_le (by rw [nums_len, HUL.out]; omega)]
              have HE := Lib.hid (And.intro hEW hER)
              have HOO := Lib.hid hO
              clear hW hR hEW hER hO HS
              have x0 : wr.cell? ⟨g3, 0, none⟩ = some (.int .i64 q) := hb.cell 0
              have x1 : wr.cell? ⟨g3, 1, none⟩ = some (.int .i64 hd) := hb.cell 1
              have x2 : wr.cell? ⟨g3, 2, none⟩ = some (.int .i64 a) := hb.cell 2
              have x3 : wr.cell? ⟨g3, 3, none⟩ = some (.slice A' ts'.length c') := hb.cell 3
              have x4 : wr.cell? ⟨g3, 4, none⟩ = some (.slice B' us'.length d') := hb.cell 4
              have x5 : wr.cell? ⟨g3, 5, none⟩ = some (.slice C' os.length k') := hb.cell 5
              have e0 : wr.cell? ⟨w.heap.size, 0, none⟩ = some (.int .i64 0) := hr.cell 0
              have e1 : wr.cell? ⟨w.heap.size, 1, none⟩ = some (.int .i64 0) := hr.cell 1
              have e2 : wr.cell? ⟨w.heap.size, 2, none⟩ = some (.int .i64 0) := hr.cell 2
              have e3 : wr.cell? ⟨w.heap.size, 3, none⟩ = some (.slice none 0 0) := hr.cell 3
              have e4 : wr.cell? ⟨w.heap.size, 4, none⟩ = some (.slice none 0 0) := hr.cell 4
              have e5 : wr.cell? ⟨w.heap.size, 5, none⟩ = some (.slice none 0 0) := hr.cell 5
              have f0 := hr.frozen 0
              have f1 := hr.frozen 1
              have f2 := hr.frozen 2
              have f3 := hr.frozen 3
              have f4 := hr.frozen 4
              have f5 := hr.frozen 5
              go_wp2_with fail
              clear x0 x1 x2 x3 x4 x5 e0 e1 e2 e3 e4 e5
              have dB : Blk ((((((wr.setCell ⟨w.heap.size, 0, none⟩ (.int .i64 q)).setCell ⟨w.heap.size, 1, none⟩ (.int .i64 hd)).setCell ⟨w.heap.size, 2, none⟩ (.int .i64 a)).setCell ⟨w.heap.size, 3, none⟩ (.slice A' ts'.length c')).setCell ⟨w.heap.size, 4, none⟩ (.slice B' us'.length d')).setCell ⟨w.heap.size, 5, none⟩ (.slice C' os.length k')) w.heap.size 31 #[.int .i64 q, .int .i64 hd, .int .i64 a, .slice A' ts'.length c', .slice B' us'.length d', .slice C' os.length k'] := fm_set hr (.int .i64 q) (.int .i64 hd) (.int .i64 a) (.slice A' ts'.length c') (.slice B' us'.length d') (.slice C' os.length k')
              have yS : ∀ (lo : Nat) (w0 : World), Below lo w0 wr → lo ≤ w.heap.size → Below lo w0 ((((((wr.setCell ⟨w.heap.size, 0, none⟩ (.int .i64 q)).setCell ⟨w.heap.size, 1, none⟩ (.int .i64 hd)).setCell ⟨w.heap.size, 2, none⟩ (.int .i64 a)).setCell ⟨w.heap.size, 3, none⟩ (.slice A' ts'.length c')).setCell ⟨w.heap.size, 4, none⟩ (.slice B' us'.length d')).setCell ⟨w.heap.size, 5, none⟩ (.slice C' os.length k')) := fun lo w0 h hl => fm_below h hl (.int .i64 q) (.int .i64 hd) (.int .i64 a) (.slice A' ts'.length c') (.slice B' us'.length d') (.slice C' os.length k')
              have kS : ∀ k, k ≠ w.heap.size → ((((((wr.setCell ⟨w.heap.size, 0, none⟩ (.int .i64 q)).setCell ⟨w.heap.size, 1, none⟩ (.int .i64 hd)).setCell ⟨w.heap.size, 2, none⟩ (.int .i64 a)).setCell ⟨w.heap.size, 3, none⟩ (.slice A' ts'.length c')).setCell ⟨w.heap.size, 4, none⟩ (.slice B' us'.length d')).setCell ⟨w.heap.size, 5, none⟩ (.slice C' os.length k')).heap[k]? = wr.heap[k]? := fun k hk => fm_kept (.int .i64 q) (.int .i64 hd) (.int .i64 a) (.slice A' ts'.length c') (.slice B' us'.length d') (.slice C' os.length k') k hk
              generalize (((((wr.setCell ⟨w.heap.size, 0, none⟩ (.int .i64 q)).setCell ⟨w.heap.size, 1, none⟩ (.int .i64 hd)).setCell ⟨w.heap.size, 2, none⟩ (.int .i64 a)).setCell ⟨w.heap.size, 3, none⟩ (.slice A' ts'.length c')).setCell ⟨w.heap.size, 4, none⟩ (.slice B' us'.length d')).setCell ⟨w.heap.size, 5, none⟩ (.slice C' os.length k') = wf at *
              have x0 : wf.cell? ⟨w.heap.size, 0, none⟩ = some (.int .i64 q) := dB.cell 0
              have x1 : wf.cell? ⟨w.heap.size, 1, none⟩ = some (.int .i64 hd) := dB.cell 1
              have x2 : wf.cell? ⟨w.heap.size, 2, none⟩ = some (.int .i64 a) := dB.cell 2
              have x3 : wf.cell? ⟨w.heap.size, 3, none⟩ = some (.slice A' ts'.length c') := dB.cell 3
              have x4 : wf.cell? ⟨w.heap.size, 4, none⟩ = some (.slice B' us'.length d') := dB.cell 4
              have x5 : wf.cell? ⟨w.heap.size, 5, none⟩ = some (.slice C' os.length k') := dB.cell 5
              have hRf : FmR wf w.heap.size ⟨q, hd, a, nums ts, nums us, os⟩ A' c' ts' B' d' us' C' k' := ⟨HOO.out.far hr (by decide) (by decide) kS, HE.out.1, HE.out.2⟩
              have hres : NewFmV w ⟨q, hd, a, nums ts, nums us, os⟩ (.returned (.agg #[.int .i64 q, .int .i64 hd, .int .i64 a, .slice A' ts'.length c', .slice B' us'.length d', .slice C' os.length k'])) wf := ⟨A', c', ts', B', d', us', C', k', rfl, hRf, yS _ _ hz (Nat.le_refl _)⟩
              exact bodyPost_ret (v := .agg #[.int .i64 q, .int .i64 hd, .int .i64 a, .slice A' ts'.length c', .slice B' us'.length d', .slice C' os.length k']) (by simp [results, Try.results103, go_sem, x0, x1, x2, x3, x4, x5]) rfl hres
            have i2 : (k : Int) < (m : Int) := by omega
            obtain ⟨t, bb, off, hT, htm, rfl, hbl, hc, hrow⟩ := HY.out.pick (k := k) hlt
            have hnt : t.xs.length ≤ 1048576 := HMS.out t htm
            have HROW := Lib.hid hrow
            have SS : Hid (∀ W', Below w.heap.size w W' → W'.cell? ⟨g, 4, none⟩ = some (.slice (some ⟨bb, off, none⟩) m d) ∧ W'.cell? ⟨bb, off + k, none⟩ = some (.slice t.A t.xs.length t.c)) := Lib.hid (fun W' z => ⟨(KF.out W' z).2.2.2.2.1, (z.cell (p := ⟨bb, off + k, none⟩) hbl).trans hc⟩)
            have hs3 := (SS.out _ hz).1
            clear hc hrow HS htl
            go_upto_region 9 with fail
            have hp : Below wr.heap.size wr wr.drew := below_drewN (Below.refl _ _) 1
            have hbx := hb.below' hp
            have hby := hr.below' hp
            have hq5 := hz.trans (hp.mono hsz0)
            refine wp_region_noPanic ?_
            refine wp_region_held_drew (S := (fun w' => w'.cell? ⟨g, 4, none⟩ = some (.slice (some ⟨bb, off, none⟩) m d) ∧ w'.cell? ⟨bb, off + k, none⟩ = some (.slice t.A t.xs.length t.c))) (by kernel_rfl) ?_ (fun hHeld => ?_)
            · exact SS.out _ hq5
            generalize wr.drew = Wc at *
            refine wpAnyH_take (i := 0) (v := ?_) rfl (by kernel_rfl) (by kernel_rfl) (by kernel_rfl) (fun _ _ _ h => h) (Or.inl ⟨by rfl, ?_⟩) (by assumption) ?_
            rotate_left
            · intro w hSw
              try dsimp only at hSw
              obtain ⟨hs0_, hs1_⟩ := hSw
              go_simp
              try with_reducible rfl
            try simp only [Act.put, List.setIfInBounds_toArray]
            refine wpAnyH_take (i := 2) (v := ?_) rfl (by kernel_rfl) (by kernel_rfl) (by kernel_rfl) (fun _ _ _ h => h) (Or.inl ⟨by rfl, ?_⟩) (by assumption) ?_
            rotate_left
            · intro w hSw
              try dsimp only at hSw
              obtain ⟨hs0_, hs1_⟩ := hSw
              go_simp
              try with_reducible rfl
            try simp only [Act.put]
            refine wpAnyH_take (i := 3) (v := ?_) rfl (by kernel_rfl) (by kernel_rfl) (by kernel_rfl) (fun _ _ _ h => h) (Or.inl ⟨by rfl, ?_⟩) (by assumption) ?_
            rotate_left
            · intro w hSw
              try dsimp only at hSw
              obtain ⟨hs0_, hs1_⟩ := hSw
              go_simp
              try with_reducible rfl
            try simp only [Act.put]
            refine wpAnyH_take (i := 4) (v := ?_) rfl (by kernel_rfl) (by kernel_rfl) (by kernel_rfl) (fun _ _ _ h => h) (Or.inl ⟨by rfl, ?_⟩) (by assumption) ?_
            rotate_left
            · intro w hSw
              try dsimp only at hSw
              obtain ⟨hs0_, hs1_⟩ := hSw
              go_simp
              try with_reducible rfl
            try simp only [Act.put]
            refine wpAnyH_take (i := 5) (v := ?_) rfl (by kernel_rfl) (by kernel_rfl) (by kernel_rfl) (fun _ _ _ h => h) (Or.inl ⟨by rfl, ?_⟩) (by assumption) ?_
            rotate_left
            · intro w hSw
              try dsimp only at hSw
              obtain ⟨hs0_, hs1_⟩ := hSw
              go_simp
              try with_reducible rfl
            try simp only [Act.put]
            refine wpAnyH_take (i := 6) (v := ?_) rfl (by kernel_rfl) (by kernel_rfl) (by kernel_rfl) (fun _ _ _ h => h) (Or.inl ⟨by rfl, ?_⟩) (by assumption) ?_
            rotate_left
            · intro w hSw
              try dsimp only at hSw
              obtain ⟨hs0_, hs1_⟩ := hSw
              go_simp
              try with_reducible rfl
            try simp only [Act.put]
            refine wpAnyH_take (i := 7) (v := ?_) rfl (by kernel_rfl) (by kernel_rfl) (by kernel_rfl) (fun _ _ _ h => h) (Or.inl ⟨by rfl, ?_⟩) (by assumption) ?_
            rotate_left
            · intro w hSw
              try dsimp only at hSw
              obtain ⟨hs0_, hs1_⟩ := hSw
              go_simp
              try with_reducible rfl
            try simp only [Act.put]
            refine wpAnyH_take (i := 8) (v := ?_) rfl (by kernel_rfl) (by kernel_rfl) (by kernel_rfl) (fun _ _ _ h => h) (Or.inl ⟨by rfl, ?_⟩) (by assumption) ?_
            rotate_left
            · intro w hSw
              try dsimp only at hSw
              obtain ⟨hs0_, hs1_⟩ := hSw
              go_simp
              try with_reducible rfl
            try simp only [Act.put]
            try simp only [List.getElem_toArray, List.getElem_cons_zero, List.getElem_cons_succ, List.setIfInBounds_toArray, List.set_cons_zero, List.set_cons_succ]
            refine wpAnyH_ready (rs := [1, 9]) (by kernel_rfl) (by simp) ?_
            refine AllReadyH.cons rfl (fun K hK => ?_) ?_
            · have xf := hbx.cell 4
              go_simp
              clear xf
              refine hK.out _ _ ?_ (fun hHeld => ?_)
              · first
                  | exact SS.out _ hz9
                  | exact SS.out _ hq5
              clear hK K
              try simp only [Act.put, List.setIfInBounds_toArray, List.set_cons_zero, List.set_cons_succ]
              try simp only [putAll, markAll, dstAt, Act.put, List.getElem_toArray, List.getElem?_toArray, List.getElem_cons_zero, List.getElem_cons_succ, List.getElem?_cons_zero, List.getElem?_cons_succ, Option.bind_some, List.setIfInBounds_toArray, List.set_cons_zero, List.set_cons_succ]
              refine wpAnyH_ready (rs := [9]) (by kernel_rfl) (by simp) ?_
              refine AllReadyH.cons rfl (fun K hK => ?_) ?_
              · go_simp
                refine (l00Own_any _ _ _ t.xs _ (HROW.out.below hq5) hnt).mono ?_
                rintro e W7 ⟨D, dd, rfl, oD, z7⟩
                have hk7 := hp.size
                replace hp := hp.trans (z7.mono hp.size)
                replace hq5 := hz.trans (hp.mono hsz0)
                replace hbx := hbx.below' z7
                replace hby := hby.below' z7
                refine hK.out _ _ ?_ (fun hHeld => ?_)
                · first
                    | exact SS.out _ hz9
                    | exact SS.out _ hq5
                clear hK K
                try simp only [Act.put, List.setIfInBounds_toArray, List.set_cons_zero, List.set_cons_succ]
                try simp only [putAll, markAll, dstAt, Act.put, List.getElem_toArray, List.getElem?_toArray, List.getElem_cons_zero, List.getElem_cons_succ, List.getElem?_cons_zero, List.getElem?_cons_succ, Option.bind_some, List.setIfInBounds_toArray, List.set_cons_zero, List.set_cons_succ]
                refine wpAnyH_ready (rs := [10]) (by kernel_rfl) (by simp) ?_
                refine AllReadyH.cons rfl (fun K hK => ?_) ?_
                · go_simp
                  replace hby := hby.alloc (.cells #[.slice D t.xs.length dd] 26)
                  replace hbx := hbx.alloc (.cells #[.slice D t.xs.length dd] 26)
                  have hp8 := hp.alloc hp.size (.cells #[.slice D t.xs.length dd] 26)
                  replace hq5 := hz.trans (hp8.mono hsz0)
                  refine hK.out _ _ ?_ (fun hHeld => ?_)
                  · first
                      | exact SS.out _ hz9
                      | exact SS.out _ hq5
                  clear hK K
                  try simp only [Act.put, List.setIfInBounds_toArray, List.set_cons_zero, List.set_cons_succ]
                  try simp only [putAll, markAll, dstAt, Act.put, List.getElem_toArray, List.getElem?_toArray, List.getElem_cons_zero, List.getElem_cons_succ, List.getElem?_cons_zero, List.getElem?_cons_succ, Option.bind_some, List.setIfInBounds_toArray, List.set_cons_zero, List.set_cons_succ]
                  refine wpAnyH_ready (rs := [11]) (by kernel_rfl) (by simp) ?_
                  refine AllReadyH.cons rfl (fun K hK => ?_) ?_
                  · rw [if_pos (by rfl)]
                    have hsz := hp8.size
                    refine wp_append_Own (.tmp 58) (.tmp 67) rfl elII (lo := w.heap.size) rfl ((hO.below hp8).2.1.1) rfl (Rd.new1 W7 _ _) (by simp [Value.oneCell']) (by omega) (by simp only [maxLen]; omega) (by omega) ?_
                    intro A8 c8 w8 ho8 hg8 hw8
                    replace hq5 := (((hO.below hp8).2.1.1)).below_of hq5 hg8 (by omega)
                    replace hby := hby.growt ((hO.below hp8).2.1.1) hg8 (by decide)
                    replace hbx := hbx.growt ((hO.below hp8).2.1.1) hg8 (by decide)
                    refine hK.out _ _ ?_ (fun hHeld => ?_)
                    · first
                        | exact SS.out _ hz9
                        | exact SS.out _ hq5
                    clear hK K
                    try simp only [Act.put, List.setIfInBounds_toArray]
                    refine wpAnyH_take (i := 12) (v := ?_) rfl (by kernel_rfl) (by kernel_rfl) (by kernel_rfl) (fun _ _ _ h => h) (Or.inl ⟨by rfl, ?_⟩) (by assumption) ?_
                    rotate_left
                    · intro w hSw
                      try dsimp only at hSw
                      obtain ⟨hs0_, hs1_⟩ := hSw
                      go_simp
                      try with_reducible rfl
                    try simp only [Act.put]
                    try simp only [List.getElem_toArray, List.getElem_cons_zero, List.getElem_cons_succ, List.setIfInBounds_toArray, List.set_cons_zero, List.set_cons_succ]
                    refine wpAnyH_ready (rs := [13]) (by kernel_rfl) (by simp) ?_
                    refine AllReadyH.cons rfl (fun K hK => ?_) ?_
                    · have xf := hbx.cell 4
                      have ff := hbx.frozen 4
                      go_simp
                      have hb9 : Blk (w8.setCell ⟨g3, 4, none⟩ (.slice A8 (us'.length + 1) c8)) g3 31 #[.int .i64 q, .int .i64 hd, .int .i64 a, .slice A' ts'.length c', .slice A8 (us' ++ [(⟨D, dd, t.xs⟩ : Sl)]).length c8, .slice C' os.length k'] := by
                        rw [List.length_append]
                        exact hbx.set_ 4 _
                      have hr9 : Blk (w8.setCell ⟨g3, 4, none⟩ (.slice A8 (us'.length + 1) c8)) w.heap.size 31 #[.int .i64 0, .int .i64 0, .int .i64 0, .slice none 0 0, .slice none 0 0, .slice none 0 0] := hby.keptH (Below.heap_setCell _ _ _ _ (Ne.symm hgW))
                      have hnx : nums (us' ++ [⟨D, dd, t.xs⟩]) = (nums us).take (k + 1) := nums_take_next hT.out hR rfl
                      have hO8 := hO.snocR (u := ⟨D, dd, t.xs⟩) hp8 ho8 hg8 hw8.1 (oD.alloc (.cells #[.slice D t.xs.length dd] 26)) hk7 (Nat.le_trans hsz0 hk7)
                      have hO9 := hO8.far (w' := w8.setCell ⟨g3, 4, none⟩ (.slice A8 (us'.length + 1) c8)) hbx (by decide) (by decide) (fun b hb => Below.heap_setCell _ _ _ _ hb)
                      have hz9 : Below w.heap.size w (w8.setCell ⟨g3, 4, none⟩ (.slice A8 (us'.length + 1) c8)) := hq5.setCell hg3 _
                      refine hK.out _ _ ?_ (fun hHeld => ?_)
                      · first
                          | exact SS.out _ hz9
                          | exact SS.out _ hq5
                      clear hK K
                      try simp only [Act.put, List.setIfInBounds_toArray]
                      refine wpAnyH_done (by kernel_rfl) ?_ _
                      refine NoPanic.normal ?_
                      clear hbx hby
                      generalize w8.setCell ⟨g3, 4, none⟩ (.slice A8 (us'.length + 1) c8) = w9 at *
                      have hres : Hid (OwS w g3 q hd a (nums ts) (nums us) os n (k + 1) w9) := Lib.hid ⟨A', c', ts', A8, c8, us' ++ [⟨D, dd, t.xs⟩], C', k', hb9, hr9, hO9, hW, hnx, hz9⟩
                      go_wp2_with fail
                      exact ⟨⟨k + 1, by omega, by go_num, hres⟩, by simp [intOf]; omega⟩
                    exact AllReadyH.nil
                  exact AllReadyH.nil
                exact AllReadyH.nil
              exact AllReadyH.nil
            refine AllReadyH.cons rfl (fun K hK => ?_) ?_
            · go_simp
              refine (l00Own_any _ _ _ t.xs _ (HROW.out.below hq5) hnt).mono ?_
              rintro e W7 ⟨D, dd, rfl, oD, z7⟩
              have hk7 := hp.size
              replace hp := hp.trans (z7.mono hp.size)
              replace hq5 := hz.trans (hp.mono hsz0)
              replace hbx := hbx.below' z7
              replace hby := hby.below' z7
              refine hK.out _ _ ?_ (fun hHeld => ?_)
              · first
                  | exact SS.out _ hz9
                  | exact SS.out _ hq5
              clear hK K
              try simp only [Act.put, List.setIfInBounds_toArray, List.set_cons_zero, List.set_cons_succ]
              try simp only [putAll, markAll, dstAt, Act.put, List.getElem_toArray, List.getElem?_toArray, List.getElem_cons_zero, List.getElem_cons_succ, List.getElem?_cons_zero, List.getElem?_cons_succ, Option.bind_some, List.setIfInBounds_toArray, List.set_cons_zero, List.set_cons_succ]
              refine wpAnyH_ready (rs := [1, 10]) (by kernel_rfl) (by simp) ?_
              refine AllReadyH.cons rfl (fun K hK => ?_) ?_
              · have xf := hbx.cell 4
                go_simp
                clear xf
                refine hK.out _ _ ?_ (fun hHeld => ?_)
                · first
                    | exact SS.out _ hz9
                    | exact SS.out _ hq5
                clear hK K
                try simp only [Act.put, List.setIfInBounds_toArray, List.set_cons_zero, List.set_cons_succ]
                try simp only [putAll, markAll, dstAt, Act.put, List.getElem_toArray, List.getElem?_toArray, List.getElem_cons_zero, List.getElem_cons_succ, List.getElem?_cons_zero, List.getElem?_cons_succ, Option.bind_some, List.setIfInBounds_toArray, List.set_cons_zero, List.set_cons_succ]
                refine wpAnyH_ready (rs := [10]) (by kernel_rfl) (by simp) ?_
                refine AllReadyH.cons rfl (fun K hK => ?_) ?_
                · go_simp
                  replace hby := hby.alloc (.cells #[.slice D t.xs.length dd] 26)
                  replace hbx := hbx.alloc (.cells #[.slice D t.xs.length dd] 26)
                  have hp8 := hp.alloc hp.size (.cells #[.slice D t.xs.length dd] 26)
                  replace hq5 := hz.trans (hp8.mono hsz0)
                  refine hK.out _ _ ?_ (fun hHeld => ?_)
                  · first
                      | exact SS.out _ hz9
                      | exact SS.out _ hq5
                  clear hK K
                  try simp only [Act.put, List.setIfInBounds_toArray, List.set_cons_zero, List.set_cons_succ]
                  try simp only [putAll, markAll, dstAt, Act.put, List.getElem_toArray, List.getElem?_toArray, List.getElem_cons_zero, List.getElem_cons_succ, List.getElem?_cons_zero, List.getElem?_cons_succ, Option.bind_some, List.setIfInBounds_toArray, List.set_cons_zero, List.set_cons_succ]
                  refine wpAnyH_ready (rs := [11]) (by kernel_rfl) (by simp) ?_
                  refine AllReadyH.cons rfl (fun K hK => ?_) ?_
                  · rw [if_pos (by rfl)]
                    have hsz := hp8.size
                    refine wp_append_Own (.tmp 58) (.tmp 67) rfl elII (lo := w.heap.size) rfl ((hO.below hp8).2.1.1) rfl (Rd.new1 W7 _ _) (by simp [Value.oneCell']) (by omega) (by simp only [maxLen]; omega) (by omega) ?_
                    intro A8 c8 w8 ho8 hg8 hw8
                    replace hq5 := (((hO.below hp8).2.1.1)).below_of hq5 hg8 (by omega)
                    replace hby := hby.growt ((hO.below hp8).2.1.1) hg8 (by decide)
                    replace hbx := hbx.growt ((hO.below hp8).2.1.1) hg8 (by decide)
                    refine hK.out _ _ ?_ (fun hHeld => ?_)
                    · first
                        | exact SS.out _ hz9
                        | exact SS.out _ hq5
                    clear hK K
                    try simp only [Act.put, List.setIfInBounds_toArray]
                    refine wpAnyH_take (i := 12) (v := ?_) rfl (by kernel_rfl) (by kernel_rfl) (by kernel_rfl) (fun _ _ _ h => h) (Or.inl ⟨by rfl, ?_⟩) (by assumption) ?_
                    rotate_left
                    · intro w hSw
                      try dsimp only at hSw
                      obtain ⟨hs0_, hs1_⟩ := hSw
                      go_simp
                      try with_reducible rfl
                    try simp only [Act.put]
                    try simp only [List.getElem_toArray, List.getElem_cons_zero, List.getElem_cons_succ, List.setIfInBounds_toArray, List.set_cons_zero, List.set_cons_succ]
                    refine wpAnyH_ready (rs := [13]) (by kernel_rfl) (by simp) ?_
                    refine AllReadyH.cons rfl (fun K hK => ?_) ?_
                    · have xf := hbx.cell 4
                      have ff := hbx.frozen 4
                      go_simp
                      have hb9 : Blk (w8.setCell ⟨g3, 4, none⟩ (.slice A8 (us'.length + 1) c8)) g3 31 #[.int .i64 q, .int .i64 hd, .int .i64 a, .slice A' ts'.length c', .slice A8 (us' ++ [(⟨D, dd, t.xs⟩ : Sl)]).length c8, .slice C' os.length k'] := by
                        rw [List.length_append]
                        exact hbx.set_ 4 _
                      have hr9 : Blk (w8.setCell ⟨g3, 4, none⟩ (.slice A8 (us'.length + 1) c8)) w.heap.size 31 #[.int .i64 0, .int .i64 0, .int .i64 0, .slice none 0 0, .slice none 0 0, .slice none 0 0] := hby.keptH (Below.heap_setCell _ _ _ _ (Ne.symm hgW))
                      have hnx : nums (us' ++ [⟨D, dd, t.xs⟩]) = (nums us).take (k + 1) := nums_take_next hT.out hR rfl
                      have hO8 := hO.snocR (u := ⟨D, dd, t.xs⟩) hp8 ho8 hg8 hw8.1 (oD.alloc (.cells #[.slice D t.xs.length dd] 26)) hk7 (Nat.le_trans hsz0 hk7)
                      have hO9 := hO8.far (w' := w8.setCell ⟨g3, 4, none⟩ (.slice A8 (us'.length + 1) c8)) hbx (by decide) (by decide) (fun b hb => Below.heap_setCell _ _ _ _ hb)
                      have hz9 : Below w.heap.size w (w8.setCell ⟨g3, 4, none⟩ (.slice A8 (us'.length + 1) c8)) := hq5.setCell hg3 _
                      refine hK.out _ _ ?_ (fun hHeld => ?_)
                      · first
                          | exact SS.out _ hz9
                          | exact SS.out _ hq5
                      clear hK K
                      try simp only [Act.put, List.setIfInBounds_toArray]
                      refine wpAnyH_done (by kernel_rfl) ?_ _
                      refine NoPanic.normal ?_
                      clear hbx hby
                      generalize w8.setCell ⟨g3, 4, none⟩ (.slice A8 (us'.length + 1) c8) = w9 at *
                      have hres : Hid (OwS w g3 q hd a (nums ts) (nums us) os n (k + 1) w9) := Lib.hid ⟨A', c', ts', A8, c8, us' ++ [⟨D, dd, t.xs⟩], C', k', hb9, hr9, hO9, hW, hnx, hz9⟩
                      go_wp2_with fail
                      exact ⟨⟨k + 1, by omega, by go_num, hres⟩, by simp [intOf]; omega⟩
                    exact AllReadyH.nil
                  exact AllReadyH.nil
                exact AllReadyH.nil
              refine AllReadyH.cons rfl (fun K hK => ?_) ?_
              · go_simp
                replace hby := hby.alloc (.cells #[.slice D t.xs.length dd] 26)
                replace hbx := hbx.alloc (.cells #[.slice D t.xs.length dd] 26)
                have hp8 := hp.alloc hp.size (.cells #[.slice D t.xs.length dd] 26)
                replace hq5 := hz.trans (hp8.mono hsz0)
                refine hK.out _ _ ?_ (fun hHeld => ?_)
                · first
                    | exact SS.out _ hz9
                    | exact SS.out _ hq5
                clear hK K
                try simp only [Act.put, List.setIfInBounds_toArray, List.set_cons_zero, List.set_cons_succ]
                try simp only [putAll, markAll, dstAt, Act.put, List.getElem_toArray, List.getElem?_toArray, List.getElem_cons_zero, List.getElem_cons_succ, List.getElem?_cons_zero, List.getElem?_cons_succ, Option.bind_some, List.setIfInBounds_toArray, List.set_cons_zero, List.set_cons_succ]
                refine wpAnyH_ready (rs := [1]) (by kernel_rfl) (by simp) ?_
                refine AllReadyH.cons rfl (fun K hK => ?_) ?_
                · have xf := hbx.cell 4
                  go_simp
                  clear xf
                  refine hK.out _ _ ?_ (fun hHeld => ?_)
                  · first
                      | exact SS.out _ hz9
                      | exact SS.out _ hq5
                  clear hK K
                  try simp only [Act.put, List.setIfInBounds_toArray, List.set_cons_zero, List.set_cons_succ]
                  try simp only [putAll, markAll, dstAt, Act.put, List.getElem_toArray, List.getElem?_toArray, List.getElem_cons_zero, List.getElem_cons_succ, List.getElem?_cons_zero, List.getElem?_cons_succ, Option.bind_some, List.setIfInBounds_toArray, List.set_cons_zero, List.set_cons_succ]
                  refine wpAnyH_ready (rs := [11]) (by kernel_rfl) (by simp) ?_
                  refine AllReadyH.cons rfl (fun K hK => ?_) ?_
                  · rw [if_pos (by rfl)]
                    have hsz := hp8.size
                    refine wp_append_Own (.tmp 58) (.tmp 67) rfl elII (lo := w.heap.size) rfl ((hO.below hp8).2.1.1) rfl (Rd.new1 W7 _ _) (by simp [Value.oneCell']) (by omega) (by simp only [maxLen]; omega) (by omega) ?_
                    intro A8 c8 w8 ho8 hg8 hw8
                    replace hq5 := (((hO.below hp8).2.1.1)).below_of hq5 hg8 (by omega)
                    replace hby := hby.growt ((hO.below hp8).2.1.1) hg8 (by decide)
                    replace hbx := hbx.growt ((hO.below hp8).2.1.1) hg8 (by decide)
                    refine hK.out _ _ ?_ (fun hHeld => ?_)
                    · first
                        | exact SS.out _ hz9
                        | exact SS.out _ hq5
                    clear hK K
                    try simp only [Act.put, List.setIfInBounds_toArray]
                    refine wpAnyH_take (i := 12) (v := ?_) rfl (by kernel_rfl) (by kernel_rfl) (by kernel_rfl) (fun _ _ _ h => h) (Or.inl ⟨by rfl, ?_⟩) (by assumption) ?_
                    rotate_left
                    · intro w hSw
                      try dsimp only at hSw
                      obtain ⟨hs0_, hs1_⟩ := hSw
                      go_simp
                      try with_reducible rfl
                    try simp only [Act.put]
                    try simp only [List.getElem_toArray, List.getElem_cons_zero, List.getElem_cons_succ, List.setIfInBounds_toArray, List.set_cons_zero, List.set_cons_succ]
                    refine wpAnyH_ready (rs := [13]) (by kernel_rfl) (by simp) ?_
                    refine AllReadyH.cons rfl (fun K hK => ?_) ?_
                    · have xf := hbx.cell 4
                      have ff := hbx.frozen 4
                      go_simp
                      have hb9 : Blk (w8.setCell ⟨g3, 4, none⟩ (.slice A8 (us'.length + 1) c8)) g3 31 #[.int .i64 q, .int .i64 hd, .int .i64 a, .slice A' ts'.length c', .slice A8 (us' ++ [(⟨D, dd, t.xs⟩ : Sl)]).length c8, .slice C' os.length k'] := by
                        rw [List.length_append]
                        exact hbx.set_ 4 _
                      have hr9 : Blk (w8.setCell ⟨g3, 4, none⟩ (.slice A8 (us'.length + 1) c8)) w.heap.size 31 #[.int .i64 0, .int .i64 0, .int .i64 0, .slice none 0 0, .slice none 0 0, .slice none 0 0] := hby.keptH (Below.heap_setCell _ _ _ _ (Ne.symm hgW))
                      have hnx : nums (us' ++ [⟨D, dd, t.xs⟩]) = (nums us).take (k + 1) := nums_take_next hT.out hR rfl
                      have hO8 := hO.snocR (u := ⟨D, dd, t.xs⟩) hp8 ho8 hg8 hw8.1 (oD.alloc (.cells #[.slice D t.xs.length dd] 26)) hk7 (Nat.le_trans hsz0 hk7)
                      have hO9 := hO8.far (w' := w8.setCell ⟨g3, 4, none⟩ (.slice A8 (us'.length + 1) c8)) hbx (by decide) (by decide) (fun b hb => Below.heap_setCell _ _ _ _ hb)
                      have hz9 : Below w.heap.size w (w8.setCell ⟨g3, 4, none⟩ (.slice A8 (us'.length + 1) c8)) := hq5.setCell hg3 _
                      refine hK.out _ _ ?_ (fun hHeld => ?_)
                      · first
                          | exact SS.out _ hz9
                          | exact SS.out _ hq5
                      clear hK K
                      try simp only [Act.put, List.setIfInBounds_toArray]
                      refine wpAnyH_done (by kernel_rfl) ?_ _
                      refine NoPanic.normal ?_
                      clear hbx hby
                      generalize w8.setCell ⟨g3, 4, none⟩ (.slice A8 (us'.length + 1) c8) = w9 at *
                      have hres : Hid (OwS w g3 q hd a (nums ts) (nums us) os n (k + 1) w9) := Lib.hid ⟨A', c', ts', A8, c8, us' ++ [⟨D, dd, t.xs⟩], C', k', hb9, hr9, hO9, hW, hnx, hz9⟩
                      go_wp2_with fail
                      exact ⟨⟨k + 1, by omega, by go_num, hres⟩, by simp [intOf]; omega⟩
                    exact AllReadyH.nil
                  exact AllReadyH.nil
                exact AllReadyH.nil
              exact AllReadyH.nil
            exact AllReadyH.nil
        have i2 : (k : Int) < (n : Int) := by omega
        obtain ⟨t, bb, off, hT, htm, rfl, hbl, hc, hrow⟩ := HX.out.pick (k := k) hlt
        have hnt : t.xs.length ≤ 1048576 := HNS.out t htm
        have HROW := Lib.hid hrow
        have SS : Hid (∀ W', Below w.heap.size w W' → W'.cell? ⟨g, 3, none⟩ = some (.slice (some ⟨bb, off, none⟩) n c) ∧ W'.cell? ⟨bb, off + k, none⟩ = some (.slice t.A t.xs.length t.c)) := Lib.hid (fun W' z => ⟨(KF.out W' z).2.2.2.1, (z.cell (p := ⟨bb, off + k, none⟩) hbl).trans hc⟩)
        have hs3 := (SS.out _ hz).1
        clear hc hrow HS htl
        go_upto_region 5 with fail
        have hp : Below wr.heap.size wr wr.drew := below_drewN (Below.refl _ _) 1
        have hbx := hb.below' hp
        have hby := hr.below' hp
        have hq5 := hz.trans (hp.mono hsz0)
        refine wp_region_noPanic ?_
        refine wp_region_held_drew (S := (fun w' => w'.cell? ⟨g, 3, none⟩ = some (.slice (some ⟨bb, off, none⟩) n c) ∧ w'.cell? ⟨bb, off + k, none⟩ = some (.slice t.A t.xs.length t.c))) (by kernel_rfl) ?_ (fun hHeld => ?_)
        · exact SS.out _ hq5
        generalize wr.drew = Wc at *
        refine wpAnyH_take (i := 0) (v := ?_) rfl (by kernel_rfl) (by kernel_rfl) (by kernel_rfl) (fun _ _ _ h => h) (Or.inl ⟨by rfl, ?_⟩) (by assumption) ?_
        rotate_left
        · intro w hSw
          try dsimp only at hSw
          obtain ⟨hs0_, hs1_⟩ := hSw
          go_simp
          try with_reducible rfl
        try simp only [Act.put, List.setIfInBounds_toArray]
        refine wpAnyH_take (i := 2) (v := ?_) rfl (by kernel_rfl) (by kernel_rfl) (by kernel_rfl) (fun _ _ _ h => h) (Or.inl ⟨by rfl, ?_⟩) (by assumption) ?_
        rotate_left
        · intro w hSw
          try dsimp only at hSw
          obtain ⟨hs0_, hs1_⟩ := hSw
          go_simp
          try with_reducible rfl
        try simp only [Act.put]
        refine wpAnyH_take (i := 3) (v := ?_) rfl (by kernel_rfl) (by kernel_rfl) (by kernel_rfl) (fun _ _ _ h => h) (Or.inl ⟨by rfl, ?_⟩) (by assumption) ?_
        rotate_left
        · intro w hSw
          try dsimp only at hSw
          obtain ⟨hs0_, hs1_⟩ := hSw
          go_simp
          try with_reducible rfl
        try simp only [Act.put]
        refine wpAnyH_take (i := 4) (v := ?_) rfl (by kernel_rfl) (by kernel_rfl) (by kernel_rfl) (fun _ _ _ h => h) (Or.inl ⟨by rfl, ?_⟩) (by assumption) ?_
        rotate_left
        · intro w hSw
          try dsimp only at hSw
          obtain ⟨hs0_, hs1_⟩ := hSw
          go_simp
          try with_reducible rfl
        try simp only [Act.put]
        refine wpAnyH_take (i := 5) (v := ?_) rfl (by kernel_rfl) (by kernel_rfl) (by kernel_rfl) (fun _ _ _ h => h) (Or.inl ⟨by rfl, ?_⟩) (by assumption) ?_
        rotate_left
        · intro w hSw
          try dsimp only at hSw
          obtain ⟨hs0_, hs1_⟩ := hSw
          go_simp
          try with_reducible rfl
        try simp only [Act.put]
        refine wpAnyH_take (i := 6) (v := ?_) rfl (by kernel_rfl) (by kernel_rfl) (by kernel_rfl) (fun _ _ _ h => h) (Or.inl ⟨by rfl, ?_⟩) (by assumption) ?_
        rotate_left
        · intro w hSw
          try dsimp only at hSw
          obtain ⟨hs0_, hs1_⟩ := hSw
          go_simp
          try with_reducible rfl
        try simp only [Act.put]
        refine wpAnyH_take (i := 7) (v := ?_) rfl (by kernel_rfl) (by kernel_rfl) (by kernel_rfl) (fun _ _ _ h => h) (Or.inl ⟨by rfl, ?_⟩) (by assumption) ?_
        rotate_left
        · intro w hSw
          try dsimp only at hSw
          obtain ⟨hs0_, hs1_⟩ := hSw
          go_simp
          try with_reducible rfl
        try simp only [Act.put]
        refine wpAnyH_take (i := 8) (v := ?_) rfl (by kernel_rfl) (by kernel_rfl) (by kernel_rfl) (fun _ _ _ h => h) (Or.inl ⟨by rfl, ?_⟩) (by assumption) ?_
        rotate_left
        · intro w hSw
          try dsimp only at hSw
          obtain ⟨hs0_, hs1_⟩ := hSw
          go_simp
          try with_reducible rfl
        try simp only [Act.put]
        try simp only [List.getElem_toArray, List.getElem_cons_zero, List.getElem_cons_succ, List.setIfInBounds_toArray, List.set_cons_zero, List.set_cons_succ]
        refine wpAnyH_ready (rs := [1, 9]) (by kernel_rfl) (by simp) ?_
        refine AllReadyH.cons rfl (fun K hK => ?_) ?_
        · have xf := hbx.cell 3
          go_simp
          clear xf
          refine hK.out _ _ ?_ (fun hHeld => ?_)
          · first
              | exact SS.out _ hz9
              | exact SS.out _ hq5
          clear hK K
          try simp only [Act.put, List.setIfInBounds_toArray, List.set_cons_zero, List.set_cons_succ]
          try simp only [putAll, markAll, dstAt, Act.put, List.getElem_toArray, List.getElem?_toArray, List.getElem_cons_zero, List.getElem_cons_succ, List.getElem?_cons_zero, List.getElem?_cons_succ, Option.bind_some, List.setIfInBounds_toArray, List.set_cons_zero, List.set_cons_succ]
          refine wpAnyH_ready (rs := [9]) (by kernel_rfl) (by simp) ?_
          refine AllReadyH.cons rfl (fun K hK => ?_) ?_
          · go_simp
            refine (l00Own_any _ _ _ t.xs _ (HROW.out.below hq5) hnt).mono ?_
            rintro e W7 ⟨D, dd, rfl, oD, z7⟩
            have hk7 := hp.size
            replace hp := hp.trans (z7.mono hp.size)
            replace hq5 := hz.trans (hp.mono hsz0)
            replace hbx := hbx.below' z7
            replace hby := hby.below' z7
            refine hK.out _ _ ?_ (fun hHeld => ?_)
            · first
                | exact SS.out _ hz9
                | exact SS.out _ hq5
            clear hK K
            try simp only [Act.put, List.setIfInBounds_toArray, List.set_cons_zero, List.set_cons_succ]
            try simp only [putAll, markAll, dstAt, Act.put, List.getElem_toArray, List.getElem?_toArray, List.getElem_cons_zero, List.getElem_cons_succ, List.getElem?_cons_zero, List.getElem?_cons_succ, Option.bind_some, List.setIfInBounds_toArray, List.set_cons_zero, List.set_cons_succ]
            refine wpAnyH_ready (rs := [10]) (by kernel_rfl) (by simp) ?_
            refine AllReadyH.cons rfl (fun K hK => ?_) ?_
            · go_simp
              replace hby := hby.alloc (.cells #[.slice D t.xs.length dd] 26)
              replace hbx := hbx.alloc (.cells #[.slice D t.xs.length dd] 26)
              have hp8 := hp.alloc hp.size (.cells #[.slice D t.xs.length dd] 26)
              replace hq5 := hz.trans (hp8.mono hsz0)
              refine hK.out _ _ ?_ (fun hHeld => ?_)
              · first
                  | exact SS.out _ hz9
                  | exact SS.out _ hq5
              clear hK K
              try simp only [Act.put, List.setIfInBounds_toArray, List.set_cons_zero, List.set_cons_succ]
              try simp only [putAll, markAll, dstAt, Act.put, List.getElem_toArray, List.getElem?_toArray, List.getElem_cons_zero, List.getElem_cons_succ, List.getElem?_cons_zero, List.getElem?_cons_succ, Option.bind_some, List.setIfInBounds_toArray, List.set_cons_zero, List.set_cons_succ]
              refine wpAnyH_ready (rs := [11]) (by kernel_rfl) (by simp) ?_
              refine AllReadyH.cons rfl (fun K hK => ?_) ?_
              · rw [if_pos (by rfl)]
                have hsz := hp8.size
                refine wp_append_Own (.tmp 36) (.tmp 45) rfl elII (lo := w.heap.size) rfl ((hO.below hp8).1.1) rfl (Rd.new1 W7 _ _) (by simp [Value.oneCell']) (by omega) (by simp only [maxLen]; omega) (by omega) ?_
                intro A8 c8 w8 ho8 hg8 hw8
                replace hq5 := (((hO.below hp8).1.1)).below_of hq5 hg8 (by omega)
                replace hby := hby.growt ((hO.below hp8).1.1) hg8 (by decide)
                replace hbx := hbx.growt ((hO.below hp8).1.1) hg8 (by decide)
                refine hK.out _ _ ?_ (fun hHeld => ?_)
                · first
                    | exact SS.out _ hz9
                    | exact SS.out _ hq5
                clear hK K
                try simp only [Act.put, List.setIfInBounds_toArray]
                refine wpAnyH_take (i := 12) (v := ?_) rfl (by kernel_rfl) (by kernel_rfl) (by kernel_rfl) (fun _ _ _ h => h) (Or.inl ⟨by rfl, ?_⟩) (by assumption) ?_
                rotate_left
                · intro w hSw
                  try dsimp only at hSw
                  obtain ⟨hs0_, hs1_⟩ := hSw
                  go_simp
                  try with_reducible rfl
                try simp only [Act.put]
                try simp only [List.getElem_toArray, List.getElem_cons_zero, List.getElem_cons_succ, List.setIfInBounds_toArray, List.set_cons_zero, List.set_cons_succ]
                refine wpAnyH_ready (rs := [13]) (by kernel_rfl) (by simp) ?_
                refine AllReadyH.cons rfl (fun K hK => ?_) ?_
                · have xf := hbx.cell 3
                  have ff := hbx.frozen 3
                  go_simp
                  have hb9 : Blk (w8.setCell ⟨g3, 3, none⟩ (.slice A8 (ts'.length + 1) c8)) g3 31 #[.int .i64 q, .int .i64 hd, .int .i64 a, .slice A8 (ts' ++ [(⟨D, dd, t.xs⟩ : Sl)]).length c8, .slice B' us'.length d', .slice C' os.length k'] := by
                    rw [List.length_append]
                    exact hbx.set_ 3 _
                  have hr9 : Blk (w8.setCell ⟨g3, 3, none⟩ (.slice A8 (ts'.length + 1) c8)) w.heap.size 31 #[.int .i64 0, .int .i64 0, .int .i64 0, .slice none 0 0, .slice none 0 0, .slice none 0 0] := hby.keptH (Below.heap_setCell _ _ _ _ (Ne.symm hgW))
                  have hnx : nums (ts' ++ [⟨D, dd, t.xs⟩]) = (nums ts).take (k + 1) := nums_take_next hT.out hW rfl
                  have hO8 := hO.snocW (u := ⟨D, dd, t.xs⟩) hp8 ho8 hg8 hw8.1 (oD.alloc (.cells #[.slice D t.xs.length dd] 26)) hk7 (Nat.le_trans hsz0 hk7)
                  have hO9 := hO8.far (w' := w8.setCell ⟨g3, 3, none⟩ (.slice A8 (ts'.length + 1) c8)) hbx (by decide) (by decide) (fun b hb => Below.heap_setCell _ _ _ _ hb)
                  have hz9 : Below w.heap.size w (w8.setCell ⟨g3, 3, none⟩ (.slice A8 (ts'.length + 1) c8)) := hq5.setCell hg3 _
                  refine hK.out _ _ ?_ (fun hHeld => ?_)
                  · first
                      | exact SS.out _ hz9
                      | exact SS.out _ hq5
                  clear hK K
                  try simp only [Act.put, List.setIfInBounds_toArray]
                  refine wpAnyH_done (by kernel_rfl) ?_ _
                  refine NoPanic.normal ?_
                  clear hbx hby
                  generalize w8.setCell ⟨g3, 3, none⟩ (.slice A8 (ts'.length + 1) c8) = w9 at *
                  have hres : Hid (OwS w g3 q hd a (nums ts) (nums us) os (k + 1) 0 w9) := Lib.hid ⟨A8, c8, ts' ++ [⟨D, dd, t.xs⟩], B', d', us', C', k', hb9, hr9, hO9, hnx, hR, hz9⟩
                  go_wp2_with fail
                  exact ⟨⟨k + 1, by omega, by go_num, hres⟩, by simp [intOf]; omega⟩
                exact AllReadyH.nil
              exact AllReadyH.nil
            exact AllReadyH.nil
          exact AllReadyH.nil
        refine AllReadyH.cons rfl (fun K hK => ?_) ?_
        · go_simp
          refine (l00Own_any _ _ _ t.xs _ (HROW.out.below hq5) hnt).mono ?_
          rintro e W7 ⟨D, dd, rfl, oD, z7⟩
          have hk7 := hp.size
          replace hp := hp.trans (z7.mono hp.size)
          replace hq5 := hz.trans (hp.mono hsz0)
          replace hbx := hbx.below' z7
          replace hby := hby.below' z7
          refine hK.out _ _ ?_ (fun hHeld => ?_)
          · first
              | exact SS.out _ hz9
              | exact SS.out _ hq5
          clear hK K
          try simp only [Act.put, List.setIfInBounds_toArray, List.set_cons_zero, List.set_cons_succ]
          try simp only [putAll, markAll, dstAt, Act.put, List.getElem_toArray, List.getElem?_toArray, List.getElem_cons_zero, List.getElem_cons_succ, List.getElem?_cons_zero, List.getElem?_cons_succ, Option.bind_some, List.setIfInBounds_toArray, List.set_cons_zero, List.set_cons_succ]
          refine wpAnyH_ready (rs := [1, 10]) (by kernel_rfl) (by simp) ?_
          refine AllReadyH.cons rfl (fun K hK => ?_) ?_
          · have xf := hbx.cell 3
            go_simp
            clear xf
            refine hK.out _ _ ?_ (fun hHeld => ?_)
            · first
                | exact SS.out _ hz9
                | exact SS.out _ hq5
            clear hK K
            try simp only [Act.put, List.setIfInBounds_toArray, List.set_cons_zero, List.set_cons_succ]
            try simp only [putAll, markAll, dstAt, Act.put, List.getElem_toArray, List.getElem?_toArray, List.getElem_cons_zero, List.getElem_cons_succ, List.getElem?_cons_zero, List.getElem?_cons_succ, Option.bind_some, List.setIfInBounds_toArray, List.set_cons_zero, List.set_cons_succ]
            refine wpAnyH_ready (rs := [10]) (by kernel_rfl) (by simp) ?_
            refine AllReadyH.cons rfl (fun K hK => ?_) ?_
            · go_simp
              replace hby := hby.alloc (.cells #[.slice D t.xs.length dd] 26)
              replace hbx := hbx.alloc (.cells #[.slice D t.xs.length dd] 26)
              have hp8 := hp.alloc hp.size (.cells #[.slice D t.xs.length dd] 26)
              replace hq5 := hz.trans (hp8.mono hsz0)
              refine hK.out _ _ ?_ (fun hHeld => ?_)
              · first
                  | exact SS.out _ hz9
                  | exact SS.out _ hq5
              clear hK K
              try simp only [Act.put, List.setIfInBounds_toArray, List.set_cons_zero, List.set_cons_succ]
              try simp only [putAll, markAll, dstAt, Act.put, List.getElem_toArray, List.getElem?_toArray, List.getElem_cons_zero, List.getElem_cons_succ, List.getElem?_cons_zero, List.getElem?_cons_succ, Option.bind_some, List.setIfInBounds_toArray, List.set_cons_zero, List.set_cons_succ]
              refine wpAnyH_ready (rs := [11]) (by kernel_rfl) (by simp) ?_
              refine AllReadyH.cons rfl (fun K hK => ?_) ?_
              · rw [if_pos (by rfl)]
                have hsz := hp8.size
                refine wp_append_Own (.tmp 36) (.tmp 45) rfl elII (lo := w.heap.size) rfl ((hO.below hp8).1.1) rfl (Rd.new1 W7 _ _) (by simp [Value.oneCell']) (by omega) (by simp only [maxLen]; omega) (by omega) ?_
                intro A8 c8 w8 ho8 hg8 hw8
                replace hq5 := (((hO.below hp8).1.1)).below_of hq5 hg8 (by omega)
                replace hby := hby.growt ((hO.below hp8).1.1) hg8 (by decide)
                replace hbx := hbx.growt ((hO.below hp8).1.1) hg8 (by decide)
                refine hK.out _ _ ?_ (fun hHeld => ?_)
                · first
                    | exact SS.out _ hz9
                    | exact SS.out _ hq5
                clear hK K
                try simp only [Act.put, List.setIfInBounds_toArray]
                refine wpAnyH_take (i := 12) (v := ?_) rfl (by kernel_rfl) (by kernel_rfl) (by kernel_rfl) (fun _ _ _ h => h) (Or.inl ⟨by rfl, ?_⟩) (by assumption) ?_
                rotate_left
                · intro w hSw
                  try dsimp only at hSw
                  obtain ⟨hs0_, hs1_⟩ := hSw
                  go_simp
                  try with_reducible rfl
                try simp only [Act.put]
                try simp only [List.getElem_toArray, List.getElem_cons_zero, List.getElem_cons_succ, List.setIfInBounds_toArray, List.set_cons_zero, List.set_cons_succ]
                refine wpAnyH_ready (rs := [13]) (by kernel_rfl) (by simp) ?_
                refine AllReadyH.cons rfl (fun K hK => ?_) ?_
                · have xf := hbx.cell 3
                  have ff := hbx.frozen 3
                  go_simp
                  have hb9 : Blk (w8.setCell ⟨g3, 3, none⟩ (.slice A8 (ts'.length + 1) c8)) g3 31 #[.int .i64 q, .int .i64 hd, .int .i64 a, .slice A8 (ts' ++ [(⟨D, dd, t.xs⟩ : Sl)]).length c8, .slice B' us'.length d', .slice C' os.length k'] := by
                    rw [List.length_append]
                    exact hbx.set_ 3 _
                  have hr9 : Blk (w8.setCell ⟨g3, 3, none⟩ (.slice A8 (ts'.length + 1) c8)) w.heap.size 31 #[.int .i64 0, .int .i64 0, .int .i64 0, .slice none 0 0, .slice none 0 0, .slice none 0 0] := hby.keptH (Below.heap_setCell _ _ _ _ (Ne.symm hgW))
                  have hnx : nums (ts' ++ [⟨D, dd, t.xs⟩]) = (nums ts).take (k + 1) := nums_take_next hT.out hW rfl
                  have hO8 := hO.snocW (u := ⟨D, dd, t.xs⟩) hp8 ho8 hg8 hw8.1 (oD.alloc (.cells #[.slice D t.xs.length dd] 26)) hk7 (Nat.le_trans hsz0 hk7)
                  have hO9 := hO8.far (w' := w8.setCell ⟨g3, 3, none⟩ (.slice A8 (ts'.length + 1) c8)) hbx (by decide) (by decide) (fun b hb => Below.heap_setCell _ _ _ _ hb)
                  have hz9 : Below w.heap.size w (w8.setCell ⟨g3, 3, none⟩ (.slice A8 (ts'.length + 1) c8)) := hq5.setCell hg3 _
                  refine hK.out _ _ ?_ (fun hHeld => ?_)
                  · first
                      | exact SS.out _ hz9
                      | exact SS.out _ hq5
                  clear hK K
                  try simp only [Act.put, List.setIfInBounds_toArray]
                  refine wpAnyH_done (by kernel_rfl) ?_ _
                  refine NoPanic.normal ?_
                  clear hbx hby
                  generalize w8.setCell ⟨g3, 3, none⟩ (.slice A8 (ts'.length + 1) c8) = w9 at *
                  have hres : Hid (OwS w g3 q hd a (nums ts) (nums us) os (k + 1) 0 w9) := Lib.hid ⟨A8, c8, ts' ++ [⟨D, dd, t.xs⟩], B', d', us', C', k', hb9, hr9, hO9, hnx, hR, hz9⟩
                  go_wp2_with fail
                  exact ⟨⟨k + 1, by omega, by go_num, hres⟩, by simp [intOf]; omega⟩
                exact AllReadyH.nil
              exact AllReadyH.nil
            exact AllReadyH.nil
          refine AllReadyH.cons rfl (fun K hK => ?_) ?_
          · go_simp
            replace hby := hby.alloc (.cells #[.slice D t.xs.length dd] 26)
            replace hbx := hbx.alloc (.cells #[.slice D t.xs.length dd] 26)
            have hp8 := hp.alloc hp.size (.cells #[.slice D t.xs.length dd] 26)
            replace hq5 := hz.trans (hp8.mono hsz0)
            refine hK.out _ _ ?_ (fun hHeld => ?_)
            · first
                | exact SS.out _ hz9
                | exact SS.out _ hq5
            clear hK K
            try simp only [Act.put, List.setIfInBounds_toArray, List.set_cons_zero, List.set_cons_succ]
            try simp only [putAll, markAll, dstAt, Act.put, List.getElem_toArray, List.getElem?_toArray, List.getElem_cons_zero, List.getElem_cons_succ, List.getElem?_cons_zero, List.getElem?_cons_succ, Option.bind_some, List.setIfInBounds_toArray, List.set_cons_zero, List.set_cons_succ]
            refine wpAnyH_ready (rs := [1]) (by kernel_rfl) (by simp) ?_
            refine AllReadyH.cons rfl (fun K hK => ?_) ?_
            · have xf := hbx.cell 3
              go_simp
              clear xf
              refine hK.out _ _ ?_ (fun hHeld => ?_)
              · first
                  | exact SS.out _ hz9
                  | exact SS.out _ hq5
              clear hK K
              try simp only [Act.put, List.setIfInBounds_toArray, List.set_cons_zero, List.set_cons_succ]
              try simp only [putAll, markAll, dstAt, Act.put, List.getElem_toArray, List.getElem?_toArray, List.getElem_cons_zero, List.getElem_cons_succ, List.getElem?_cons_zero, List.getElem?_cons_succ, Option.bind_some, List.setIfInBounds_toArray, List.set_cons_zero, List.set_cons_succ]
              refine wpAnyH_ready (rs := [11]) (by kernel_rfl) (by simp) ?_
              refine AllReadyH.cons rfl (fun K hK => ?_) ?_
              · rw [if_pos (by rfl)]
                have hsz := hp8.size
                refine wp_append_Own (.tmp 36) (.tmp 45) rfl elII (lo := w.heap.size) rfl ((hO.below hp8).1.1) rfl (Rd.new1 W7 _ _) (by simp [Value.oneCell']) (by omega) (by simp only [maxLen]; omega) (by omega) ?_
                intro A8 c8 w8 ho8 hg8 hw8
                replace hq5 := (((hO.below hp8).1.1)).below_of hq5 hg8 (by omega)
                replace hby := hby.growt ((hO.below hp8).1.1) hg8 (by decide)
                replace hbx := hbx.growt ((hO.below hp8).1.1) hg8 (by decide)
                refine hK.out _ _ ?_ (fun hHeld => ?_)
                · first
                    | exact SS.out _ hz9
                    | exact SS.out _ hq5
                clear hK K
                try simp only [Act.put, List.setIfInBounds_toArray]
                refine wpAnyH_take (i := 12) (v := ?_) rfl (by kernel_rfl) (by kernel_rfl) (by kernel_rfl) (fun _ _ _ h => h) (Or.inl ⟨by rfl, ?_⟩) (by assumption) ?_
                rotate_left
                · intro w hSw
                  try dsimp only at hSw
                  obtain ⟨hs0_, hs1_⟩ := hSw
                  go_simp
                  try with_reducible rfl
                try simp only [Act.put]
                try simp only [List.getElem_toArray, List.getElem_cons_zero, List.getElem_cons_succ, List.setIfInBounds_toArray, List.set_cons_zero, List.set_cons_succ]
                refine wpAnyH_ready (rs := [13]) (by kernel_rfl) (by simp) ?_
                refine AllReadyH.cons rfl (fun K hK => ?_) ?_
                · have xf := hbx.cell 3
                  have ff := hbx.frozen 3
                  go_simp
                  have hb9 : Blk (w8.setCell ⟨g3, 3, none⟩ (.slice A8 (ts'.length + 1) c8)) g3 31 #[.int .i64 q, .int .i64 hd, .int .i64 a, .slice A8 (ts' ++ [(⟨D, dd, t.xs⟩ : Sl)]).length c8, .slice B' us'.length d', .slice C' os.length k'] := by
                    rw [List.length_append]
                    exact hbx.set_ 3 _
                  have hr9 : Blk (w8.setCell ⟨g3, 3, none⟩ (.slice A8 (ts'.length + 1) c8)) w.heap.size 31 #[.int .i64 0, .int .i64 0, .int .i64 0, .slice none 0 0, .slice none 0 0, .slice none 0 0] := hby.keptH (Below.heap_setCell _ _ _ _ (Ne.symm hgW))
                  have hnx : nums (ts' ++ [⟨D, dd, t.xs⟩]) = (nums ts).take (k + 1) := nums_take_next hT.out hW rfl
                  have hO8 := hO.snocW (u := ⟨D, dd, t.xs⟩) hp8 ho8 hg8 hw8.1 (oD.alloc (.cells #[.slice D t.xs.length dd] 26)) hk7 (Nat.le_trans hsz0 hk7)
                  have hO9 := hO8.far (w' := w8.setCell ⟨g3, 3, none⟩ (.slice A8 (ts'.length + 1) c8)) hbx (by decide) (by decide) (fun b hb => Below.heap_setCell _ _ _ _ hb)
                  have hz9 : Below w.heap.size w (w8.setCell ⟨g3, 3, none⟩ (.slice A8 (ts'.length + 1) c8)) := hq5.setCell hg3 _
                  refine hK.out _ _ ?_ (fun hHeld => ?_)
                  · first
                      | exact SS.out _ hz9
                      | exact SS.out _ hq5
                  clear hK K
                  try simp only [Act.put, List.setIfInBounds_toArray]
                  refine wpAnyH_done (by kernel_rfl) ?_ _
                  refine NoPanic.normal ?_
                  clear hbx hby
                  generalize w8.setCell ⟨g3, 3, none⟩ (.slice A8 (ts'.length + 1) c8) = w9 at *
                  have hres : Hid (OwS w g3 q hd a (nums ts) (nums us) os (k + 1) 0 w9) := Lib.hid ⟨A8, c8, ts' ++ [⟨D, dd, t.xs⟩], B', d', us', C', k', hb9, hr9, hO9, hnx, hR, hz9⟩
                  go_wp2_with fail
                  exact ⟨⟨k + 1, by omega, by go_num, hres⟩, by simp [intOf]; omega⟩
                exact AllReadyH.nil
              exact AllReadyH.nil
            exact AllReadyH.nil
          exact AllReadyH.nil
        exact AllReadyH.nil
    exact AllReadyH.nil
end Go.Proofs.Ytbpofkggoolmpaa
