/-
  Contract of impl's BranchWhile (printed by gen/brj.py).
-/
import Derived.Test.YtfheepjfpgiaoaaPkBranch0
import Derived.Test.YtfheepjfpgiaoaaBatchA
import Derived.Test.YtfheepjfpgiaoaaAppF
import Derived.Deep.RegionHeld3
namespace Go.Proofs.Ytfheepjfpgiaoaa
open Go.RowKit

theorem lit2_own (w : World) (t u : Ce) (lo : Nat) (h : lo ≤ w.heap.size) : Own (w.alloc (.cells #[.int .i64 t.k, .int .i64 t.v, .int .i64 t.l, .slice t.A t.e.length t.c, .int .i64 u.k, .int .i64 u.v, .int .i64 u.l, .slice u.A u.e.length u.c] 99)) lo 99 4 (some ⟨w.heap.size, 0, none⟩) 2 2 ([t, u].flatMap Ce.cells) :=
  Own.lit w #[.int .i64 t.k, .int .i64 t.v, .int .i64 t.l, .slice t.A t.e.length t.c, .int .i64 u.k, .int .i64 u.v, .int .i64 u.l, .slice u.A u.e.length u.c] _ 2 4 lo rfl (by simp [maxLen]) h
theorem lit1c_own (w : World) (t : Ce) (lo : Nat) (h : lo ≤ w.heap.size) : Own (w.alloc (.cells #[.int .i64 t.k, .int .i64 t.v, .int .i64 t.l, .slice t.A t.e.length t.c] 99)) lo 99 4 (some ⟨w.heap.size, 0, none⟩) 1 1 ([t].flatMap Ce.cells) :=
  Own.lit w #[.int .i64 t.k, .int .i64 t.v, .int .i64 t.l, .slice t.A t.e.length t.c] _ 1 4 lo rfl (by simp [maxLen]) h
/-- A literal of commands, full. -/
def LitR (lo : Nat) (cs : List Cmd) (v : Value) (w : World) : Prop := ∃ g ts, v = .slice (some ⟨g, 0, none⟩) (List.length ts) (List.length ts) ∧ cmds ts = cs ∧ Own w lo 99 4 (some ⟨g, 0, none⟩) ts.length ts.length (ts.flatMap Ce.cells) ∧ ∀ t ∈ ts, S2 w t.A t.e.length t.e
theorem LitR.stay {lo : Nat} {cs : List Cmd} (v : Value) (w1 w2 : World) (h : LitR lo cs v w1) (z : Below w1.heap.size w1 w2) : LitR lo cs v w2 := by
  obtain ⟨g, ts, e, h1, h2, h3⟩ := h
  exact ⟨g, ts, e, h1, h2.below z, fun t ht => (h3 t ht).below z⟩
/-- Three rows. -/
def RowsV (a b c : List Cmd) (v : Value) (w : World) : Prop := ∃ g r1 r2 r3, v = .slice (some ⟨g, 0, none⟩) 3 3 ∧ cmds (Cr.ts r1) = a ∧ cmds (Cr.ts r2) = b ∧ cmds (Cr.ts r3) = c ∧ SCC w (some ⟨g, 0, none⟩) 3 [r1, r2, r3]
theorem RowsV.stay {a b c : List Cmd} (v : Value) (w1 w2 : World) (h : RowsV a b c v w1) (z : Below w1.heap.size w1 w2) : RowsV a b c v w2 := by
  obtain ⟨g, r1, r2, r3, e, h1, h2, h3, h4⟩ := h
  exact ⟨g, r1, r2, r3, e, h1, h2, h3, h4.below z⟩
theorem rows3 (w : World) (r1 r2 r3 : Cr) (h1 : SC w r1.A r1.ts.length r1.ts) (h2 : SC w r2.A r2.ts.length r2.ts) (h3 : SC w r3.A r3.ts.length r3.ts) : SCC (w.alloc (.cells #[.slice r1.A r1.ts.length r1.c, .slice r2.A r2.ts.length r2.c, .slice r3.A r3.ts.length r3.c] 28)) (some ⟨w.heap.size, 0, none⟩) 3 [r1, r2, r3] := by
  refine ⟨(Own.lit w #[.slice r1.A r1.ts.length r1.c, .slice r2.A r2.ts.length r2.c, .slice r3.A r3.ts.length r3.c] 28 3 1 w.heap.size rfl (by simp [maxLen]) (Nat.le_refl _)).rd, fun r hr => ?_⟩
  simp only [List.mem_cons, List.not_mem_nil, or_false] at hr
  rcases hr with rfl | rfl | rfl
  · exact h1.alloc _
  · exact h2.alloc _
  · exact h3.alloc _
/-- The two values that shortWhile returns. -/
def TupV (lo : Nat) (cs : List Cmd) (v : Value) (w : World) : Prop := ∃ x y, v = .tuple #[x, y] ∧ ((80 < cs.length ∧ x = .slice none 0 0 ∧ y = .int .i64 5) ∨ (cs.length ≤ 80 ∧ y = .int .i64 0 ∧ ∃ A c ts, x = .slice A (List.length ts) c ∧ cmds ts = cs ∧ OC w lo A ts.length c ts))
theorem TupV.stay {lo : Nat} {cs : List Cmd} (v : Value) (w1 w2 : World) (h : TupV lo cs v w1) (z : Below w1.heap.size w1 w2) : TupV lo cs v w2 := by
  obtain ⟨x, y, e, h1 | ⟨h1, h2, A, c, ts, h3, h4, h5⟩⟩ := h
  · exact ⟨x, y, e, .inl h1⟩
  · exact ⟨x, y, e, .inr ⟨h1, h2, A, c, ts, h3, h4, h5.below z⟩⟩
theorem ShortP.tup {w w' : World} {cs : List Cmd} {e : Ending} {lo : Nat} (h : ShortP w cs e w') (hlo : lo ≤ w.heap.size) : ∃ v, e = .returned v ∧ TupV lo cs v w' ∧ Below w.heap.size w w' := by
  unfold ShortP at h
  split at h
  · rename_i h80
    obtain ⟨rfl, rfl⟩ := h
    exact ⟨_, rfl, ⟨_, _, rfl, .inl ⟨h80, rfl, rfl⟩⟩, Below.refl _ _⟩
  · rename_i h80
    obtain ⟨A, c, ts, rfl, h1, h2, h3⟩ := h
    exact ⟨_, rfl, ⟨_, _, rfl, .inr ⟨by omega, rfl, A, c, ts, rfl, h1, h2.mono hlo⟩⟩, h3⟩
/-- What BranchWhile returns. -/
def BranchP (w : World) (cs : List Cmd) (e : Ending) (w' : World) : Prop := ∃ v, e = .returned v ∧ TupV w.heap.size cs v w' ∧ Below w.heap.size w w'
set_option maxRecDepth 100000 in
set_option maxHeartbeats 8000000 in
theorem branchWhile_any (E : Option Addr) (m d : Nat) (rs : List R2) (Y : Option Addr) (n1 c1 : Nat) (ys : List Ce) (N : Option Addr) (n2 c2 : Nat) (ns : List Ce) (w : World) (he : S2 w E m rs) (hee : isEx rs = true) (hy : SC w Y n1 ys) (hyv : validWh (cmds ys) = true) (hyc : n1 ≤ c1) (hn : SC w N n2 ns) (hnv : validWh (cmds ns) = true) (hnc : n2 ≤ c2)
    (hle : ∀ c ∈ brF rs (cmds ys) (cmds ns), c.e.length ≤ 10000) (hyr : ∀ t ∈ ys, t.e.length ≤ 1048576) (hnr : ∀ t ∈ ns, t.e.length ≤ 1048576) :
    Calls Try.prog 24 #[.slice E m d, .slice Y n1 c1, .slice N n2 c2, .int .i64 4, .int .i64 5] w (BranchP w (brF rs (cmds ys) (cmds ns))) := by
  have hcall := Try.call85
  have hyl := (validWh_get hyv).1
  have hnl := (validWh_get hnv).1
  have hml : rs.length ≤ 40 := by unfold isEx at hee; rw [Bool.and_eq_true, decide_eq_true_iff] at hee; exact hee.1
  have e1 := he.len
  have e2 := hy.len
  have e3 := hn.len
  subst e1; subst e2; subst e3
  have HYL : Hid ((cmds ys).length ≤ 80) := Lib.hid hyl
  have HNL : Hid ((cmds ns).length ≤ 80) := Lib.hid hnl
  rw [cmds_len] at hyl hnl
  have HLB := Lib.hid hle
  have HVE := Lib.hid (fun (W : World) (z : Below w.heap.size w W) => validExpr_any E rs.length d rs W (he.below z) (by omega))
  have HVY := Lib.hid (fun (W : World) (z : Below w.heap.size w W) => validWhile_any Y ys.length c1 ys W (hy.below z) (by omega) hyc hyr)
  have HVN := Lib.hid (fun (W : World) (z : Below w.heap.size w W) => validWhile_any N ns.length c2 ns W (hn.below z) (by omega) hnc hnr)
  rw [hee] at HVE
  rw [hyv] at HVY
  rw [hnv] at HVN
  have HE0 := Lib.hid he
  have HY0 := Lib.hid hy
  have HN0 := Lib.hid hn
  clear he hee hy hyv hyc hn hnv hnc hle hyr hnr
  go_enter Try.func24, Try.ntmps24
  go_wp2_with fail
  refine (HVE.out w (Below.refl _ _)).mono ?_
  rintro e wa ⟨rfl, za⟩
  go_wp2_with fail
  refine (HVY.out wa za).mono ?_
  rintro e wb ⟨rfl, zb⟩
  have yb := za.trans (zb.mono za.size)
  go_wp2_with fail
  refine (HVN.out wb yb).mono ?_
  rintro e wc ⟨rfl, zc⟩
  have yc := yb.trans (zc.mono yb.size)
  have HYC := Lib.hid yc
  clear za zb yb zc HVE HVY HVN
  obtain ⟨V, hW_⟩ : ∃ W_, W_ = wc.alloc (.cells #[.int .i64 0, .int .i64 0] 118) := ⟨_, rfl⟩
  have b6 : Blk V wc.heap.size 118 #[.int .i64 0, .int .i64 0] := by rw [hW_]; exact Blk.new wc _ _
  have z6 : Below wc.heap.size wc V := by rw [hW_]; exact (Below.refl _ _).alloc (Nat.le_refl _) _
  have HV := Lib.hid hW_
  clear hW_
  have y6 : Below w.heap.size w V := yc.trans (z6.mono yc.size)
  go_upto_region 7 with (go_at_call 84; refine (isVar_any _ _).mono ?_; rintro e w' ⟨rfl, rfl⟩)
  rw [← HV.out]
  have HB : Hid (∀ w', Below V.heap.size V w' → w'.cell? ⟨wc.heap.size, 0, none⟩ = some (.int .i64 0) ∧ w'.cell? ⟨wc.heap.size, 1, none⟩ = some (.int .i64 0)) := Lib.hid (fun w' z => ⟨(b6.below' z).cell 0, (b6.below' z).cell 1⟩)
  have HE : Hid (∀ w', Below V.heap.size V w' → S2 w' E rs.length rs) := Lib.hid (fun w' z => HE0.out.below (y6.trans (z.mono y6.size)))
  have HY : Hid (∀ w', Below V.heap.size V w' → SC w' Y ys.length ys) := Lib.hid (fun w' z => HY0.out.below (y6.trans (z.mono y6.size)))
  have HN : Hid (∀ w', Below V.heap.size V w' → SC w' N ns.length ns) := Lib.hid (fun w' z => HN0.out.below (y6.trans (z.mono y6.size)))
  have hp0 : Below V.heap.size V V.drew := below_drewN (Below.refl _ _) 1
  have hwV := y6.size
  have HY6 := Lib.hid y6
  obtain ⟨B, hB⟩ : ∃ B, wc.heap.size = B := ⟨_, rfl⟩
  rw [hB] at HB ⊢
  clear b6 z6 hB y6 HE0 HY0 HN0 HYC yc HV
  refine wp_region_noPanic ?_
  refine wp_region_held_drew (S := (fun w' => w'.cell? ⟨B, 0, none⟩ = some (.int .i64 0) ∧ w'.cell? ⟨B, 1, none⟩ = some (.int .i64 0))) (by kernel_rfl) ?_ (fun hHeld => ?_)
  · exact HB.out _ hp0
  generalize V.drew = Wc at *
  refine wpAnyH_take (i := 0) (v := ?_) rfl (by kernel_rfl) (by kernel_rfl) (by kernel_rfl) (fun _ _ _ h => h) (Or.inl ⟨by rfl, ?_⟩) (by assumption) ?_
  rotate_left
  · intro w hSw
    try dsimp only at hSw
    obtain ⟨hs0_, hs1_⟩ := hSw
    go_simp
    try with_reducible rfl
  try simp only [Act.put, List.setIfInBounds_toArray]
  refine wpAnyH_take (i := 1) (v := ?_) rfl (by kernel_rfl) (by kernel_rfl) (by kernel_rfl) (fun _ _ _ h => h) (Or.inl ⟨by rfl, ?_⟩) (by assumption) ?_
  rotate_left
  · intro w hSw
    try dsimp only at hSw
    obtain ⟨hs0_, hs1_⟩ := hSw
    go_simp
    try with_reducible rfl
  try simp only [Act.put]
  refine wpAnyH_take (i := 3) (v := ?_) rfl (by kernel_rfl) (by kernel_rfl) (by kernel_rfl) (fun _ _ _ h => h) (Or.inl ⟨by rfl, ?_⟩) (by assumption) ?_
  rotate_left
  · intro w hSw
    try dsimp only at hSw
    obtain ⟨hs0_, hs1_⟩ := hSw
    go_simp
    try with_reducible rfl
  try simp only [Act.put]
  refine wpAnyH_take (i := 4) (v := ?_) rfl (by kernel_rfl) (by kernel_rfl) (by kernel_rfl) (fun _ _ _ h => h) (Or.inl ⟨by rfl, ?_⟩) (by assumption) ?_
  rotate_left
  · intro w hSw
    try dsimp only at hSw
    obtain ⟨hs0_, hs1_⟩ := hSw
    go_simp
    try with_reducible rfl
  try simp only [Act.put]
  refine wpAnyH_take (i := 5) (v := ?_) rfl (by kernel_rfl) (by kernel_rfl) (by kernel_rfl) (fun _ _ _ h => h) (Or.inl ⟨by rfl, ?_⟩) (by assumption) ?_
  rotate_left
  · intro w hSw
    try dsimp only at hSw
    obtain ⟨hs0_, hs1_⟩ := hSw
    go_simp
    try with_reducible rfl
  try simp only [Act.put]
  refine wpAnyH_take (i := 6) (v := ?_) rfl (by kernel_rfl) (by kernel_rfl) (by kernel_rfl) (fun _ _ _ h => h) (Or.inl ⟨by rfl, ?_⟩) (by assumption) ?_
  rotate_left
  · intro w hSw
    try dsimp only at hSw
    obtain ⟨hs0_, hs1_⟩ := hSw
    go_simp
    try with_reducible rfl
  try simp only [Act.put]
  refine wpAnyH_take (i := 10) (v := ?_) rfl (by kernel_rfl) (by kernel_rfl) (by kernel_rfl) (fun _ _ _ h => h) (Or.inl ⟨by rfl, ?_⟩) (by assumption) ?_
  rotate_left
  · intro w hSw
    try dsimp only at hSw
    obtain ⟨hs0_, hs1_⟩ := hSw
    go_simp
    try with_reducible rfl
  try simp only [Act.put]
  refine wpAnyH_take (i := 11) (v := ?_) rfl (by kernel_rfl) (by kernel_rfl) (by kernel_rfl) (fun _ _ _ h => h) (Or.inl ⟨by rfl, ?_⟩) (by assumption) ?_
  rotate_left
  · intro w hSw
    try dsimp only at hSw
    obtain ⟨hs0_, hs1_⟩ := hSw
    go_simp
    try with_reducible rfl
  try simp only [Act.put]
  refine wpAnyH_take (i := 13) (v := ?_) rfl (by kernel_rfl) (by kernel_rfl) (by kernel_rfl) (fun _ _ _ h => h) (Or.inl ⟨by rfl, ?_⟩) (by assumption) ?_
  rotate_left
  · intro w hSw
    try dsimp only at hSw
    obtain ⟨hs0_, hs1_⟩ := hSw
    go_simp
    try with_reducible rfl
  try simp only [Act.put]
  refine wpAnyH_take (i := 14) (v := ?_) rfl (by kernel_rfl) (by kernel_rfl) (by kernel_rfl) (fun _ _ _ h => h) (Or.inl ⟨by rfl, ?_⟩) (by assumption) ?_
  rotate_left
  · intro w hSw
    try dsimp only at hSw
    obtain ⟨hs0_, hs1_⟩ := hSw
    go_simp
    try with_reducible rfl
  try simp only [Act.put]
  refine wpAnyH_take (i := 17) (v := ?_) rfl (by kernel_rfl) (by kernel_rfl) (by kernel_rfl) (fun _ _ _ h => h) (Or.inl ⟨by rfl, ?_⟩) (by assumption) ?_
  rotate_left
  · intro w hSw
    try dsimp only at hSw
    obtain ⟨hs0_, hs1_⟩ := hSw
    go_simp
    try with_reducible rfl
  try simp only [Act.put]
  refine wpAnyH_take (i := 18) (v := ?_) rfl (by kernel_rfl) (by kernel_rfl) (by kernel_rfl) (fun _ _ _ h => h) (Or.inl ⟨by rfl, ?_⟩) (by assumption) ?_
  rotate_left
  · intro w hSw
    try dsimp only at hSw
    obtain ⟨hs0_, hs1_⟩ := hSw
    go_simp
    try with_reducible rfl
  try simp only [Act.put]
  refine wpAnyH_take (i := 22) (v := ?_) rfl (by kernel_rfl) (by kernel_rfl) (by kernel_rfl) (fun _ _ _ h => h) (Or.inl ⟨by rfl, ?_⟩) (by assumption) ?_
  rotate_left
  · intro w hSw
    try dsimp only at hSw
    obtain ⟨hs0_, hs1_⟩ := hSw
    go_simp
    try with_reducible rfl
  try simp only [Act.put]
  refine wpAnyH_take (i := 25) (v := ?_) rfl (by kernel_rfl) (by kernel_rfl) (by kernel_rfl) (fun _ _ _ h => h) (Or.inl ⟨by rfl, ?_⟩) (by assumption) ?_
  rotate_left
  · intro w hSw
    try dsimp only at hSw
    obtain ⟨hs0_, hs1_⟩ := hSw
    go_simp
    try with_reducible rfl
  try simp only [Act.put]
  refine wpAnyH_take (i := 26) (v := ?_) rfl (by kernel_rfl) (by kernel_rfl) (by kernel_rfl) (fun _ _ _ h => h) (Or.inl ⟨by rfl, ?_⟩) (by assumption) ?_
  rotate_left
  · intro w hSw
    try dsimp only at hSw
    obtain ⟨hs0_, hs1_⟩ := hSw
    go_simp
    try with_reducible rfl
  try simp only [Act.put]
  refine wpAnyH_take (i := 28) (v := ?_) rfl (by kernel_rfl) (by kernel_rfl) (by kernel_rfl) (fun _ _ _ h => h) (Or.inl ⟨by rfl, ?_⟩) (by assumption) ?_
  rotate_left
  · intro w hSw
    try dsimp only at hSw
    obtain ⟨hs0_, hs1_⟩ := hSw
    go_simp
    try with_reducible rfl
  try simp only [Act.put]
  refine wpAnyH_take (i := 29) (v := ?_) rfl (by kernel_rfl) (by kernel_rfl) (by kernel_rfl) (fun _ _ _ h => h) (Or.inl ⟨by rfl, ?_⟩) (by assumption) ?_
  rotate_left
  · intro w hSw
    try dsimp only at hSw
    obtain ⟨hs0_, hs1_⟩ := hSw
    go_simp
    try with_reducible rfl
  try simp only [Act.put]
  refine wpAnyH_take (i := 33) (v := ?_) rfl (by kernel_rfl) (by kernel_rfl) (by kernel_rfl) (fun _ _ _ h => h) (Or.inl ⟨by rfl, ?_⟩) (by assumption) ?_
  rotate_left
  · intro w hSw
    try dsimp only at hSw
    obtain ⟨hs0_, hs1_⟩ := hSw
    go_simp
    try with_reducible rfl
  try simp only [Act.put]
  simp only [List.getElem_toArray, List.getElem_cons_zero, List.getElem_cons_succ, List.setIfInBounds_toArray, List.set_cons_zero, List.set_cons_succ]
  refine wpAnyH_all (n := 25) (is := [2, 7, 8, 9, 12, 15, 16, 19, 20, 21, 23, 24, 27, 30, 31, 32, 34, 35, 36, 37, 38, 39, 40, 41, 42]) [⟨2, [], (RHead (CmdV ⟨0, 4, 0, rs⟩)), false⟩, ⟨7, [], (RHead (HasX [⟨2, 0⟩, ⟨0, 0⟩, ⟨0, 0⟩])), false⟩, ⟨8, [7], (RHead (CmdV ⟨0, 5, 0, [⟨2, 0⟩, ⟨0, 0⟩, ⟨0, 0⟩]⟩)), false⟩, ⟨9, [2, 8], (RHead (HasR [⟨0, 4, 0, rs⟩, ⟨0, 5, 0, [⟨2, 0⟩, ⟨0, 0⟩, ⟨0, 0⟩]⟩])), false⟩, ⟨12, [], (RHead (HasX [⟨1, 4⟩])), false⟩, ⟨15, [], (RHead (HasX [⟨0, 0⟩])), false⟩, ⟨16, [15], (RHead (CmdV ⟨0, 4, 0, [⟨0, 0⟩]⟩)), false⟩, ⟨19, [], (RHead (HasX [⟨0, 0⟩])), false⟩, ⟨20, [19], (RHead (CmdV ⟨0, 5, 0, [⟨0, 0⟩]⟩)), false⟩, ⟨21, [16, 20], (RHead (LitR w.heap.size [⟨0, 4, 0, [⟨0, 0⟩]⟩, ⟨0, 5, 0, [⟨0, 0⟩]⟩])), false⟩, ⟨23, [21], (RHead (HasR ([⟨0, 4, 0, [⟨0, 0⟩]⟩, ⟨0, 5, 0, [⟨0, 0⟩]⟩] ++ cmds ys))), false⟩, ⟨24, [12, 23], (RHead (HasR (⟨1, 0, (((cmds ys).length + 2 : Nat) : Int), [⟨1, 4⟩]⟩ :: ([⟨0, 4, 0, [⟨0, 0⟩]⟩, ⟨0, 5, 0, [⟨0, 0⟩]⟩] ++ (cmds ys))))), false⟩, ⟨27, [], (RHead (HasX [⟨1, 5⟩])), false⟩, ⟨30, [], (RHead (HasX [⟨0, 0⟩])), false⟩, ⟨31, [30], (RHead (CmdV ⟨0, 5, 0, [⟨0, 0⟩]⟩)), false⟩, ⟨32, [31], (RHead (LitR w.heap.size [⟨0, 5, 0, [⟨0, 0⟩]⟩])), false⟩, ⟨34, [32], (RHead (HasR ([⟨0, 5, 0, [⟨0, 0⟩]⟩] ++ cmds ns))), false⟩, ⟨35, [27, 34], (RHead (HasR (⟨1, 0, (((cmds ns).length + 1 : Nat) : Int), [⟨1, 5⟩]⟩ :: ([⟨0, 5, 0, [⟨0, 0⟩]⟩] ++ (cmds ns))))), false⟩, ⟨36, [9, 24, 35], (RHead (RowsV [⟨0, 4, 0, rs⟩, ⟨0, 5, 0, [⟨2, 0⟩, ⟨0, 0⟩, ⟨0, 0⟩]⟩] (⟨1, 0, (((cmds ys).length + 2 : Nat) : Int), [⟨1, 4⟩]⟩ :: ([⟨0, 4, 0, [⟨0, 0⟩]⟩, ⟨0, 5, 0, [⟨0, 0⟩]⟩] ++ cmds ys)) (⟨1, 0, (((cmds ns).length + 1 : Nat) : Int), [⟨1, 5⟩]⟩ :: ([⟨0, 5, 0, [⟨0, 0⟩]⟩] ++ cmds ns)))), false⟩, ⟨37, [36], (RHead (HasR (brF rs (cmds ys) (cmds ns)))), false⟩, ⟨38, [37], (RHead (TupV w.heap.size (brF rs (cmds ys) (cmds ns)))), false⟩, ⟨39, [38], (RKnown (fun vl => ∃ x y, vl = [x, .tuple #[x, y]])), true⟩, ⟨40, [38], (RKnown (fun vl => ∃ x y, vl = [y, .tuple #[x, y]])), true⟩, ⟨41, [39], (RKnown (fun vl => ∃ v, vl = [v, v])), true⟩, ⟨42, [40], (RKnown (fun vl => ∃ v, vl = [v, v])), true⟩] rfl rfl (by kernel_rfl) (by decide) (by kernel_rfl) (fun _ _ _ _ h => h) (fun w' hb => ?_) (BStay.all_cons (RHead.stay CmdV.stay) <| BStay.all_cons (RHead.stay HasX.stay) <| BStay.all_cons (RHead.stay CmdV.stay) <| BStay.all_cons (RHead.stay HasR.stay) <| BStay.all_cons (RHead.stay HasX.stay) <| BStay.all_cons (RHead.stay HasX.stay) <| BStay.all_cons (RHead.stay CmdV.stay) <| BStay.all_cons (RHead.stay HasX.stay) <| BStay.all_cons (RHead.stay CmdV.stay) <| BStay.all_cons (RHead.stay LitR.stay) <| BStay.all_cons (RHead.stay HasR.stay) <| BStay.all_cons (RHead.stay HasR.stay) <| BStay.all_cons (RHead.stay HasX.stay) <| BStay.all_cons (RHead.stay HasX.stay) <| BStay.all_cons (RHead.stay CmdV.stay) <| BStay.all_cons (RHead.stay LitR.stay) <| BStay.all_cons (RHead.stay HasR.stay) <| BStay.all_cons (RHead.stay HasR.stay) <| BStay.all_cons (RHead.stay RowsV.stay) <| BStay.all_cons (RHead.stay HasR.stay) <| BStay.all_cons (RHead.stay TupV.stay) <| BStay.all_cons (RKnown.stay) <| BStay.all_cons (RKnown.stay) <| BStay.all_cons (RKnown.stay) <| BStay.all_cons (RKnown.stay) <| BStay.all_nil) ?_ ?_
  · exact HB.out _ (hp0.trans (hb.mono hp0.size))
  · refine BStep.all_cons (BStep.mk rfl (fun vs l h w1 hz hn hsp K hK => ?_)) ?_
    · simp only [putAll, List.map, Act.put, List.getElem_toArray, List.getElem_cons_zero, List.getElem_cons_succ, List.setIfInBounds_toArray, List.set_cons_zero, List.set_cons_succ] at hK ⊢
      clear hn hsp
      go_simp
      refine (setTo_any 4 E rs.length d _).mono ?_
      rintro e W2 ⟨rfl, zE⟩
      exact hK _ _ zE ⟨_, rfl, ⟨0, 4, 0, E, d, rs⟩, rfl, rfl, HE.out _ ((hp0.trans (hz.mono hp0.size)).trans (zE.mono (by have := hz.size; have := hp0.size; omega)))⟩
    refine BStep.all_cons (BStep.mk rfl (fun vs l h w1 hz hn hsp K hK => ?_)) ?_
    · simp only [putAll, List.map, Act.put, List.getElem_toArray, List.getElem_cons_zero, List.getElem_cons_succ, List.setIfInBounds_toArray, List.set_cons_zero, List.set_cons_succ] at hK ⊢
      clear hn hsp
      go_simp
      exact hK _ _ ((Below.refl _ _).alloc (Nat.le_refl _) _) ⟨_, rfl, some ⟨w1.heap.size, 0, none⟩, 3, rfl, lit_s2 w1 #[.int .i64 2, .int .i64 0, .int .i64 0, .int .i64 0, .int .i64 0, .int .i64 0] [⟨2, 0⟩, ⟨0, 0⟩, ⟨0, 0⟩] rfl (by decide)⟩
    refine BStep.all_cons (BStep.mk rfl (fun vs l h w1 hz hn hsp K hK => ?_)) ?_
    · simp only [putAll, List.map, dstAt, Act.put, List.getElem_toArray, List.getElem?_toArray, List.getElem_cons_zero, List.getElem_cons_succ, List.getElem?_cons_zero, List.getElem?_cons_succ, Option.bind_some, List.setIfInBounds_toArray, List.set_cons_zero, List.set_cons_succ] at hK ⊢
      simp only [List.forall_mem_cons, List.map] at hn
      obtain ⟨nn2, nn7, nn8, nn9, nn12, nn15, nn16, nn19, nn20, nn21, nn23, nn24, nn27, nn30, nn31, nn32, nn34, nn35, nn36, nn37, nn38, nn39, nn40, nn41, nn42, _⟩ := hn
      have q7 := (nn7 (by simp)).2.2.2
      obtain ⟨v_, e_, A_, c_, rfl, s_⟩ := q7
      simp only [List.head?_cons, Option.some.injEq] at e_
      rw [e_] at hK ⊢
      go_simp
      refine (setTo_any 5 A_ _ c_ _).mono ?_
      rintro e W2 ⟨rfl, zE⟩
      exact hK _ _ zE ⟨_, rfl, ⟨0, 5, 0, A_, c_, [⟨2, 0⟩, ⟨0, 0⟩, ⟨0, 0⟩]⟩, rfl, rfl, s_.below zE⟩
    refine BStep.all_cons (BStep.mk rfl (fun vs l h w1 hz hn hsp K hK => ?_)) ?_
    · simp only [putAll, List.map, dstAt, Act.put, List.getElem_toArray, List.getElem?_toArray, List.getElem_cons_zero, List.getElem_cons_succ, List.getElem?_cons_zero, List.getElem?_cons_succ, Option.bind_some, List.setIfInBounds_toArray, List.set_cons_zero, List.set_cons_succ] at hK ⊢
      simp only [List.forall_mem_cons, List.map] at hn
      obtain ⟨nn2, nn7, nn8, nn9, nn12, nn15, nn16, nn19, nn20, nn21, nn23, nn24, nn27, nn30, nn31, nn32, nn34, nn35, nn36, nn37, nn38, nn39, nn40, nn41, nn42, _⟩ := hn
      have q2 := (nn2 (by simp)).2.2.2
      have q8 := (nn8 (by simp)).2.2.2
      obtain ⟨v2_, e2_, t2_, h2_, rfl, s2_⟩ := q2
      obtain ⟨v8_, e8_, t8_, h8_, rfl, s8_⟩ := q8
      simp only [List.head?_cons, Option.some.injEq] at e2_ e8_
      rw [e2_, e8_] at hK ⊢
      go_simp
      exact hK _ _ ((Below.refl _ _).alloc (Nat.le_refl _) _) ⟨_, rfl, _, 2, [t2_, t8_], rfl, by rw [← h2_, ← h8_]; rfl, (lit2_own w1 t2_ t8_ w1.heap.size (Nat.le_refl _)).rd, fun t ht => by
        rcases List.mem_cons.1 ht with rfl | ht
        · exact s2_.alloc _
        · rw [List.mem_singleton.1 ht]; exact s8_.alloc _⟩
    refine BStep.all_cons (BStep.mk rfl (fun vs l h w1 hz hn hsp K hK => ?_)) ?_
    · simp only [putAll, List.map, Act.put, List.getElem_toArray, List.getElem_cons_zero, List.getElem_cons_succ, List.setIfInBounds_toArray, List.set_cons_zero, List.set_cons_succ] at hK ⊢
      clear hn hsp
      go_simp
      refine (variable_any 4 _).mono ?_
      rintro e W2 ⟨v_, rfl, hv_, zE⟩
      exact hK _ _ zE ⟨_, rfl, hv_⟩
    refine BStep.all_cons (BStep.mk rfl (fun vs l h w1 hz hn hsp K hK => ?_)) ?_
    · simp only [putAll, List.map, Act.put, List.getElem_toArray, List.getElem_cons_zero, List.getElem_cons_succ, List.setIfInBounds_toArray, List.set_cons_zero, List.set_cons_succ] at hK ⊢
      clear hn hsp
      go_simp
      exact hK _ _ ((Below.refl _ _).alloc (Nat.le_refl _) _) ⟨_, rfl, some ⟨w1.heap.size, 0, none⟩, 1, rfl, lit_s2 w1 #[.int .i64 0, .int .i64 0] [⟨0, 0⟩] rfl (by decide)⟩
    refine BStep.all_cons (BStep.mk rfl (fun vs l h w1 hz hn hsp K hK => ?_)) ?_
    · simp only [putAll, List.map, dstAt, Act.put, List.getElem_toArray, List.getElem?_toArray, List.getElem_cons_zero, List.getElem_cons_succ, List.getElem?_cons_zero, List.getElem?_cons_succ, Option.bind_some, List.setIfInBounds_toArray, List.set_cons_zero, List.set_cons_succ] at hK ⊢
      simp only [List.forall_mem_cons, List.map] at hn
      obtain ⟨nn2, nn7, nn8, nn9, nn12, nn15, nn16, nn19, nn20, nn21, nn23, nn24, nn27, nn30, nn31, nn32, nn34, nn35, nn36, nn37, nn38, nn39, nn40, nn41, nn42, _⟩ := hn
      have q15 := (nn15 (by simp)).2.2.2
      obtain ⟨v_, e_, A_, c_, rfl, s_⟩ := q15
      simp only [List.head?_cons, Option.some.injEq] at e_
      rw [e_] at hK ⊢
      go_simp
      refine (setTo_any 4 A_ _ c_ _).mono ?_
      rintro e W2 ⟨rfl, zE⟩
      exact hK _ _ zE ⟨_, rfl, ⟨0, 4, 0, A_, c_, [⟨0, 0⟩]⟩, rfl, rfl, s_.below zE⟩
    refine BStep.all_cons (BStep.mk rfl (fun vs l h w1 hz hn hsp K hK => ?_)) ?_
    · simp only [putAll, List.map, Act.put, List.getElem_toArray, List.getElem_cons_zero, List.getElem_cons_succ, List.setIfInBounds_toArray, List.set_cons_zero, List.set_cons_succ] at hK ⊢
      clear hn hsp
      go_simp
      exact hK _ _ ((Below.refl _ _).alloc (Nat.le_refl _) _) ⟨_, rfl, some ⟨w1.heap.size, 0, none⟩, 1, rfl, lit_s2 w1 #[.int .i64 0, .int .i64 0] [⟨0, 0⟩] rfl (by decide)⟩
    refine BStep.all_cons (BStep.mk rfl (fun vs l h w1 hz hn hsp K hK => ?_)) ?_
    · simp only [putAll, List.map, dstAt, Act.put, List.getElem_toArray, List.getElem?_toArray, List.getElem_cons_zero, List.getElem_cons_succ, List.getElem?_cons_zero, List.getElem?_cons_succ, Option.bind_some, List.setIfInBounds_toArray, List.set_cons_zero, List.set_cons_succ] at hK ⊢
      simp only [List.forall_mem_cons, List.map] at hn
      obtain ⟨nn2, nn7, nn8, nn9, nn12, nn15, nn16, nn19, nn20, nn21, nn23, nn24, nn27, nn30, nn31, nn32, nn34, nn35, nn36, nn37, nn38, nn39, nn40, nn41, nn42, _⟩ := hn
      have q19 := (nn19 (by simp)).2.2.2
      obtain ⟨v_, e_, A_, c_, rfl, s_⟩ := q19
      simp only [List.head?_cons, Option.some.injEq] at e_
      rw [e_] at hK ⊢
      go_simp
      refine (setTo_any 5 A_ _ c_ _).mono ?_
      rintro e W2 ⟨rfl, zE⟩
      exact hK _ _ zE ⟨_, rfl, ⟨0, 5, 0, A_, c_, [⟨0, 0⟩]⟩, rfl, rfl, s_.below zE⟩
    refine BStep.all_cons (BStep.mk rfl (fun vs l h w1 hz hn hsp K hK => ?_)) ?_
    · simp only [putAll, List.map, dstAt, Act.put, List.getElem_toArray, List.getElem?_toArray, List.getElem_cons_zero, List.getElem_cons_succ, List.getElem?_cons_zero, List.getElem?_cons_succ, Option.bind_some, List.setIfInBounds_toArray, List.set_cons_zero, List.set_cons_succ] at hK ⊢
      simp only [List.forall_mem_cons, List.map] at hn
      obtain ⟨nn2, nn7, nn8, nn9, nn12, nn15, nn16, nn19, nn20, nn21, nn23, nn24, nn27, nn30, nn31, nn32, nn34, nn35, nn36, nn37, nn38, nn39, nn40, nn41, nn42, _⟩ := hn
      have q16 := (nn16 (by simp)).2.2.2
      have q20 := (nn20 (by simp)).2.2.2
      obtain ⟨v16_, e16_, t16_, h16_, rfl, s16_⟩ := q16
      obtain ⟨v20_, e20_, t20_, h20_, rfl, s20_⟩ := q20
      simp only [List.head?_cons, Option.some.injEq] at e16_ e20_
      rw [e16_, e20_] at hK ⊢
      go_simp
      exact hK _ _ ((Below.refl _ _).alloc (Nat.le_refl _) _) ⟨_, rfl, w1.heap.size, [t16_, t20_], rfl, by rw [← h16_, ← h20_]; rfl, lit2_own w1 t16_ t20_ w.heap.size (by have := hz.size; have := hp0.size; omega), fun t ht => by
        rcases List.mem_cons.1 ht with rfl | ht
        · exact s16_.alloc _
        · rw [List.mem_singleton.1 ht]; exact s20_.alloc _⟩
    refine BStep.all_cons (BStep.mk rfl (fun vs l h w1 hz hn hsp K hK => ?_)) ?_
    · simp only [putAll, List.map, dstAt, Act.put, List.getElem_toArray, List.getElem?_toArray, List.getElem_cons_zero, List.getElem_cons_succ, List.getElem?_cons_zero, List.getElem?_cons_succ, Option.bind_some, List.setIfInBounds_toArray, List.set_cons_zero, List.set_cons_succ] at hK ⊢
      simp only [List.forall_mem_cons, List.map] at hn
      obtain ⟨nn2, nn7, nn8, nn9, nn12, nn15, nn16, nn19, nn20, nn21, nn23, nn24, nn27, nn30, nn31, nn32, nn34, nn35, nn36, nn37, nn38, nn39, nn40, nn41, nn42, _⟩ := hn
      have q21 := (nn21 (by simp)).2.2.2
      obtain ⟨v_, e_, g_, ts_, rfl, h_, o_, r_⟩ := q21
      simp only [List.head?_cons, Option.some.injEq] at e_
      rw [e_] at hK ⊢
      have hl_ := congrArg List.length h_
      rw [cmds_len] at hl_
      simp only [List.length_cons, List.length_nil, Nat.zero_add, Nat.reduceAdd] at hl_
      have hs_ := HY.out _ (hp0.trans (hz.mono hp0.size))
      refine wp_append_full (.tmp 62) (.tmp 63) rfl elCm (lo := w.heap.size) rfl o_ rfl hs_.1 (Ce.one ys) (by omega) (by simp only [maxLen]; omega) (by have := hz.size; have := hp0.size; omega) ?_
      intro A7 c7 w7 o7 z7
      refine hK _ _ z7 ⟨_, rfl, A7, c7, ts_ ++ ys, by rw [List.length_append], by rw [cmds_app, h_], by rw [List.length_append]; simpa using o7.rd, fun t ht => ?_⟩
      rcases List.mem_append.1 ht with ht | ht
      · exact (r_ t ht).below z7
      · exact (hs_.2 t ht).below z7
    refine BStep.all_cons (BStep.mk rfl (fun vs l h w1 hz hn hsp K hK => ?_)) ?_
    · simp only [putAll, List.map, dstAt, Act.put, List.getElem_toArray, List.getElem?_toArray, List.getElem_cons_zero, List.getElem_cons_succ, List.getElem?_cons_zero, List.getElem?_cons_succ, Option.bind_some, List.setIfInBounds_toArray, List.set_cons_zero, List.set_cons_succ] at hK ⊢
      simp only [List.forall_mem_cons, List.map] at hn
      obtain ⟨nn2, nn7, nn8, nn9, nn12, nn15, nn16, nn19, nn20, nn21, nn23, nn24, nn27, nn30, nn31, nn32, nn34, nn35, nn36, nn37, nn38, nn39, nn40, nn41, nn42, _⟩ := hn
      have q12 := (nn12 (by simp)).2.2.2
      have q23 := (nn23 (by simp)).2.2.2
      obtain ⟨vx_, ex_, A_, c_, rfl, s_⟩ := q12
      obtain ⟨vb_, eb_, B_, d_, us_, rfl, h_, sb_⟩ := q23
      simp only [List.head?_cons, Option.some.injEq] at ex_ eb_
      rw [ex_, eb_] at hK ⊢
      have HL_ : Hid (us_.length = (cmds ys).length + 2) := Lib.hid (by have h1 := congrArg List.length h_; rw [cmds_len] at h1; rw [h1]; (simp <;> try omega))
      have H_ := Lib.hid h_
      clear h_
      go_simp
      refine (enclosed_any A_ _ c_ _ B_ _ d_ us_ _ s_ sb_ (by rw [HL_.out]; have := HYL.out; omega)).mono ?_
      rintro e W2 ⟨v_, rfl, hv_, zE⟩
      rw [HL_.out, H_.out] at hv_
      exact hK _ _ zE ⟨_, rfl, hv_⟩
    refine BStep.all_cons (BStep.mk rfl (fun vs l h w1 hz hn hsp K hK => ?_)) ?_
    · simp only [putAll, List.map, Act.put, List.getElem_toArray, List.getElem_cons_zero, List.getElem_cons_succ, List.setIfInBounds_toArray, List.set_cons_zero, List.set_cons_succ] at hK ⊢
      clear hn hsp
      go_simp
      refine (variable_any 5 _).mono ?_
      rintro e W2 ⟨v_, rfl, hv_, zE⟩
      exact hK _ _ zE ⟨_, rfl, hv_⟩
    refine BStep.all_cons (BStep.mk rfl (fun vs l h w1 hz hn hsp K hK => ?_)) ?_
    · simp only [putAll, List.map, Act.put, List.getElem_toArray, List.getElem_cons_zero, List.getElem_cons_succ, List.setIfInBounds_toArray, List.set_cons_zero, List.set_cons_succ] at hK ⊢
      clear hn hsp
      go_simp
      exact hK _ _ ((Below.refl _ _).alloc (Nat.le_refl _) _) ⟨_, rfl, some ⟨w1.heap.size, 0, none⟩, 1, rfl, lit_s2 w1 #[.int .i64 0, .int .i64 0] [⟨0, 0⟩] rfl (by decide)⟩
    refine BStep.all_cons (BStep.mk rfl (fun vs l h w1 hz hn hsp K hK => ?_)) ?_
    · simp only [putAll, List.map, dstAt, Act.put, List.getElem_toArray, List.getElem?_toArray, List.getElem_cons_zero, List.getElem_cons_succ, List.getElem?_cons_zero, List.getElem?_cons_succ, Option.bind_some, List.setIfInBounds_toArray, List.set_cons_zero, List.set_cons_succ] at hK ⊢
      simp only [List.forall_mem_cons, List.map] at hn
      obtain ⟨nn2, nn7, nn8, nn9, nn12, nn15, nn16, nn19, nn20, nn21, nn23, nn24, nn27, nn30, nn31, nn32, nn34, nn35, nn36, nn37, nn38, nn39, nn40, nn41, nn42, _⟩ := hn
      have q30 := (nn30 (by simp)).2.2.2
      obtain ⟨v_, e_, A_, c_, rfl, s_⟩ := q30
      simp only [List.head?_cons, Option.some.injEq] at e_
      rw [e_] at hK ⊢
      go_simp
      refine (setTo_any 5 A_ _ c_ _).mono ?_
      rintro e W2 ⟨rfl, zE⟩
      exact hK _ _ zE ⟨_, rfl, ⟨0, 5, 0, A_, c_, [⟨0, 0⟩]⟩, rfl, rfl, s_.below zE⟩
    refine BStep.all_cons (BStep.mk rfl (fun vs l h w1 hz hn hsp K hK => ?_)) ?_
    · simp only [putAll, List.map, dstAt, Act.put, List.getElem_toArray, List.getElem?_toArray, List.getElem_cons_zero, List.getElem_cons_succ, List.getElem?_cons_zero, List.getElem?_cons_succ, Option.bind_some, List.setIfInBounds_toArray, List.set_cons_zero, List.set_cons_succ] at hK ⊢
      simp only [List.forall_mem_cons, List.map] at hn
      obtain ⟨nn2, nn7, nn8, nn9, nn12, nn15, nn16, nn19, nn20, nn21, nn23, nn24, nn27, nn30, nn31, nn32, nn34, nn35, nn36, nn37, nn38, nn39, nn40, nn41, nn42, _⟩ := hn
      have q31 := (nn31 (by simp)).2.2.2
      obtain ⟨v31_, e31_, t31_, h31_, rfl, s31_⟩ := q31
      simp only [List.head?_cons, Option.some.injEq] at e31_
      rw [e31_] at hK ⊢
      go_simp
      exact hK _ _ ((Below.refl _ _).alloc (Nat.le_refl _) _) ⟨_, rfl, w1.heap.size, [t31_], rfl, by rw [← h31_]; rfl, lit1c_own w1 t31_ w.heap.size (by have := hz.size; have := hp0.size; omega), fun t ht => by
        rw [List.mem_singleton.1 ht]; exact s31_.alloc _⟩
    refine BStep.all_cons (BStep.mk rfl (fun vs l h w1 hz hn hsp K hK => ?_)) ?_
    · simp only [putAll, List.map, dstAt, Act.put, List.getElem_toArray, List.getElem?_toArray, List.getElem_cons_zero, List.getElem_cons_succ, List.getElem?_cons_zero, List.getElem?_cons_succ, Option.bind_some, List.setIfInBounds_toArray, List.set_cons_zero, List.set_cons_succ] at hK ⊢
      simp only [List.forall_mem_cons, List.map] at hn
      obtain ⟨nn2, nn7, nn8, nn9, nn12, nn15, nn16, nn19, nn20, nn21, nn23, nn24, nn27, nn30, nn31, nn32, nn34, nn35, nn36, nn37, nn38, nn39, nn40, nn41, nn42, _⟩ := hn
      have q32 := (nn32 (by simp)).2.2.2
      obtain ⟨v_, e_, g_, ts_, rfl, h_, o_, r_⟩ := q32
      simp only [List.head?_cons, Option.some.injEq] at e_
      rw [e_] at hK ⊢
      have hl_ := congrArg List.length h_
      rw [cmds_len] at hl_
      simp only [List.length_cons, List.length_nil, Nat.zero_add] at hl_
      have hs_ := HN.out _ (hp0.trans (hz.mono hp0.size))
      refine wp_append_full (.tmp 73) (.tmp 74) rfl elCm (lo := w.heap.size) rfl o_ rfl hs_.1 (Ce.one ns) (by omega) (by simp only [maxLen]; omega) (by have := hz.size; have := hp0.size; omega) ?_
      intro A7 c7 w7 o7 z7
      refine hK _ _ z7 ⟨_, rfl, A7, c7, ts_ ++ ns, by rw [List.length_append], by rw [cmds_app, h_], by rw [List.length_append]; simpa using o7.rd, fun t ht => ?_⟩
      rcases List.mem_append.1 ht with ht | ht
      · exact (r_ t ht).below z7
      · exact (hs_.2 t ht).below z7
    refine BStep.all_cons (BStep.mk rfl (fun vs l h w1 hz hn hsp K hK => ?_)) ?_
    · simp only [putAll, List.map, dstAt, Act.put, List.getElem_toArray, List.getElem?_toArray, List.getElem_cons_zero, List.getElem_cons_succ, List.getElem?_cons_zero, List.getElem?_cons_succ, Option.bind_some, List.setIfInBounds_toArray, List.set_cons_zero, List.set_cons_succ] at hK ⊢
      simp only [List.forall_mem_cons, List.map] at hn
      obtain ⟨nn2, nn7, nn8, nn9, nn12, nn15, nn16, nn19, nn20, nn21, nn23, nn24, nn27, nn30, nn31, nn32, nn34, nn35, nn36, nn37, nn38, nn39, nn40, nn41, nn42, _⟩ := hn
      have q27 := (nn27 (by simp)).2.2.2
      have q34 := (nn34 (by simp)).2.2.2
      obtain ⟨vx_, ex_, A_, c_, rfl, s_⟩ := q27
      obtain ⟨vb_, eb_, B_, d_, us_, rfl, h_, sb_⟩ := q34
      simp only [List.head?_cons, Option.some.injEq] at ex_ eb_
      rw [ex_, eb_] at hK ⊢
      have HL_ : Hid (us_.length = (cmds ns).length + 1) := Lib.hid (by have h1 := congrArg List.length h_; rw [cmds_len] at h1; rw [h1]; (simp <;> try omega))
      have H_ := Lib.hid h_
      clear h_
      go_simp
      refine (enclosed_any A_ _ c_ _ B_ _ d_ us_ _ s_ sb_ (by rw [HL_.out]; have := HNL.out; omega)).mono ?_
      rintro e W2 ⟨v_, rfl, hv_, zE⟩
      rw [HL_.out, H_.out] at hv_
      exact hK _ _ zE ⟨_, rfl, hv_⟩
    refine BStep.all_cons (BStep.mk rfl (fun vs l h w1 hz hn hsp K hK => ?_)) ?_
    · simp only [putAll, List.map, dstAt, Act.put, List.getElem_toArray, List.getElem?_toArray, List.getElem_cons_zero, List.getElem_cons_succ, List.getElem?_cons_zero, List.getElem?_cons_succ, Option.bind_some, List.setIfInBounds_toArray, List.set_cons_zero, List.set_cons_succ] at hK ⊢
      simp only [List.forall_mem_cons, List.map] at hn
      obtain ⟨nn2, nn7, nn8, nn9, nn12, nn15, nn16, nn19, nn20, nn21, nn23, nn24, nn27, nn30, nn31, nn32, nn34, nn35, nn36, nn37, nn38, nn39, nn40, nn41, nn42, _⟩ := hn
      have q9 := (nn9 (by simp)).2.2.2
      have q24 := (nn24 (by simp)).2.2.2
      have q35 := (nn35 (by simp)).2.2.2
      obtain ⟨v9_, e9_, A9_, c9_, t9_, rfl, h9_, s9_⟩ := q9
      obtain ⟨v24_, e24_, A24_, c24_, t24_, rfl, h24_, s24_⟩ := q24
      obtain ⟨v35_, e35_, A35_, c35_, t35_, rfl, h35_, s35_⟩ := q35
      simp only [List.head?_cons, Option.some.injEq] at e9_ e24_ e35_
      rw [e9_, e24_, e35_] at hK ⊢
      go_simp
      exact hK _ _ ((Below.refl _ _).alloc (Nat.le_refl _) _) ⟨_, rfl, w1.heap.size, ⟨A9_, c9_, t9_⟩, ⟨A24_, c24_, t24_⟩, ⟨A35_, c35_, t35_⟩, rfl, h9_, h24_, h35_, rows3 w1 _ _ _ s9_ s24_ s35_⟩
    refine BStep.all_cons (BStep.mk rfl (fun vs l h w1 hz hn hsp K hK => ?_)) ?_
    · simp only [putAll, List.map, dstAt, Act.put, List.getElem_toArray, List.getElem?_toArray, List.getElem_cons_zero, List.getElem_cons_succ, List.getElem?_cons_zero, List.getElem?_cons_succ, Option.bind_some, List.setIfInBounds_toArray, List.set_cons_zero, List.set_cons_succ] at hK ⊢
      simp only [List.forall_mem_cons, List.map] at hn
      obtain ⟨nn2, nn7, nn8, nn9, nn12, nn15, nn16, nn19, nn20, nn21, nn23, nn24, nn27, nn30, nn31, nn32, nn34, nn35, nn36, nn37, nn38, nn39, nn40, nn41, nn42, _⟩ := hn
      have q36 := (nn36 (by simp)).2.2.2
      obtain ⟨v_, e_, g_, r1_, r2_, r3_, rfl, h1_, h2_, h3_, s_⟩ := q36
      simp only [List.head?_cons, Option.some.injEq] at e_
      rw [e_] at hK ⊢
      have hc_ : cmds ([r1_, r2_, r3_].flatMap Cr.ts) = brF rs (cmds ys) (cmds ns) := by simp only [List.flatMap_cons, List.flatMap_nil, List.append_nil, cmds_app, h1_, h2_, h3_]; rfl
      have hl_ : ([r1_, r2_, r3_].flatMap Cr.ts).length ≤ 10000 := by rw [← cmds_len, hc_, brF_len]; have := HYL.out; have := HNL.out; omega
      go_simp
      refine (concatC_any _ 3 3 [r1_, r2_, r3_] _ s_ (by omega) hl_).mono ?_
      rintro e W2 ⟨v_, rfl, hv_, zE⟩
      rw [hc_] at hv_
      exact hK _ _ zE ⟨_, rfl, hv_⟩
    refine BStep.all_cons (BStep.mk rfl (fun vs l h w1 hz hn hsp K hK => ?_)) ?_
    · simp only [putAll, List.map, dstAt, Act.put, List.getElem_toArray, List.getElem?_toArray, List.getElem_cons_zero, List.getElem_cons_succ, List.getElem?_cons_zero, List.getElem?_cons_succ, Option.bind_some, List.setIfInBounds_toArray, List.set_cons_zero, List.set_cons_succ] at hK ⊢
      simp only [List.forall_mem_cons, List.map] at hn
      obtain ⟨nn2, nn7, nn8, nn9, nn12, nn15, nn16, nn19, nn20, nn21, nn23, nn24, nn27, nn30, nn31, nn32, nn34, nn35, nn36, nn37, nn38, nn39, nn40, nn41, nn42, _⟩ := hn
      have q37 := (nn37 (by simp)).2.2.2
      obtain ⟨v_, e_, A_, c_, us_, rfl, h_, s_⟩ := q37
      simp only [List.head?_cons, Option.some.injEq] at e_
      rw [e_] at hK ⊢
      have hl_ : us_.length ≤ 10000 := by rw [← cmds_len, h_, brF_len]; have := HYL.out; have := HNL.out; omega
      go_simp
      refine (shortWhile_any A_ _ c_ us_ _ s_ hl_ (fun t ht => HLB.out t.cmd (by rw [← h_]; exact List.mem_map.2 ⟨t, ht, rfl⟩))).mono ?_
      intro e W2 hp
      rw [h_] at hp
      obtain ⟨v_, rfl, hv_, zE⟩ := hp.tup (lo := w.heap.size) (by have := hz.size; have := hp0.size; omega)
      exact hK _ _ zE ⟨_, rfl, hv_⟩
    refine BStep.all_cons (BStep.pure rfl (fun vs l h w1 hz hn hsp => ?_)) ?_
    · simp only [putAll, List.map, dstAt, Act.put, List.getElem_toArray, List.getElem?_toArray, List.getElem_cons_zero, List.getElem_cons_succ, List.getElem?_cons_zero, List.getElem?_cons_succ, Option.bind_some, List.setIfInBounds_toArray, List.set_cons_zero, List.set_cons_succ]
      simp only [List.forall_mem_cons, List.map] at hn
      obtain ⟨nn2, nn7, nn8, nn9, nn12, nn15, nn16, nn19, nn20, nn21, nn23, nn24, nn27, nn30, nn31, nn32, nn34, nn35, nn36, nn37, nn38, nn39, nn40, nn41, nn42, _⟩ := hn
      have q38 := (nn38 (by simp)).2.2.2
      obtain ⟨v_, e_, x_, y_, rfl, _⟩ := q38
      simp only [List.head?_cons, Option.some.injEq] at e_
      rw [e_]
      exact ⟨_, ⟨_, _, rfl⟩, fun w' _ => rfl⟩
    refine BStep.all_cons (BStep.pure rfl (fun vs l h w1 hz hn hsp => ?_)) ?_
    · simp only [putAll, List.map, dstAt, Act.put, List.getElem_toArray, List.getElem?_toArray, List.getElem_cons_zero, List.getElem_cons_succ, List.getElem?_cons_zero, List.getElem?_cons_succ, Option.bind_some, List.setIfInBounds_toArray, List.set_cons_zero, List.set_cons_succ]
      simp only [List.forall_mem_cons, List.map] at hn
      obtain ⟨nn2, nn7, nn8, nn9, nn12, nn15, nn16, nn19, nn20, nn21, nn23, nn24, nn27, nn30, nn31, nn32, nn34, nn35, nn36, nn37, nn38, nn39, nn40, nn41, nn42, _⟩ := hn
      have q38 := (nn38 (by simp)).2.2.2
      obtain ⟨v_, e_, x_, y_, rfl, _⟩ := q38
      simp only [List.head?_cons, Option.some.injEq] at e_
      rw [e_]
      exact ⟨_, ⟨_, _, rfl⟩, fun w' _ => rfl⟩
    refine BStep.all_cons (BStep.pure rfl (fun vs l h w1 hz hn hsp => ?_)) ?_
    · simp only [putAll, List.map, dstAt, Act.put, List.getElem_toArray, List.getElem?_toArray, List.getElem_cons_zero, List.getElem_cons_succ, List.getElem?_cons_zero, List.getElem?_cons_succ, Option.bind_some, List.setIfInBounds_toArray, List.set_cons_zero, List.set_cons_succ]
      simp only [List.forall_mem_cons, List.map] at hn
      obtain ⟨nn2, nn7, nn8, nn9, nn12, nn15, nn16, nn19, nn20, nn21, nn23, nn24, nn27, nn30, nn31, nn32, nn34, nn35, nn36, nn37, nn38, nn39, nn40, nn41, nn42, _⟩ := hn
      have q39 := (nn39 (by simp)).2.2.2
      exact ⟨_, ⟨_, rfl⟩, fun w' _ => rfl⟩
    refine BStep.all_cons (BStep.pure rfl (fun vs l h w1 hz hn hsp => ?_)) ?_
    · simp only [putAll, List.map, dstAt, Act.put, List.getElem_toArray, List.getElem?_toArray, List.getElem_cons_zero, List.getElem_cons_succ, List.getElem?_cons_zero, List.getElem?_cons_succ, Option.bind_some, List.setIfInBounds_toArray, List.set_cons_zero, List.set_cons_succ]
      simp only [List.forall_mem_cons, List.map] at hn
      obtain ⟨nn2, nn7, nn8, nn9, nn12, nn15, nn16, nn19, nn20, nn21, nn23, nn24, nn27, nn30, nn31, nn32, nn34, nn35, nn36, nn37, nn38, nn39, nn40, nn41, nn42, _⟩ := hn
      have q40 := (nn40 (by simp)).2.2.2
      exact ⟨_, ⟨_, rfl⟩, fun w' _ => rfl⟩
    exact BStep.all_nil
  · intro vs l h w1 hz ht hsp
    simp only [Through, List.forall_mem_cons, List.map] at ht
    simp only [putAll, markAll, dstAt, Act.put, List.getElem?_toArray, List.getElem?_cons_zero, List.getElem?_cons_succ, Option.bind_some, List.setIfInBounds_toArray, List.set_cons_zero, List.set_cons_succ]
    obtain ⟨_, _, _, _, _, _, _, _, _, _, _, _, _, _, _, _, _, _, _, _, ⟨k38, _, m38, v38, e38, h38⟩, ⟨_, _, _, x39, y39, e39⟩, ⟨_, _, _, x40, y40, e40⟩, ⟨_, _, _, v41, e41⟩, ⟨_, _, _, v42, e42⟩, _⟩ := ht
    simp only [List.head?_cons, Option.some.injEq, List.cons.injEq, and_true] at e38 e39 e40 e41 e42
    obtain ⟨x, y, hv, hxy⟩ := h38
    obtain ⟨a41, b41⟩ := e41
    obtain ⟨a42, b42⟩ := e42
    obtain ⟨a39, b39⟩ := e39
    obtain ⟨a40, b40⟩ := e40
    have t39 := b39.symm.trans (e38.trans hv)
    have t40 := b40.symm.trans (e38.trans hv)
    simp only [Value.tuple.injEq, Array.mk.injEq, List.cons.injEq, and_true] at t39 t40
    have ex : vs 41 = x := by rw [a41, ← b41, a39]; exact t39.1
    have ey : vs 42 = y := by rw [a42, ← b42, a40]; exact t40.2
    rw [ex, ey]
    have HF : Hid (BranchP w (brF rs (cmds ys) (cmds ns)) (.returned (.tuple #[x, y])) w1) := Lib.hid ⟨_, rfl, ⟨x, y, rfl, hxy⟩, HY6.out.trans ((hp0.trans (hz.mono hp0.size)).mono HY6.out.size)⟩
    clear hxy hsp ex ey t39 t40 a41 b41 a42 b42 a39 b39 a40 b40 hv e38
    refine wpAnyH_done (by kernel_rfl) ?_ _
    refine NoPanic.normal ?_
    go_wp2_with fail
    exact bodyPost_ret (v := .tuple #[x, y]) (by simp [results, Try.results24, go_sem]) rfl HF.out
end Go.Proofs.Ytfheepjfpgiaoaa
