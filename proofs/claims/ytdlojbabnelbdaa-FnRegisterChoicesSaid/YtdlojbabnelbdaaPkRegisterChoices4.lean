/-
  Contracts of the reference's l07Branch, l07Clear, l07Move, l07Copy.
-/
import Derived.Test.YtdlojbabnelbdaaPkRegisterChoices0
import Derived.Test.YtdlojbabnelbdaaPkRegisterChoices1
import Derived.Test.YtdlojbabnelbdaaPkRegisterChoices3
import Derived.Deep.CutBlock
namespace Go.Proofs.Ytdlojbabnelbdaa
open Go.RowKit

theorem branchP_pos (r : Int) (p q : List R4) (h : 1 ≤ q.length) : branchP r p q = ([⟨1, r, 1, 2 + (q.length : Int)⟩, ⟨0, r, 2, 0⟩] ++ partP q 2 (2 + (q.length : Int) + (p.length : Int))) ++ partP p (2 + (q.length : Int)) (2 + (q.length : Int) + (p.length : Int)) := by
  unfold branchP; rw [if_neg (by omega)]
set_option maxRecDepth 100000 in
set_option maxHeartbeats 4000000 in
theorem l07Branch_any (r : Int) (P Q : Option Addr) (k l : Nat) (p q : List R4) (w : World) (hp : S4 w P p.length p) (hpv : validProgB p = true) (hq : S4 w Q q.length q) (hqv : validProgB q = true) (h1 : 1 ≤ q.length) :
    Calls Try.prog 171 #[.int .i64 r, .slice P p.length k, .slice Q q.length l] w (NewQ w (branchP r p q)) := by
  have hpl := validProg_len hpv
  have hql := validProg_len hqv
  have HVP := Lib.hid (valid_bounds hpv)
  have HVQ := Lib.hid (valid_bounds hqv)
  obtain ⟨F, hF⟩ : ∃ F : Int, F = 2 + (q.length : Int) := ⟨_, rfl⟩
  obtain ⟨E, hE⟩ : ∃ E : Int, E = 2 + (q.length : Int) + (p.length : Int) := ⟨_, rfl⟩
  have v1 : IntKind.i64.wrap ((q.length : Int) + 2) = F := by rw [hF, Int.add_comm]; exact IntWalk.i64_in _ (by omega)
  have v2 : ((q.length : Int) == 0) = false := by simp; intro h; subst h; simp at h1
  have v3 : IntKind.i64.wrap (F + (p.length : Int)) = E := by rw [hE, hF]; exact IntWalk.i64_in _ (by omega)
  have HF : Hid (F = 2 + (q.length : Int)) := Lib.hid hF
  have HE : Hid (E = 2 + (q.length : Int) + (p.length : Int)) := Lib.hid hE
  have f0 : 0 ≤ F := by omega
  have f1 : F ≤ 1000 := by omega
  clear hF hE
  obtain ⟨V1, hW_⟩ : ∃ W_, W_ = w.alloc (.cells #[.int .i64 1, .int .i64 r, .int .i64 1, .int .i64 F, .int .i64 0, .int .i64 r, .int .i64 2, .int .i64 0] 133) := ⟨_, rfl⟩
  have bV : Blk V1 w.heap.size 133 #[.int .i64 1, .int .i64 r, .int .i64 1, .int .i64 F, .int .i64 0, .int .i64 r, .int .i64 2, .int .i64 0] := by rw [hW_]; exact Blk.new w _ _
  have zV : Below w.heap.size w V1 := by rw [hW_]; exact (Below.refl _ _).alloc (Nat.le_refl _) _
  have HV1 := Lib.hid hW_
  clear hW_
  have HO1 : Hid (Own V1 w.heap.size 133 4 (some ⟨w.heap.size, 0, none⟩) 2 2 (cells4 [⟨1, r, 1, F⟩, ⟨0, r, 2, 0⟩])) := Lib.hid (Blk.owns bV rfl (by simp [maxLen]) (Nat.le_refl _))
  have HZ1 := Lib.hid zV
  have HP := Lib.hid hp
  have HQ := Lib.hid (hq.below zV)
  clear hq hqv bV zV hp hpv
  go_enter Try.func171, Try.ntmps171
  go_upto_region 4 with fail
  rw [← HV1.out]
  clear HV1
  go_wp2_with fail
  refine (l07Shift_any Q l q 2 E V1 HQ.out hql HVQ.out (by omega) (by omega)).mono ?_
  rintro e w2 ⟨A3, c3, rfl, o3, z3⟩
  rw [partP_len] at o3 ⊢
  have HO2 := Lib.hid (HO1.out.below z3)
  have HZ2 := Lib.hid (HZ1.out.trans (z3.mono HZ1.out.size))
  have HO3 := Lib.hid o3
  clear o3 z3 HO1 HZ1 v1 v2 v3
  go_wp2_with (at_builtin; refine wpList_append_Own rfl (.tmp 30) (.tmp 33) rfl elQ (lo := w.heap.size) rfl HO2.out rfl HO3.out.rd (cells4_one _) (by omega) (by simp only [maxLen]; omega) HZ2.out.size ?_; intro A4 c4 w4 o4 g4 _; have HZ4 := Lib.hid (HO2.out.below_of HZ2.out g4 HZ2.out.size); rw [cells4_append] at o4; have HO4 := Lib.hid o4; clear o4 g4)
  refine (l07Shift_any P k p F E w4 (HP.out.below HZ4.out) hpl HVP.out f0 f1).mono ?_
  rintro e w5 ⟨A5, c5, rfl, o5, z5⟩
  rw [partP_len] at o5 ⊢
  have HO6 := Lib.hid (HO4.out.below z5)
  have HZ6 := Lib.hid (HZ4.out.trans (z5.mono HZ4.out.size))
  have HO5 := Lib.hid o5
  clear o5 z5 HO4 HZ4 HO3 HO2 HZ2
  go_wp2_with (at_builtin; refine wpList_append_Own rfl (.tmp 35) (.tmp 39) rfl elQ (lo := w.heap.size) rfl HO6.out rfl HO5.out.rd (cells4_one _) (by omega) (by simp only [maxLen]; omega) HZ6.out.size ?_; intro A7 c7 w7 o7 g7 _)
  rw [cells4_append, HE.out, HF.out, ← branchP_pos r p q h1] at o7
  have hln : (branchP r p q).length = 2 + q.length + p.length := by rw [branchP_len]; omega
  have HN : Hid (NewQ w (branchP r p q) (.returned (.slice A7 (2 + q.length + p.length) c7)) w7) := Lib.hid ⟨A7, c7, by rw [hln], by rw [hln]; exact o7, HO6.out.below_of HZ6.out g7 HZ6.out.size⟩
  clear o7 g7 hln
  go_ret
  exact HN.out
set_option maxHeartbeats 1000000 in
theorem l07Clear_any (r : Int) (w : World) : Calls Try.prog 170 #[.int .i64 r] w (NewQ w [⟨1, r, 0, 1⟩]) := by
  obtain ⟨V1, hW_⟩ : ∃ W_, W_ = w.alloc (.cells #[.int .i64 1, .int .i64 r, .int .i64 0, .int .i64 1] 133) := ⟨_, rfl⟩
  have bV : Blk V1 w.heap.size 133 #[.int .i64 1, .int .i64 r, .int .i64 0, .int .i64 1] := by rw [hW_]; exact Blk.new w _ _
  have zV : Below w.heap.size w V1 := by rw [hW_]; exact (Below.refl _ _).alloc (Nat.le_refl _) _
  have HV1 := Lib.hid hW_
  clear hW_
  have HO1 : Hid (Own V1 w.heap.size 133 4 (some ⟨w.heap.size, 0, none⟩) 1 1 (cells4 [⟨1, r, 0, 1⟩])) := Lib.hid (Blk.owns bV rfl (by simp [maxLen]) (Nat.le_refl _))
  have HZ1 := Lib.hid zV
  clear bV zV
  go_enter Try.func170, Try.ntmps170
  go_wp2_with fail
  rw [← HV1.out]
  go_ret
  exact ⟨_, _, rfl, HO1.out, HZ1.out⟩
set_option maxRecDepth 100000 in
set_option maxHeartbeats 4000000 in
theorem l07Move_any (a : Int) (T : Option Addr) (n k : Nat) (ts : List Int) (w : World) (ht : SI w T n ts) (hn : n ≤ 24) (h1 : 1 ≤ n) :
    Calls Try.prog 173 #[.int .i64 a, .slice T n k] w (NewQ w (moveL a ts)) := by
  have HL : Hid (ts.length = n) := Lib.hid ht.len
  have i0 : ((n : Int) == 0) = false := by simp; omega
  have v1 : IntKind.i64.wrap ((n : Int) + 1) = (n : Int) + 1 := IntWalk.i64_in _ (by omega)
  obtain ⟨V1, hW_⟩ : ∃ W_, W_ = w.alloc (.cells #[.int .i64 1, .int .i64 a, .int .i64 1, .int .i64 ((n : Int) + 1)] 133) := ⟨_, rfl⟩
  have bV : Blk V1 w.heap.size 133 #[.int .i64 1, .int .i64 a, .int .i64 1, .int .i64 ((n : Int) + 1)] := by rw [hW_]; exact Blk.new w _ _
  have zV : Below w.heap.size w V1 := by rw [hW_]; exact (Below.refl _ _).alloc (Nat.le_refl _) _
  have HV1 := Lib.hid hW_
  clear hW_
  have HO1 : Hid (Own V1 w.heap.size 133 4 (some ⟨w.heap.size, 0, none⟩) 1 1 (cells4 (⟨1, a, if ts.length = 0 then 0 else 1, (ts.length : Int) + 1⟩ :: tgtTo ts 0))) := Lib.hid (by
    rw [if_neg (by rw [HL.out]; omega), HL.out]
    exact Blk.owns bV rfl (by simp [maxLen]) (Nat.le_refl _))
  have HZ1 := Lib.hid zV
  have HT := Lib.hid ht
  clear bV zV ht
  go_enter Try.func173, Try.ntmps173
  go_upto_region 5 with fail
  rw [← HV1.out]
  clear HV1
  go_wp2_with fail
  go_loopw [6, 7] (fun o i wr => ∃ (j : Nat) (D : Option Addr) (d : Nat), j ≤ n ∧ i = .int .i64 (j : Int) ∧ o = .slice D (j + 1) d ∧ Hid (Own wr w.heap.size 133 4 D (j + 1) d (cells4 (⟨1, a, if ts.length = 0 then 0 else 1, (ts.length : Int) + 1⟩ :: tgtTo ts j))) ∧ Hid (Below w.heap.size w wr)) (fun _ i _ => n - (intOf i).toNat)
  case atStart => exact ⟨0, _, 1, by omega, rfl, rfl, HO1, HZ1⟩
  case round =>
    obtain ⟨j, D, d, hj, rfl, rfl, HO, HZ⟩ := hrel
    clear HO1 HZ1
    by_cases hlt : j < n
    rotate_left
    · have i1 : ¬ (j : Int) < (n : Int) := by omega
      have HN : Hid (NewQ w (moveL a ts) (.returned (.slice D (j + 1) d)) wr) := Lib.hid (by
        obtain rfl : j = ts.length := by rw [HL.out]; omega
        exact ⟨D, d, by rw [moveL_len], by rw [moveL_len]; exact HO.out, HZ.out⟩)
      go_wp2_with fail
      go_ret
      exact HN.out
    have i2 : (0 : Int) ≤ (j : Int) := by omega
    have i1 : (j : Int) < (n : Int) := by omega
    obtain ⟨b, off, rfl, hb, hc⟩ := (HT.out.below HZ.out).at_ hlt
    obtain ⟨y, hy⟩ : ∃ y, y = ts[j]'(by rw [HL.out]; exact hlt) := ⟨_, rfl⟩
    rw [← hy] at hc
    have HY : Hid (ts.getD j 0 = y) := Lib.hid (by rw [hy, List.getD_eq_getElem?_getD, List.getElem?_eq_getElem]; rfl)
    clear hy
    obtain ⟨t, HTT⟩ : ∃ t : Int, Hid (t = if j + 1 = ts.length then (0 : Int) else (j : Int) + 2) := ⟨_, Lib.hid rfl⟩
    have v2 : IntKind.i64.wrap ((j : Int) + 2) = (j : Int) + 2 := IntWalk.i64_in _ (by omega)
    have v3 : Int.tmod ((j : Int) + 2) ((n : Int) + 1) = t := by
      have h := HTT.out
      rw [HL.out] at h
      rw [h]
      split
      · rename_i e
        rw [show (j : Int) + 2 = (n : Int) + 1 by omega]; exact Int.tmod_self
      · exact Int.tmod_eq_of_lt (by omega) (by omega)
    have v4 : ¬ (n : Int) + 1 = 0 := by omega
    have v5 : ((n : Int) + 1 == 0) = false := by simp; omega
    have HX : Hid ((⟨1, a, if ts.length = 0 then 0 else 1, (ts.length : Int) + 1⟩ :: tgtTo ts j : List R4) ++ [⟨0, y, t, 0⟩] = ⟨1, a, if ts.length = 0 then 0 else 1, (ts.length : Int) + 1⟩ :: tgtTo ts (j + 1)) := Lib.hid (by
      rw [tgtTo_next, HY.out, HTT.out]; rfl)
    go_upto_region 8 with fail
    have hO : Own wr.drew w.heap.size 133 4 D (j + 1) d (cells4 (⟨1, a, if ts.length = 0 then 0 else 1, (ts.length : Int) + 1⟩ :: tgtTo ts j)) := HO.out
    have hZ : Below w.heap.size w wr.drew := below_drewN HZ.out 1
    refine wp_region_any (by kernel_rfl) ?_
    try (change wpAny _ _ _ _ _ _ _ (World.drew _))
    refine wpAny_take (i := 0) (v := ?_) rfl (by kernel_rfl) (by kernel_rfl) (by kernel_rfl) (fun _ _ _ h => h) (Or.inl ⟨by rfl, ?_⟩) ?_
    rotate_left
    · intro w
      go_simp
      try with_reducible rfl
    try simp only [Act.put, List.setIfInBounds_toArray, List.set_cons_zero, List.set_cons_succ]
    refine wpAny_take (i := 1) (v := ?_) rfl (by kernel_rfl) (by kernel_rfl) (by kernel_rfl) (fun _ _ _ h => h) (Or.inl ⟨by rfl, ?_⟩) ?_
    rotate_left
    · intro w
      go_simp
      try with_reducible rfl
    try simp only [Act.put, List.setIfInBounds_toArray, List.set_cons_zero, List.set_cons_succ]
    refine wpAny_take (i := 2) (v := ?_) rfl (by kernel_rfl) (by kernel_rfl) (by kernel_rfl) (fun _ _ _ h => h) (Or.inl ⟨by rfl, ?_⟩) ?_
    rotate_left
    · intro w
      go_simp
      try with_reducible rfl
    try simp only [Act.put, List.setIfInBounds_toArray, List.set_cons_zero, List.set_cons_succ]
    refine wpAny_take (i := 3) (v := ?_) rfl (by kernel_rfl) (by kernel_rfl) (by kernel_rfl) (fun _ _ _ h => h) (Or.inl ⟨by rfl, ?_⟩) ?_
    rotate_left
    · intro w
      go_simp
      try with_reducible rfl
    try simp only [Act.put, List.setIfInBounds_toArray, List.set_cons_zero, List.set_cons_succ]
    refine wpAny_take (i := 5) (v := ?_) rfl (by kernel_rfl) (by kernel_rfl) (by kernel_rfl) (fun _ _ _ h => h) (Or.inl ⟨by rfl, ?_⟩) ?_
    rotate_left
    · intro w
      go_simp
      try with_reducible rfl
    try simp only [Act.put, List.setIfInBounds_toArray, List.set_cons_zero, List.set_cons_succ]
    refine wpAny_take (i := 6) (v := ?_) rfl (by kernel_rfl) (by kernel_rfl) (by kernel_rfl) (fun _ _ _ h => h) (Or.inl ⟨by rfl, ?_⟩) ?_
    rotate_left
    · intro w
      go_simp
      try with_reducible rfl
    try simp only [Act.put, List.setIfInBounds_toArray, List.set_cons_zero, List.set_cons_succ]
    refine wpAny_take (i := 7) (v := ?_) rfl (by kernel_rfl) (by kernel_rfl) (by kernel_rfl) (fun _ _ _ h => h) (Or.inl ⟨by rfl, ?_⟩) ?_
    rotate_left
    · intro w
      go_simp
      try with_reducible rfl
    try simp only [Act.put, List.setIfInBounds_toArray, List.set_cons_zero, List.set_cons_succ]
    refine wpAny_take (i := 8) (v := ?_) rfl (by kernel_rfl) (by kernel_rfl) (by kernel_rfl) (fun _ _ _ h => h) (Or.inl ⟨by rfl, ?_⟩) ?_
    rotate_left
    · intro w
      go_simp
      try with_reducible rfl
    try simp only [Act.put, List.setIfInBounds_toArray, List.set_cons_zero, List.set_cons_succ]
    refine wpAny_take (i := 9) (v := ?_) rfl (by kernel_rfl) (by kernel_rfl) (by kernel_rfl) (fun _ _ _ h => h) (Or.inl ⟨by rfl, ?_⟩) ?_
    rotate_left
    · intro w
      go_simp
      try with_reducible rfl
    try simp only [Act.put, List.setIfInBounds_toArray, List.set_cons_zero, List.set_cons_succ]
    refine wpAny_ready (rs := [4]) (by kernel_rfl) (by simp) ?_
    refine AllReady.cons rfl (fun K hK => ?_) ?_
    · go_simp
      refine hK _ _ ?_
      clear hK K
      try simp only [Act.put, List.setIfInBounds_toArray, List.set_cons_zero, List.set_cons_succ]
      refine wpAny_take (i := 10) (v := ?_) rfl (by kernel_rfl) (by kernel_rfl) (by kernel_rfl) (fun _ _ _ h => h) (Or.inl ⟨by rfl, ?_⟩) ?_
      rotate_left
      · intro w
        go_simp
        try with_reducible rfl
      try simp only [Act.put, List.setIfInBounds_toArray, List.set_cons_zero, List.set_cons_succ]
      refine wpAny_ready (rs := [11]) (by kernel_rfl) (by simp) ?_
      refine AllReady.cons rfl (fun K hK => ?_) ?_
      · go_simp
        replace hO := hO.alloc (.cells #[.int .i64 0, .int .i64 y, .int .i64 t, .int .i64 0] 133)
        replace hZ := hZ.alloc hZ.size (.cells #[.int .i64 0, .int .i64 y, .int .i64 t, .int .i64 0] 133)
        refine hK _ _ ?_
        clear hK K
        try simp only [Act.put, List.setIfInBounds_toArray, List.set_cons_zero, List.set_cons_succ]
        refine wpAny_ready (rs := [12]) (by kernel_rfl) (by simp) ?_
        refine AllReady.cons rfl (fun K hK => ?_) ?_
        · rw [if_pos (by rfl)]
          refine wp_append_Own (.tmp 24) (.tmp 35) rfl elQ (lo := w.heap.size) rfl hO rfl (R4.new wr.drew ⟨0, y, t, 0⟩) (cells4_one _) (by omega) (by simp only [maxLen]; omega) hZ.size ?_
          intro A2 c2 w2 o2 g2 _
          refine hK _ _ ?_
          clear hK K
          try simp only [Act.put, List.setIfInBounds_toArray, List.set_cons_zero, List.set_cons_succ]
          refine wpAny_ready (rs := [13]) (by kernel_rfl) (by simp) ?_
          refine AllReady.cons rfl (fun K hK => ?_) ?_
          · go_simp
            refine hK _ _ ?_
            clear hK K
            try simp only [Act.put, List.setIfInBounds_toArray]
            refine wpAny_done (by kernel_rfl) ?_ _
            rw [cells4_append, HX.out] at o2
            have HO2 := Lib.hid o2
            have HZ2 : Hid (Below w.heap.size w w2) := Lib.hid (hO.below_of hZ g2 hZ.size)
            clear o2 g2 hO hZ
            go_wp2_with fail
            go_roundw
            case rel => exact ⟨j + 1, A2, c2, by omega, by go_num, rfl, HO2, HZ2⟩
            case measure => simp [intOf]; omega
          exact AllReady.nil
        exact AllReady.nil
      exact AllReady.nil
    exact AllReady.nil
end Go.Proofs.Ytdlojbabnelbdaa

/-
  Rules of rewriting and of Markov algorithms in memory.
-/
namespace Go.Proofs.Ytdlojbabnelbdaa
open Go.RowKit

/-- A rule in memory. -/
structure Rk where
  A : Option Addr
  a : Nat
  xs : List Int
  B : Option Addr
  b : Nat
  ys : List Int
def Rk.cells (t : Rk) : List Value := [.slice t.A t.xs.length t.a, .slice t.B t.ys.length t.b]
theorem Rk.cells_len (t : Rk) : t.cells.length = 2 := rfl
theorem Rk.one (ts : List Rk) : ∀ u ∈ ts.flatMap Rk.cells, u.oneCell' = true := by
  intro u hu
  simp only [List.mem_flatMap, Rk.cells, List.mem_cons, List.not_mem_nil, or_false] at hu
  obtain ⟨t, _, h | h⟩ := hu <;> subst h <;> rfl
section
variable {w w' w2 : World} {lo lo' n c : Nat} {A : Option Addr} {ts : List Rk}
end
/-- A rule in memory. -/
structure Mk3 where
  A : Option Addr
  a : Nat
  xs : List Int
  B : Option Addr
  b : Nat
  ys : List Int
  last : Bool
def Mk3.cells (t : Mk3) : List Value := [.slice t.A t.xs.length t.a, .slice t.B t.ys.length t.b, .bool t.last]
theorem Mk3.cells_len (t : Mk3) : t.cells.length = 3 := rfl
theorem Mk3.one (ts : List Mk3) : ∀ u ∈ ts.flatMap Mk3.cells, u.oneCell' = true := by
  intro u hu
  simp only [List.mem_flatMap, Mk3.cells, List.mem_cons, List.not_mem_nil, or_false] at hu
  obtain ⟨t, _, h | h | h⟩ := hu <;> subst h <;> rfl
section
variable {w w' w2 : World} {lo lo' n c : Nat} {A : Option Addr} {ts : List Mk3}
end
end Go.Proofs.Ytdlojbabnelbdaa

/-
  The reference's draws of words and of Markov rules: l10DrawWord, l10DrawOk, l10DrawMarkov.
-/
namespace Go.Proofs.Ytdlojbabnelbdaa
open Go.RowKit

theorem Src.more {b lo s n0 c0 : Nat} {e : TypeId} {E : Option Addr} {xs : List Value} {A : Option Addr} {n c T : Nat} {W W' : World} (h : Src b A n c T W) (ho : Own W lo e s E n0 c0 xs) (hb : b < lo) (hg : W.grownBy W' (blk E)) : Src b A n c T W' := by
  obtain ⟨a, s, h1, h2, h3, h4⟩ := h
  exact ⟨a, s, h1, h2, h3, (hg.block b h4.lt (fun e => by have := ho.blk_ge b e.symm; omega)).trans h4⟩
theorem Blk.ownz {w : World} {g : Nat} {t : TypeId} {s lo : Nat} (h : Blk w g t #[]) (hlo : lo ≤ g) : Own w lo t s (some ⟨g, 0, none⟩) 0 0 [] := by
  refine ⟨by simp, .inr ⟨g, 0, #[], rfl, hlo, h, Nat.le_refl _, by simp [maxLen], by simp, fun k hk => ?_⟩⟩
  simp at hk
/-- A word was drawn. -/
def DrewL (b : Nat) (A : Option Addr) (n c T most : Nat) (L : Int) (w : World) (e : Ending) (w' : World) : Prop :=
  ∃ D d ys, e = .returned (.slice D ys.length d) ∧ Own w' w.heap.size 2 1 D ys.length d (ints ys) ∧ ys.length ≤ most ∧ (∀ x ∈ ys, 0 ≤ x ∧ x < L) ∧ Src b A n c T w' ∧ Kb b w w'
end Go.Proofs.Ytdlojbabnelbdaa

/-
  Contract of spec.l07DrawFlat: a valid program of at most six instructions.
-/
namespace Go.Proofs.Ytdlojbabnelbdaa
open Go.RowKit

/-- A valid program was drawn. -/
def DrewP (b : Nat) (A : Option Addr) (n c T most : Nat) (w : World) (e : Ending) (w' : World) : Prop :=
  ∃ D d ps, e = .returned (.slice D ps.length d) ∧ Own w' w.heap.size 133 4 D ps.length d (cells4 ps) ∧ validProgB ps = true ∧ ps.length ≤ most ∧ Src b A n c T w' ∧ Kb b w w'
theorem Kb.at_hi {b : Nat} {a W : World} (h : Kb b a W) {k : Nat} (hp : a.heap.size ≤ k) (j : Nat) (u : Value) : Kb b a (W.setCell ⟨k, j, none⟩ u) :=
  ⟨h.os, h.tape, h.output, by simpa [World.setCell] using h.size, fun x hk hy => (Below.heap_setCell W ⟨k, j, none⟩ u x (by dsimp only; omega)).trans (h.block x hk hy)⟩
theorem Kb.put4 {b n c T : Nat} {A : Option Addr} {w W : World} (h : Kb b w W) (hs : Src b A n c T W) (cs : Array Value) (ty : TypeId) :
    ∃ V g, V = W.alloc (.cells cs ty) ∧ g = W.heap.size ∧ Kb b w V ∧ Src b A n c T V ∧ Blk V g ty cs ∧ w.heap.size ≤ g :=
  ⟨_, _, rfl, rfl, h.alloc _, hs.alloc _, Blk.new _ _ _, h.size⟩
set_option maxRecDepth 100000 in
set_option maxHeartbeats 8000000 in
theorem drawFlat_any (b : Nat) (A : Option Addr) (n c T : Nat) (xs : List Int) (w : World) (hx : SB w A n xs) (hA : ∀ k, blk A = some k → k ≠ b) (hs : Src b A n c T w) (hb : b < w.heap.size) (hT : T ≤ 400000) (hn : n ≤ 9223372036854775807) :
    Calls Try.prog 172 #[.pointer (some ⟨b, 0, none⟩)] w (DrewP b A n c (T + 100) 6 w) := by
  have HX := Lib.hid hx
  have HA := Lib.hid hA
  have HS := Lib.hid hs
  clear hx hA hs
  obtain ⟨W1, hW_⟩ : ∃ W_, W_ = w.alloc (.cells #[] 133) := ⟨_, rfl⟩
  have b1 : Blk W1 w.heap.size 133 #[] := by rw [hW_]; exact Blk.new w _ _
  have z1 : Below w.heap.size w W1 := by rw [hW_]; exact (Below.refl _ _).alloc (Nat.le_refl _) _
  have HW1 := Lib.hid hW_
  clear hW_
  have o1 : Own W1 w.heap.size 133 4 (some ⟨w.heap.size, 0, none⟩) 0 0 (cells4 []) := Blk.ownz b1 (Nat.le_refl _)
  have HO1 := Lib.hid o1
  have HX1 := Lib.hid (HX.out.below z1)
  have HS1 := Lib.hid (HS.out.below z1)
  have HK1 := Lib.hid (Kb.of_below (b := b) z1)
  have HPK := Lib.hid (pick_any b A n c T xs 7 W1 HX1.out HA.out HS1.out (by omega) hn (by omega) (by omega))
  have hbW : b < W1.heap.size := by have := z1.size; omega
  clear o1 b1 z1 HS1
  go_enter Try.func172, Try.ntmps172
  go_upto_region 2 with fail
  rw [← HW1.out]
  clear HW1
  go_wp2_with fail
  refine HPK.out.mono ?_
  rintro e2 w2 ⟨x, rfl, hx0, hx1, hs2, hk2⟩
  obtain ⟨m, rfl⟩ : ∃ m : Nat, x = (m : Int) := ⟨x.toNat, by omega⟩
  have hm : m ≤ 6 := by omega
  have HO2 := Lib.hid (hk2.own' HO1.out (by omega))
  have HS2 := Lib.hid hs2
  have HK2 := Lib.hid (HK1.out.trans hk2)
  clear hs2 hk2 HO1 HX1 HK1 HPK hx0 hx1
  go_wp2_with fail
  go_loopw [3, 5] (fun o i wr => ∃ (j : Nat) (D : Option Addr) (d : Nat) (ps : List R4), j ≤ m ∧ i = .int .i64 (j : Int) ∧ o = .slice D j d ∧ Hid (ps.length = j) ∧ Hid (Own wr w.heap.size 133 4 D j d (cells4 ps)) ∧ Hid (∀ x ∈ ps, validInstrB (m : Int) x = true) ∧ Hid (Src b A n c (T + 2 + 12 * j) wr) ∧ Hid (Kb b w wr)) (fun _ i _ => m - (intOf i).toNat)
  case atStart => exact ⟨0, _, 0, [], by omega, rfl, rfl, Lib.hid rfl, HO2, Lib.hid (by simp), Lib.hid (HS2.out.le (by omega)), HK2⟩
  case round =>
    obtain ⟨j, D, d, ps, hj, rfl, rfl, HL, HO, HVI, HSj, HKj⟩ := hrel
    clear HO2 HS2 HK2
    by_cases hlt : j < m
    rotate_left
    · have i1 : ¬ (j : Int) < (m : Int) := by omega
      have HE : Hid (DrewP b A n c (T + 100) 6 w (.returned (.slice D j d)) wr) := Lib.hid (by
        obtain rfl : j = m := by omega
        have hl := HL.out
        subst hl
        exact ⟨D, d, ps, rfl, HO.out, validProg_of (by omega) HVI.out, by omega, HSj.out.le (by omega), HKj.out⟩)
      go_wp2_with fail
      go_ret
      exact HE.out
    have i1 : (j : Int) < (m : Int) := by omega
    have e1 : IntKind.i64.wrap ((m : Int) + 1) = (m : Int) + 1 := IntWalk.i64_in _ (by omega)
    have e2 : IntKind.i64.wrap ((j : Int) + 1) = (j : Int) + 1 := IntWalk.i64_in _ (by omega)
    have hbi : b < wr.heap.size := by have := HKj.out.size; omega
    have HXj := Lib.hid (HX.out.kb HKj.out HA.out)
    go_wp2_with fail
    refine (pick_any b A n c _ xs 2 _ HXj.out HA.out HSj.out (by omega) hn (by omega) (by omega)).mono ?_
    rintro e3 w3 ⟨x1, rfl, p10, p11, hs3, hk3⟩
    have HX3 := Lib.hid (HXj.out.kb hk3 HA.out)
    have HS3 := Lib.hid hs3
    have HK3 := Lib.hid hk3
    clear hs3 hk3 HSj
    go_wp2_with fail
    refine (pick_any b A n c _ xs 3 _ HX3.out HA.out HS3.out (by omega) hn (by omega) (by omega)).mono ?_
    rintro e4 w4 ⟨x2, rfl, p20, p21, hs4, hk4⟩
    have HX4 := Lib.hid (HX3.out.kb hk4 HA.out)
    have HS4 := Lib.hid hs4
    have HK4 := Lib.hid (HK3.out.trans hk4)
    clear hs4 hk4 HS3 HK3 HX3
    go_wp2_with fail
    refine (pick_any b A n c _ xs ((m : Int) + 1) _ HX4.out HA.out HS4.out (by omega) hn (by omega) (by omega)).mono ?_
    rintro e5 w5 ⟨x3, rfl, p30, p31, hs5, hk5⟩
    have HK5 := Lib.hid (HK4.out.trans hk5)
    have h50 : wr.heap.size ≤ w5.heap.size := HK5.out.size
    obtain ⟨V5, hW_⟩ : ∃ W_, W_ = w5.alloc (.cells #[.int .i64 x1, .int .i64 x2, .int .i64 x3, .int .i64 0] 133) := ⟨_, rfl⟩
    have b5 : Blk V5 w5.heap.size 133 #[.int .i64 x1, .int .i64 x2, .int .i64 x3, .int .i64 0] := by rw [hW_]; exact Blk.new w5 _ _
    have z5 : Below w5.heap.size w5 V5 := by rw [hW_]; exact (Below.refl _ _).alloc (Nat.le_refl _) _
    have HV5 := Lib.hid hW_
    clear hW_
    have HX5 := Lib.hid ((HX4.out.kb hk5 HA.out).below z5)
    have HS5 := Lib.hid (hs5.below z5)
    have HK6 := Lib.hid (HK5.out.trans (Kb.of_below z5))
    have HB5 := Lib.hid b5
    clear hs5 hk5 HS4 HK4 HX4 z5 b5 HK5
    go_upto_region 7 with fail
    rw [← HV5.out]
    clear HV5
    obtain ⟨g, hg⟩ : ∃ g, g = w5.heap.size := ⟨_, rfl⟩
    rw [← hg]
    rw [← hg] at h50 HB5
    clear hg
    go_wp2_with fail
    refine (pick_any b A n c _ xs 3 _ HX5.out HA.out HS5.out (by omega) hn (by omega) (by omega)).mono ?_
    rintro e6 w6 ⟨y, rfl, q0, q1, hs6, hk6⟩
    have HB6 := Lib.hid (hk6.blk_ HB5.out (by omega))
    have HX6 := Lib.hid (HX5.out.kb hk6 HA.out)
    have HS6 := Lib.hid hs6
    have HK7 := Lib.hid (HK6.out.trans hk6)
    clear hs6 hk6 HS5 HX5 HK6 HB5
    have hgb : g ≠ b := by omega
    by_cases hy : 0 < y
    case' pos =>
      have u0 : w6.cell? ⟨g, 0, none⟩ = some (.int .i64 x1) := HB6.out.cell 0
      have u1 : w6.cell? ⟨g, 1, none⟩ = some (.int .i64 x2) := HB6.out.cell 1
      have u2 : w6.cell? ⟨g, 2, none⟩ = some (.int .i64 x3) := HB6.out.cell 2
      have u3 : w6.cell? ⟨g, 3, none⟩ = some (.int .i64 0) := HB6.out.cell 3
      have f2 := HB6.out.frozen 2
      go_upto_region 9 with fail
      obtain ⟨V, hV, HBV, HSV, HKV⟩ : ∃ V, V = w6.setCell ⟨g, 2, none⟩ (.int .i64 ((j : Int) + 1)) ∧ Hid (Blk V g 133 #[.int .i64 x1, .int .i64 x2, .int .i64 ((j : Int) + 1), .int .i64 0]) ∧ Hid (Src b A n c (T + 2 + 12 * j + 2 + 2 + 2 + 2) V) ∧ Hid (Kb b wr V) := ⟨_, rfl, Lib.hid (HB6.out.set_ 2 _), Lib.hid (HS6.out.set_at hgb 2 _), Lib.hid (HK7.out.at_hi h50 2 _)⟩
      rw [← hV]
      clear hV u0 u1 u2 u3 f2
      have HC : Hid (0 ≤ (j : Int) + 1 ∧ (j : Int) + 1 ≤ (m : Int)) := Lib.hid (by omega)
      obtain ⟨cc, hcc⟩ : ∃ cc : Int, cc = (j : Int) + 1 := ⟨_, rfl⟩
      rw [← hcc] at HBV HC
      clear hcc
    case' neg =>
      go_upto_region 9 with fail
      obtain ⟨V, hV, HBV, HSV, HKV⟩ : ∃ V, V = w6 ∧ Hid (Blk V g 133 #[.int .i64 x1, .int .i64 x2, .int .i64 x3, .int .i64 0]) ∧ Hid (Src b A n c (T + 2 + 12 * j + 2 + 2 + 2 + 2) V) ∧ Hid (Kb b wr V) := ⟨_, rfl, HB6, HS6, HK7⟩
      rw [← hV]
      clear hV
      have HC : Hid (0 ≤ x3 ∧ x3 ≤ (m : Int)) := Lib.hid (by omega)
      obtain ⟨cc, hcc⟩ : ∃ cc : Int, cc = x3 := ⟨_, rfl⟩
      rw [← hcc] at HBV HC
      clear hcc
    all_goals
      clear hy HB6 HS6 HK7
      have HXV := Lib.hid (HXj.out.kb HKV.out HA.out)
      have u0 : V.cell? ⟨g, 0, none⟩ = some (.int .i64 x1) := HBV.out.cell 0
      have u1 : V.cell? ⟨g, 1, none⟩ = some (.int .i64 x2) := HBV.out.cell 1
      have u2 : V.cell? ⟨g, 2, none⟩ = some (.int .i64 cc) := HBV.out.cell 2
      have u3 : V.cell? ⟨g, 3, none⟩ = some (.int .i64 0) := HBV.out.cell 3
      by_cases ha : x1 = 1
      case' neg =>
        have a1 : (x1 == 1) = false := by simpa using ha
        go_upto_region 13 with fail
        obtain ⟨dd, hdd⟩ : ∃ dd : Int, dd = 0 := ⟨_, rfl⟩
        have HV4 : Hid (validInstrB (m : Int) ⟨x1, x2, cc, dd⟩ = true) := Lib.hid (by
          have := HC.out
          rw [validInstr_iff]; dsimp only; omega)
        obtain ⟨VZ, hV, HBZ, HSZ, HKZ⟩ : ∃ VZ, VZ = V ∧ Hid (Blk VZ g 133 #[.int .i64 x1, .int .i64 x2, .int .i64 cc, .int .i64 dd]) ∧ Hid (Src b A n c (T + 2 + 12 * j + 12) VZ) ∧ Hid (Kb b wr VZ) := ⟨_, rfl, by rw [hdd]; exact HBV, Lib.hid (HSV.out.le (by omega)), HKV⟩
        rw [← hV]
        clear hV hdd u0 u1 u2 u3 a1 ha
      case' pos =>
        have a1 : (x1 == 1) = true := by rw [ha]; rfl
        go_wp2_with fail
        refine (pick_any b A n c _ xs ((m : Int) + 1) _ HXV.out HA.out HSV.out (by omega) hn (by omega) (by omega)).mono ?_
        rintro e7 w7 ⟨dx, rfl, r0, r1, hs7, hk7⟩
        have hb7 := hk7.blk_ HBV.out (by omega)
        have f3 := hb7.frozen 3
        have HX7 := Lib.hid (HXV.out.kb hk7 HA.out)
        have hkv7 := HKV.out.trans hk7
        clear u0 u1 u2 u3 HBV HXV HSV
        have u0 : w7.cell? ⟨g, 0, none⟩ = some (.int .i64 x1) := hb7.cell 0
        have u1 : w7.cell? ⟨g, 1, none⟩ = some (.int .i64 x2) := hb7.cell 1
        have u2 : w7.cell? ⟨g, 2, none⟩ = some (.int .i64 cc) := hb7.cell 2
        have u3 : w7.cell? ⟨g, 3, none⟩ = some (.int .i64 0) := hb7.cell 3
        go_upto_region 11 with fail
        obtain ⟨V8, hV8, HB8, HS8, HK8, HX8⟩ : ∃ V8, V8 = w7.setCell ⟨g, 3, none⟩ (.int .i64 dx) ∧ Hid (Blk V8 g 133 #[.int .i64 x1, .int .i64 x2, .int .i64 cc, .int .i64 dx]) ∧ Hid (Src b A n c (T + 2 + 12 * j + 2 + 2 + 2 + 2 + 2) V8) ∧ Hid (Kb b wr V8) ∧ Hid (SB V8 A n xs) := ⟨_, rfl, Lib.hid (hb7.set_ 3 _), Lib.hid (hs7.set_at hgb 3 _), Lib.hid (hkv7.at_hi h50 3 _), Lib.hid (HXj.out.kb (hkv7.at_hi h50 3 _) HA.out)⟩
        rw [← hV8]
        clear hV8 u0 u1 u2 u3 f3 hs7 hk7 hb7 HX7 hkv7 HKV a1
        go_wp2_with fail
        refine (one_any b A n c _ xs 2 _ HX8.out HA.out HS8.out (by omega) hn (by omega) (by omega)).mono ?_
        rintro e9 w9 ⟨z, rfl, hs9, hk9⟩
        have hb9 := hk9.blk_ HB8.out (by omega)
        have hk9' := HK8.out.trans hk9
        have HB9 := Lib.hid hb9
        have HS9 := Lib.hid hs9
        have HK9 := Lib.hid hk9'
        clear hb9 hs9 hk9 hk9' HB8 HS8 HK8 HX8
        cases z
        case' false =>
          go_upto_region 13 with fail
          have HV4 : Hid (validInstrB (m : Int) ⟨x1, x2, cc, dx⟩ = true) := Lib.hid (by
            have := HC.out
            rw [validInstr_iff]; dsimp only; omega)
          obtain ⟨dd, hdd⟩ : ∃ dd : Int, dd = dx := ⟨_, rfl⟩
          obtain ⟨VZ, hV, HBZ, HSZ, HKZ⟩ : ∃ VZ, VZ = w9 ∧ Hid (Blk VZ g 133 #[.int .i64 x1, .int .i64 x2, .int .i64 cc, .int .i64 dd]) ∧ Hid (Src b A n c (T + 2 + 12 * j + 12) VZ) ∧ Hid (Kb b wr VZ) := ⟨_, rfl, by rw [hdd]; exact HB9, Lib.hid (HS9.out.le (by omega)), HK9⟩
          rw [← hV]
          rw [← hdd] at HV4
          clear hV hdd ha
        case' true =>
          have u0 : w9.cell? ⟨g, 0, none⟩ = some (.int .i64 x1) := HB9.out.cell 0
          have u1 : w9.cell? ⟨g, 1, none⟩ = some (.int .i64 x2) := HB9.out.cell 1
          have u2 : w9.cell? ⟨g, 2, none⟩ = some (.int .i64 cc) := HB9.out.cell 2
          have u3 : w9.cell? ⟨g, 3, none⟩ = some (.int .i64 dx) := HB9.out.cell 3
          have f3 := HB9.out.frozen 3
          go_upto_region 13 with fail
          obtain ⟨VZ, hV, HBZ, HSZ, HKZ⟩ : ∃ VZ, VZ = w9.setCell ⟨g, 3, none⟩ (.int .i64 (m : Int)) ∧ Hid (Blk VZ g 133 #[.int .i64 x1, .int .i64 x2, .int .i64 cc, .int .i64 (m : Int)]) ∧ Hid (Src b A n c (T + 2 + 12 * j + 12) VZ) ∧ Hid (Kb b wr VZ) := ⟨_, rfl, Lib.hid (HB9.out.set_ 3 _), Lib.hid ((HS9.out.set_at hgb 3 _).le (by omega)), Lib.hid (HK9.out.at_hi h50 3 _)⟩
          rw [← hV]
          obtain ⟨dd, hdd⟩ : ∃ dd : Int, dd = (m : Int) := ⟨_, rfl⟩
          rw [← hdd] at HBZ
          have HV4 : Hid (validInstrB (m : Int) ⟨x1, x2, cc, dd⟩ = true) := Lib.hid (by
            have := HC.out
            rw [validInstr_iff]; dsimp only; omega)
          clear hV hdd ha u0 u1 u2 u3 f3
    all_goals
      have HOZ := Lib.hid (HKZ.out.own' HO.out hb)
      have HKW := Lib.hid (HKj.out.trans HKZ.out)
      clear HO HKj
      have u0 : VZ.cell? ⟨g, 0, none⟩ = some (.int .i64 x1) := HBZ.out.cell 0
      have u1 : VZ.cell? ⟨g, 1, none⟩ = some (.int .i64 x2) := HBZ.out.cell 1
      have u2 : VZ.cell? ⟨g, 2, none⟩ = some (.int .i64 cc) := HBZ.out.cell 2
      have u3 : VZ.cell? ⟨g, 3, none⟩ = some (.int .i64 dd) := HBZ.out.cell 3
      go_wp2_with (at_builtin; refine wpList_append_Own rfl (.tmp 42) (.tmp 44) rfl elQ (lo := w.heap.size) rfl (HOZ.out.alloc _) rfl (R4.new VZ ⟨x1, x2, cc, dd⟩) (cells4_one _) (by omega) (by simp only [maxLen]; omega) (by have := HKW.out.size; simp; omega) ?_; intro A2 c2 w2 o2 g2 _)
      rw [cells4_append] at o2
      have HO2 := Lib.hid o2
      have HS2 : Hid (Src b A n c (T + 2 + 12 * (j + 1)) w2) := Lib.hid (((HSZ.out.alloc _).more (HOZ.out.alloc _) hb g2).le (by omega))
      have HK2 : Hid (Kb b w w2) := Lib.hid ((HKW.out.alloc _).grown (HOZ.out.alloc _) (Nat.le_refl _) g2)
      clear o2 g2
      go_roundw
      case rel => exact ⟨j + 1, A2, c2, ps ++ [⟨x1, x2, cc, dd⟩], by omega, by go_num, rfl, Lib.hid (by rw [List.length_append, HL.out]; rfl), HO2, Lib.hid (fun x hx => by
        rcases List.mem_append.1 hx with h | h
        · exact HVI.out x h
        · obtain rfl := List.mem_singleton.1 h
          exact HV4.out), HS2, HK2⟩
      case measure => simp [intOf]; omega
end Go.Proofs.Ytdlojbabnelbdaa

/-
  Contracts of spec.l07Copy, spec.l07DrawOk and spec.R8Program: a valid program and some contents.
-/
namespace Go.Proofs.Ytdlojbabnelbdaa
open Go.RowKit

theorem NewQ.drewP {b n c T most : Nat} {A : Option Addr} {w w1 w2 : World} {p : List R4} {e : Ending} (h : NewQ w1 p e w2) (hv : validProgB p = true) (hl : p.length ≤ most) (hs : Src b A n c T w1) (hk : Kb b w w1) : DrewP b A n c T most w e w2 := by
  obtain ⟨D, d, h1, o, z⟩ := h
  exact ⟨D, d, p, h1, o.mono hk.size, hv, hl, hs.below z, hk.trans (Kb.of_below z)⟩
theorem DrewP.le {b n c T T' most most' : Nat} {A : Option Addr} {w w' : World} {e : Ending} (h : DrewP b A n c T most w e w') (h1 : T ≤ T') (h2 : most ≤ most') : DrewP b A n c T' most' w e w' := by
  obtain ⟨D, d, p, e1, o, v, l, s, k⟩ := h
  exact ⟨D, d, p, e1, o, v, by omega, s.le h1, k⟩
theorem DrewP.from {b n c T most : Nat} {A : Option Addr} {w w1 w' : World} {e : Ending} (h : DrewP b A n c T most w1 e w') (hk : Kb b w w1) : DrewP b A n c T most w e w' := by
  obtain ⟨D, d, p, e1, o, v, l, s, k⟩ := h
  exact ⟨D, d, p, e1, o.mono hk.size, v, l, s, hk.trans k⟩
set_option maxRecDepth 100000 in
set_option maxHeartbeats 4000000 in
theorem l07Copy_any (a b c : Int) (w : World) (ha : 0 ≤ a ∧ a ≤ 23) (hc : 0 ≤ c ∧ c ≤ 23) :
    Calls Try.prog 167 #[.int .i64 a, .int .i64 b, .int .i64 c] w (NewQ w (sJoin (moveL a [b, c]) (moveL c [a]))) := by
  obtain ⟨W1, hW_⟩ : ∃ W_, W_ = w.alloc (.cells #[.int .i64 b, .int .i64 c] 2) := ⟨_, rfl⟩
  have b1 : Blk W1 w.heap.size 2 #[.int .i64 b, .int .i64 c] := by rw [hW_]; exact Blk.new w _ _
  have z1 : Below w.heap.size w W1 := by rw [hW_]; exact (Below.refl _ _).alloc (Nat.le_refl _) _
  have HW1 := Lib.hid hW_
  clear hW_
  have s1 : SI W1 (some ⟨w.heap.size, 0, none⟩) 2 [b, c] := si_lit (xs := [b, c]) b1
  have hM := l07Move_any a _ 2 2 [b, c] W1 s1 (by omega) (by omega)
  obtain ⟨p, hp⟩ : ∃ p, p = moveL a [b, c] := ⟨_, rfl⟩
  obtain ⟨q, hq⟩ : ∃ q, q = moveL c [a] := ⟨_, rfl⟩
  have HPL : Hid (p.length ≤ 400) := Lib.hid (by rw [hp, moveL_len]; simp)
  have HQV : Hid (validProgB q = true) := Lib.hid (by
    rw [hq]; exact moveL_valid hc (fun t ht => by obtain rfl := List.mem_singleton.1 ht; exact ha) (by simp))
  have HMQ : Hid (∀ (W : World) (g : Nat), Blk W g 2 #[.int .i64 a] → Calls Try.prog 173 #[.int .i64 c, .slice (some ⟨g, 0, none⟩) 1 1] W (NewQ W q)) := Lib.hid (fun W g hb => by
    rw [hq]; exact l07Move_any c _ 1 1 [a] W (si_lit (xs := [a]) hb) (by omega) (by omega))
  rw [← hp] at hM
  have HM := Lib.hid hM
  have HZ1 := Lib.hid z1
  rw [← hp, ← hq]
  clear hM z1 b1 s1 hp hq ha hc
  go_enter Try.func167, Try.ntmps167
  go_wp2_with fail
  rw [← HW1.out]
  refine HM.out.mono ?_
  rintro e w2 ⟨D, d, rfl, o2, z2⟩
  have HZ2 := Lib.hid (HZ1.out.trans (z2.mono HZ1.out.size))
  obtain ⟨W3, hW_⟩ : ∃ W_, W_ = w2.alloc (.cells #[.int .i64 a] 2) := ⟨_, rfl⟩
  have b3 : Blk W3 w2.heap.size 2 #[.int .i64 a] := by rw [hW_]; exact Blk.new w2 _ _
  have z3 : Below w2.heap.size w2 W3 := by rw [hW_]; exact (Below.refl _ _).alloc (Nat.le_refl _) _
  have HW3 := Lib.hid hW_
  clear hW_
  have HO3 := Lib.hid (o2.below z3)
  have HZ3 := Lib.hid (HZ2.out.trans (z3.mono HZ2.out.size))
  have HM2 := Lib.hid (HMQ.out W3 w2.heap.size b3)
  clear o2 z2 z3 b3 HM HZ1
  go_wp2_with fail
  rw [← HW3.out]
  refine HM2.out.mono ?_
  rintro e w4 ⟨D4, d4, rfl, o4, z4⟩
  have HO4 := Lib.hid (HO3.out.below z4)
  have HO5 := Lib.hid o4
  have HZ4 := Lib.hid (HZ3.out.trans (z4.mono HZ3.out.size))
  clear o4 z4 HM2 HO3 HMQ
  go_wp2_with fail
  refine (l07Join_any D D4 d d4 p q w4 HO4.out.rd HO5.out.rd HPL.out HQV.out).mono ?_
  rintro e w6 ⟨D6, d6, rfl, o6, z6⟩
  have HN : Hid (NewQ w (sJoin p q) (.returned (.slice D6 (sJoin p q).length d6)) w6) := Lib.hid ⟨D6, d6, rfl, o6.mono HZ4.out.size, HZ4.out.trans (z6.mono HZ4.out.size)⟩
  clear o6 z6
  generalize (sJoin p q).length = N at *
  go_wp2_with fail
  go_ret
  exact HN.out
set_option maxRecDepth 100000 in
set_option maxHeartbeats 8000000 in
theorem drawProg_any (b : Nat) (A : Option Addr) (n c T : Nat) (xs : List Int) (w : World) (hx : SB w A n xs) (hA : ∀ k, blk A = some k → k ≠ b) (hs : Src b A n c T w) (hb : b < w.heap.size) (hT : T ≤ 300000) (hn : n ≤ 9223372036854775807) :
    Calls Try.prog 78 #[.pointer (some ⟨b, 0, none⟩)] w (DrewP b A n c (T + 110) 40 w) := by
  have HA := Lib.hid hA
  have HPK := Lib.hid (pick_any b A n c T xs 6 w hx hA hs (by omega) hn (by omega) (by omega))
  have HX := Lib.hid hx
  clear hx hA hs
  go_enter Try.func78, Try.ntmps78
  go_wp2_with fail
  refine HPK.out.mono ?_
  rintro e1 w1 ⟨x, rfl, hx0, hx1, hs1, hk1⟩
  have HX1 := Lib.hid (HX.out.kb hk1 HA.out)
  have HS1 := Lib.hid hs1
  have HK1 := Lib.hid hk1
  have hb1 : b < w1.heap.size := by have := hk1.size; omega
  clear hs1 hk1 HX HPK hx1
  by_cases x0 : x = 0
  · have q0 : (x == 0) = true := by rw [x0]; rfl
    have hC := l07Copy_any 0 1 2 w1 (by omega) (by omega)
    obtain ⟨p, hp⟩ : ∃ p, p = sJoin (moveL 0 [1, 2]) (moveL 2 [0]) := ⟨_, rfl⟩
    rw [← hp] at hC
    have HPV : Hid (validProgB p = true ∧ p.length ≤ 40) := Lib.hid (by rw [hp]; exact ⟨by decide, by decide⟩)
    have HC := Lib.hid hC
    clear hC hp x0
    go_wp2_with fail
    refine HC.out.mono ?_
    intro e2 w2 hN
    have HD := Lib.hid ((hN.drewP HPV.out.1 HPV.out.2 HS1.out HK1.out).le (T' := T + 110) (most' := 40) (by omega) (by omega))
    obtain ⟨D, d, rfl, -, -⟩ := hN
    generalize p.length = N at *
    go_wp2_with fail
    go_ret
    exact HD.out
  have q0 : (x == 0) = false := by simpa using x0
  by_cases x1 : x = 1
  · have q1 : (x == 1) = true := by rw [x1]; rfl
    have hC := l07Clear_any 2 w1
    obtain ⟨p, hp⟩ : ∃ p : List R4, p = [⟨1, 2, 0, 1⟩] := ⟨_, rfl⟩
    obtain ⟨q, hq⟩ : ∃ q : List R4, q = [⟨1, 0, 1, 1⟩] := ⟨_, rfl⟩
    obtain ⟨r, hr⟩ : ∃ r, r = sJoin p q := ⟨_, rfl⟩
    obtain ⟨s, hs⟩ : ∃ s, s = loopP 0 r := ⟨_, rfl⟩
    rw [← hp] at hC
    have HC := Lib.hid hC
    have HPV : Hid (p.length ≤ 400 ∧ validProgB q = true ∧ q.length = 1 ∧ validProgB r = true ∧ 1 ≤ r.length ∧ validProgB s = true ∧ s.length ≤ 40) := Lib.hid (by rw [hs, hr, hp, hq]; exact ⟨by decide, by decide, by decide, by decide, by decide, by decide, by decide⟩)
    have HQ4 : Hid (∀ (W : World) (g : Nat), Blk W g 133 #[.int .i64 1, .int .i64 0, .int .i64 1, .int .i64 1] → S4 W (some ⟨g, 0, none⟩) q.length q) := Lib.hid (fun W g hb => by
      rw [hq]; exact (Blk.owns (n := 1) (s := 4) (lo := 0) hb rfl (by simp [maxLen]) (Nat.zero_le _)).rd)
    have HJ : Hid (∀ (P Q : Option Addr) (k l : Nat) (W : World), S4 W P p.length p → S4 W Q q.length q → Calls Try.prog 169 #[.slice P p.length k, .slice Q 1 l] W (NewQ W r)) := Lib.hid (fun P Q k l W h1 h2 => by
      have h := l07Join_any P Q k l p q W h1 h2 HPV.out.1 HPV.out.2.1
      rw [HPV.out.2.2.1, ← hr] at h; exact h)
    have HLp : Hid (∀ (Q : Option Addr) (l : Nat) (W : World), S4 W Q r.length r → Calls Try.prog 168 #[.int .i64 0, .slice Q r.length l] W (NewQ W s)) := Lib.hid (fun Q l W h1 => by
      rw [hs]; exact l07Loop_any 0 Q l r W h1 HPV.out.2.2.2.1 HPV.out.2.2.2.2.1)
    clear hC hp hq hr hs x0
    go_wp2_with fail
    refine HC.out.mono ?_
    rintro e2 w2 ⟨D, d, rfl, o2, z2⟩
    obtain ⟨W3, hW_⟩ : ∃ W_, W_ = w2.alloc (.cells #[.int .i64 1, .int .i64 0, .int .i64 1, .int .i64 1] 133) := ⟨_, rfl⟩
    have b3 : Blk W3 w2.heap.size 133 #[.int .i64 1, .int .i64 0, .int .i64 1, .int .i64 1] := by rw [hW_]; exact Blk.new w2 _ _
    have z3 : Below w2.heap.size w2 W3 := by rw [hW_]; exact (Below.refl _ _).alloc (Nat.le_refl _) _
    have HW3 := Lib.hid hW_
    clear hW_
    have HZ3 := Lib.hid (z2.trans (z3.mono z2.size))
    have HJ3 := Lib.hid (HJ.out D (some ⟨w2.heap.size, 0, none⟩) d 1 W3 (o2.below z3).rd (HQ4.out W3 _ b3))
    clear o2 z2 z3 b3 HC
    go_wp2_with fail
    rw [← HW3.out]
    refine HJ3.out.mono ?_
    rintro e4 w4 ⟨D4, d4, rfl, o4, z4⟩
    have HZ4 := Lib.hid (HZ3.out.trans (z4.mono HZ3.out.size))
    have HL4 := Lib.hid (HLp.out D4 d4 w4 o4.rd)
    clear o4 z4 HJ3
    go_wp2_with fail
    refine HL4.out.mono ?_
    intro e5 w5 hN
    have HD := Lib.hid ((hN.drewP HPV.out.2.2.2.2.2.1 HPV.out.2.2.2.2.2.2 (HS1.out.below HZ4.out) (HK1.out.trans (Kb.of_below HZ4.out))).le (T' := T + 110) (most' := 40) (by omega) (by omega))
    obtain ⟨D5, d5, rfl, -, -⟩ := hN
    generalize s.length = N at *
    go_wp2_with fail
    go_ret
    exact HD.out
  have q1 : (x == 1) = false := by simpa using x1
  by_cases x2 : x = 2
  · have q2 : (x == 2) = true := by rw [x2]; rfl
    clear x0 x1 x2
    obtain ⟨q, hq⟩ : ∃ q, q = moveL 1 [0] := ⟨_, rfl⟩
    have HMQ : Hid (∀ (W : World) (g : Nat), Blk W g 2 #[.int .i64 0] → Calls Try.prog 173 #[.int .i64 1, .slice (some ⟨g, 0, none⟩) 1 1] W (NewQ W q)) := Lib.hid (fun W g hb => by
      rw [hq]; exact l07Move_any 1 _ 1 1 [0] W (si_lit (xs := [0]) hb) (by omega) (by omega))
    have HQV : Hid (validProgB q = true ∧ q.length = 2) := Lib.hid (by rw [hq]; exact ⟨by decide, by decide⟩)
    clear hq
    go_wp2_with fail
    refine (pick_any b A n c _ xs 3 _ HX1.out HA.out HS1.out (by omega) hn (by omega) (by omega)).mono ?_
    rintro e2 w2 ⟨r, rfl, r0, r1, hs2, hk2⟩
    have HX2 := Lib.hid (HX1.out.kb hk2 HA.out)
    have HS2 := Lib.hid hs2
    have HK2 := Lib.hid (HK1.out.trans hk2)
    have hb2 : b < w2.heap.size := by have := hk2.size; omega
    clear hs2 hk2 HX1 HS1 HK1
    go_wp2_with fail
    refine (drawFlat_any b A n c _ xs _ HX2.out HA.out HS2.out hb2 (by omega) hn).mono ?_
    rintro e3 w3 ⟨D3, d3, p, rfl, o3, hpv, hpl, hs3, hk3⟩
    obtain ⟨W4, hW_⟩ : ∃ W_, W_ = w3.alloc (.cells #[.int .i64 0] 2) := ⟨_, rfl⟩
    have b4 : Blk W4 w3.heap.size 2 #[.int .i64 0] := by rw [hW_]; exact Blk.new w3 _ _
    have z4 : Below w3.heap.size w3 W4 := by rw [hW_]; exact (Below.refl _ _).alloc (Nat.le_refl _) _
    have HW4 := Lib.hid hW_
    clear hW_
    have HO4 := Lib.hid (o3.below z4)
    have HK4 := Lib.hid ((HK2.out.trans hk3).trans (Kb.of_below z4))
    have HS4 := Lib.hid (hs3.below z4)
    have HM4 := Lib.hid (HMQ.out W4 w3.heap.size b4)
    have HPV := Lib.hid hpv
    clear o3 hs3 hk3 z4 b4 HMQ hpv HX2 HS2 HK2
    go_wp2_with fail
    rw [← HW4.out]
    refine HM4.out.mono ?_
    rintro e5 w5 ⟨D5, d5, rfl, o5, z5⟩
    have HK5 := Lib.hid (HK4.out.trans (Kb.of_below z5))
    have HS5 := Lib.hid (HS4.out.below z5)
    have hB := l07Branch_any r D3 D5 d3 d5 p q w5 (HO4.out.below z5).rd HPV.out o5.rd HQV.out.1 (by rw [HQV.out.2]; omega)
    have HBV : Hid (validProgB (branchP r p q) = true ∧ (branchP r p q).length ≤ 40) := Lib.hid ⟨branchP_valid HPV.out HQV.out.1 r0 (by omega) (by rw [HQV.out.2]; omega), by rw [branchP_len, HQV.out.2]; omega⟩
    have HB := Lib.hid hB
    clear hB o5 z5 HO4 HK4 HS4 HM4
    go_wp2_with fail
    refine HB.out.mono ?_
    intro e6 w6 hN
    have HD := Lib.hid ((hN.drewP HBV.out.1 HBV.out.2 HS5.out HK5.out).le (T' := T + 110) (most' := 40) (by omega) (by omega))
    obtain ⟨D6, d6, rfl, -, -⟩ := hN
    generalize (branchP r p q).length = N at *
    go_wp2_with fail
    go_ret
    exact HD.out
  have q2 : (x == 2) = false := by simpa using x2
  by_cases x3 : x = 3
  · have q3 : (x == 3) = true := by rw [x3]; rfl
    clear x0 x1 x2 x3
    obtain ⟨W2, hW_⟩ : ∃ W_, W_ = w1.alloc (.cells #[.int .i64 1, .int .i64 2] 2) := ⟨_, rfl⟩
    have b2 : Blk W2 w1.heap.size 2 #[.int .i64 1, .int .i64 2] := by rw [hW_]; exact Blk.new w1 _ _
    have z2 : Below w1.heap.size w1 W2 := by rw [hW_]; exact (Below.refl _ _).alloc (Nat.le_refl _) _
    have HW2 := Lib.hid hW_
    clear hW_
    have s2 : SI W2 (some ⟨w1.heap.size, 0, none⟩) 2 [1, 2] := si_lit (xs := [1, 2]) b2
    have hM := l07Move_any 0 _ 2 2 [1, 2] W2 s2 (by omega) (by omega)
    obtain ⟨p, hp⟩ : ∃ p, p = moveL 0 [1, 2] := ⟨_, rfl⟩
    have HPV : Hid (validProgB p = true ∧ p.length = 3) := Lib.hid (by rw [hp]; exact ⟨by decide, by decide⟩)
    rw [← hp] at hM
    have HM := Lib.hid hM
    have HZ2 := Lib.hid z2
    clear hM hp z2 b2 s2
    go_wp2_with fail
    rw [← HW2.out]
    refine HM.out.mono ?_
    rintro e3 w3 ⟨D3, d3, rfl, o3, z3⟩
    have hz3 := HZ2.out.trans (z3.mono HZ2.out.size)
    have HX3 := Lib.hid (HX1.out.below hz3)
    have HS3 := Lib.hid (HS1.out.below hz3)
    have HK3 := Lib.hid (HK1.out.trans (Kb.of_below hz3))
    have HO3 := Lib.hid (o3.mono (lo' := w1.heap.size) HZ2.out.size)
    have hb3 : b < w3.heap.size := by have := hz3.size; omega
    clear hz3 o3 z3 HX1 HS1 HK1 HM HZ2
    go_wp2_with fail
    refine (drawFlat_any b A n c _ xs _ HX3.out HA.out HS3.out hb3 (by omega) hn).mono ?_
    rintro e4 w4 ⟨D4, d4, q, rfl, o4, hqv, hql, hs4, hk4⟩
    have hJ := l07Join_any D3 D4 d3 d4 p q w4 (hk4.own' HO3.out hb1).rd o4.rd (by rw [HPV.out.2]; omega) hqv
    have HJV : Hid (validProgB (sJoin p q) = true ∧ (sJoin p q).length ≤ 40) := Lib.hid ⟨sJoin_valid HPV.out.1 hqv (by rw [HPV.out.2]; omega), by rw [sJoin_len, HPV.out.2]; omega⟩
    have HJ := Lib.hid hJ
    have HS4 := Lib.hid hs4
    have HK4 := Lib.hid (HK3.out.trans hk4)
    clear hJ o4 hqv hs4 hk4 HX3 HS3 HK3 HO3
    go_wp2_with fail
    refine HJ.out.mono ?_
    intro e6 w6 hN
    have HD := Lib.hid ((hN.drewP HJV.out.1 HJV.out.2 HS4.out HK4.out).le (T' := T + 110) (most' := 40) (by omega) (by omega))
    obtain ⟨D6, d6, rfl, -, -⟩ := hN
    generalize (sJoin p q).length = N at *
    go_wp2_with fail
    go_ret
    exact HD.out
  have q3 : (x == 3) = false := by simpa using x3
  clear x0 x1 x2 x3
  go_wp2_with fail
  refine (drawFlat_any b A n c _ xs _ HX1.out HA.out HS1.out hb1 (by omega) hn).mono ?_
  intro e2 w2 hN
  have HD := Lib.hid ((hN.from HK1.out).le (T' := T + 110) (most' := 40) (by omega) (by omega))
  obtain ⟨D6, d6, p, rfl, -⟩ := hN
  generalize p.length = N at *
  go_wp2_with fail
  go_ret
  exact HD.out
end Go.Proofs.Ytdlojbabnelbdaa

/-
  Contract of spec.R8Program: a valid program and some contents.
-/
namespace Go.Proofs.Ytdlojbabnelbdaa
open Go.RowKit

def NewR8P (w : World) (e : Ending) (w' : World) : Prop :=
  ∃ D d E e0 ps ys, e = .returned (.tuple #[.slice D ps.length d, .slice E ys.length e0]) ∧ Own w' w.heap.size 133 4 D ps.length d (cells4 ps) ∧ Own w' w.heap.size 2 1 E ys.length e0 (ints ys) ∧ validProgB ps = true ∧ ps.length ≤ 40 ∧ 3 ≤ ys.length ∧ ys.length ≤ 4 ∧ (∀ y ∈ ys, 0 ≤ y ∧ y ≤ 4) ∧ Below w.heap.size w w'
set_option maxRecDepth 100000 in
set_option maxHeartbeats 4000000 in
theorem r8Program_any (A : Option Addr) (l c : Nat) (xs : List Int) (w : World) (hx : SB w A l xs) (hA : ∀ k, blk A = some k → k < w.heap.size) (hl : l ≤ 9223372036854775807) :
    Calls Try.prog 13 #[.slice A l c] w (NewR8P w) := by
  have HX := Lib.hid hx
  have HA : Hid (∀ k, blk A = some k → k ≠ w.heap.size) := Lib.hid (fun k hk => by have := hA k hk; omega)
  clear hx hA
  go_enter Try.func13, Try.ntmps13
  go_wp2_with fail
  refine (from_any A l c w).mono ?_
  rintro e1 w1 ⟨rfl, hs1, z1⟩
  have hb1 : w.heap.size < w1.heap.size := by
    obtain ⟨_, _, _, _, _, h⟩ := hs1
    exact h.lt
  have HX1 := Lib.hid (HX.out.below z1)
  have HZ1 := Lib.hid z1
  have HS1 := Lib.hid hs1
  clear hs1 z1
  go_wp2_with fail
  refine (drawProg_any w.heap.size A l c 0 xs w1 HX1.out HA.out HS1.out hb1 (by omega) hl).mono ?_
  rintro e2 w2 ⟨D, d, ps, rfl, o2, hv2, hl2, hs2, hk2⟩
  obtain ⟨N, hN⟩ : ∃ N, N = ps.length := ⟨_, rfl⟩
  have HNL : Hid (N = ps.length) := Lib.hid hN
  rw [← hN]
  rw [← hN] at o2 hl2
  have HZ2 := Lib.hid (hk2.below HZ1.out (Nat.le_refl _))
  have HX2 := Lib.hid (HX1.out.kb hk2 HA.out)
  have h12 : w1.heap.size ≤ w2.heap.size := hk2.size
  obtain ⟨W3, hW_⟩ : ∃ W_, W_ = w2.alloc (.cells #[] 2) := ⟨_, rfl⟩
  have b3 : Blk W3 w2.heap.size 2 #[] := by rw [hW_]; exact Blk.new w2 _ _
  have z3 : Below w2.heap.size w2 W3 := by rw [hW_]; exact (Below.refl _ _).alloc (Nat.le_refl _) _
  have HW3 := Lib.hid hW_
  clear hW_
  have HO3 := Lib.hid (o2.below z3)
  have HV := Lib.hid hv2
  have HS3 := Lib.hid (hs2.below z3)
  have HX3 := Lib.hid (HX2.out.below z3)
  have HZ3 := Lib.hid (HZ2.out.trans (z3.mono HZ2.out.size))
  have HE3 : Hid (Own W3 w2.heap.size 2 1 (some ⟨w2.heap.size, 0, none⟩) 0 0 (ints [])) := Lib.hid (Blk.ownz b3 (Nat.le_refl _))
  have hb3 : w1.heap.size ≤ w2.heap.size := h12
  have HZS : Hid (w2.heap.size ≤ W3.heap.size) := Lib.hid z3.size
  clear hN o2 hv2 hs2 hk2 z3 b3 HX2 HZ2 HX1 HS1 HZ1
  go_upto_region 4 with fail
  rw [← HW3.out]
  clear HW3
  go_wp2_with fail
  refine (pick_any w.heap.size A l c _ xs 2 W3 HX3.out HA.out HS3.out (by omega) hl (by omega) (by omega)).mono ?_
  rintro e4 w4 ⟨x, rfl, hx0, hx1, hs4, hk4⟩
  obtain ⟨m, hm⟩ : ∃ m : Nat, 3 + x = (m : Int) := ⟨(3 + x).toNat, by omega⟩
  have m0 : 3 ≤ m := by omega
  have m1 : m ≤ 4 := by omega
  have v1 : IntKind.i64.wrap (3 + x) = (m : Int) := by rw [← hm]; exact IntWalk.i64_in _ (by omega)
  have HO4 := Lib.hid (hk4.own' HO3.out hb1)
  have HE4 := Lib.hid (hk4.own' HE3.out (by omega))
  have HZ4 := Lib.hid (hk4.below HZ3.out (Nat.le_refl _))
  have HS4 := Lib.hid hs4
  have HW4 : Hid (w2.heap.size ≤ w4.heap.size) := Lib.hid (by have := hk4.size; have := HZS.out; omega)
  clear hs4 hk4 HO3 HE3 HZ3 HS3 HX3 hm
  go_wp2_with fail
  go_loopw [6, 7] (fun o i wr => ∃ (k j : Nat) (E : Option Addr) (e0 : Nat) (ys : List Int), k + j = m ∧ i = .int .i64 (k : Int) ∧ o = .slice E j e0 ∧ Hid (ys.length = j) ∧ Hid (Own wr w2.heap.size 2 1 E j e0 (ints ys)) ∧ Hid (∀ y ∈ ys, 0 ≤ y ∧ y ≤ 4) ∧ Hid (Own wr w1.heap.size 133 4 D N d (cells4 ps)) ∧ Hid (Src w.heap.size A l c (200 + 2 * j) wr) ∧ Hid (Below w.heap.size w wr) ∧ Hid (w2.heap.size ≤ wr.heap.size)) (fun _ i _ => (intOf i).toNat)
  case atStart => exact ⟨m, 0, _, 0, [], by omega, rfl, rfl, Lib.hid rfl, HE4, Lib.hid (by simp), HO4, Lib.hid (HS4.out.le (by omega)), HZ4, HW4⟩
  case round =>
    obtain ⟨k, j, E, e0, ys, hkj, rfl, rfl, HL, HE, HY, HO, HS, HZ, HWZ⟩ := hrel
    clear HE4 HO4 HS4 HZ4 HW4 v1
    by_cases hlt : 0 < k
    rotate_left
    · have i1 : ¬ (0 : Int) < (k : Int) := by omega
      have HN : Hid (NewR8P w (.returned (.tuple #[.slice D N d, .slice E j e0])) wr) := Lib.hid (by
        obtain rfl : k = 0 := by omega
        have hl := HL.out
        have hn := HNL.out
        subst hl
        exact ⟨D, d, E, e0, ps, ys, by rw [hn], by rw [← hn]; exact HO.out.mono (by omega), HE.out.mono (by omega), HV.out, by omega, by omega, by omega, HY.out, HZ.out⟩)
      go_wp2_with fail
      exact bodyPost_ret (v := .tuple #[.slice D N d, .slice E j e0]) (by simp [results, Try.results13, go_sem]) rfl HN.out
    have i1 : (0 : Int) < (k : Int) := by omega
    have HPK := Lib.hid (pick_any w.heap.size A l c _ xs 5 wr (HX.out.below HZ.out) HA.out HS.out (by omega) hl (by omega) (by omega))
    go_wp2_with fail
    refine HPK.out.mono ?_
    rintro e5 w5 ⟨y, rfl, y0, y1, hs5, hk5⟩
    have HE5 := Lib.hid (hk5.own' HE.out (by omega))
    have HO5 := Lib.hid (hk5.own' HO.out hb1)
    have HZ5 := Lib.hid (hk5.below HZ.out (Nat.le_refl _))
    have HS5 := Lib.hid hs5
    have HW5 : Hid (w2.heap.size ≤ w5.heap.size) := Lib.hid (by have := HWZ.out; have := hk5.size; omega)
    have hlw : w.heap.size < w5.heap.size := by have := HW5.out; omega
    clear hs5 hk5 HE HO HZ HS HPK
    go_wp2_with (at_builtin; refine wpList_append_Own rfl (.tmp 20) (.tmp 23) rfl elI (lo := w2.heap.size) rfl (HE5.out.alloc _) rfl (Rd.new1 _ (.int .i64 y) _) (by simp [Value.oneCell']) (by omega) (by simp only [maxLen]; omega) (by have := HW5.out; simp; omega) ?_; intro A2 c2 w6 o6 g6 _)
    have HE6 : Hid (Own w6 w2.heap.size 2 1 A2 (j + 1) c2 (ints (ys ++ [y]))) := Lib.hid (by rw [← ints_append]; exact o6)
    have HO6 : Hid (Own w6 w1.heap.size 133 4 D N d (cells4 ps)) := Lib.hid ((HO5.out.alloc _).grown g6 (fun g hg => by
      have h := (HO5.out.alloc (.cells #[.int .i64 y] 2)).blk_ne (HE5.out.alloc (.cells #[.int .i64 y] 2)) (by decide)
      intro hD
      exact h g hD hg))
    have HS6 : Hid (Src w.heap.size A l c (200 + 2 * (j + 1)) w6) := Lib.hid (((HS5.out.alloc _).more (HE5.out.alloc _) (by omega) g6).le (by omega))
    have HZ6 : Hid (Below w.heap.size w w6) := Lib.hid ((HZ5.out.alloc HZ5.out.size _).grown g6 (by simp; omega) (fun k hk => by have := (HE5.out.alloc (.cells #[.int .i64 y] 2)).blk_ge k hk; omega))
    have HW6 : Hid (w2.heap.size ≤ w6.heap.size) := Lib.hid (by have h := g6.size; have := HW5.out; simp at h; omega)
    clear o6 g6
    go_roundw
    case rel => exact ⟨k - 1, j + 1, A2, c2, ys ++ [y], by omega, by go_num, rfl, Lib.hid (by rw [List.length_append, HL.out]; rfl), HE6, Lib.hid (fun v hv => by
        rcases List.mem_append.1 hv with h | h
        · exact HY.out v h
        · obtain rfl := List.mem_singleton.1 h
          omega), HO6, HS6, HZ6, HW6⟩
    case measure => simp [intOf]; omega
end Go.Proofs.Ytdlojbabnelbdaa
