/-
  Contracts of impl's stepMarkov, StepMarkov, RunMarkov.
-/
import Derived.Test.YtokglpdlhacnaaaPkMarkov2
import Derived.Test.YtokglpdlhacnaaaPkMarkov5
import Derived.Deep.CutBlock
namespace Go.Proofs.Ytokglpdlhacnaaa
open Go.RowKit

/-- The first place of a part, where f places are left. -/
def atF (w part : List Int) : Nat → Option Nat
  | 0 => none
  | f + 1 => if begB (w.drop (w.length - f)) part then some (w.length - f) else atF w part f
def occF (w part : List Int) : Option Nat := atF w part (w.length + 1)
/-- The next word and the rule's number, where f rules are left. -/
def mkTo (ts : List Mk3) (w : List Int) : Nat → Option (List Int × Nat)
  | 0 => none
  | f + 1 => match ts[ts.length - (f + 1)]? with
    | none => none
    | some t => match occF w t.xs with
      | some a => some (w.take a ++ t.ys ++ w.drop (a + t.xs.length), ts.length - (f + 1))
      | none => mkTo ts w f
def mkF (ts : List Mk3) (w : List Int) : Option (List Int × Nat) := mkTo ts w ts.length
def StepMk (w : World) (r : Option (List Int × Nat)) (e : Ending) (w' : World) : Prop :=
  match r with
  | some (ys, k) => ∃ D d, e = .returned (.tuple #[.slice D ys.length d, .int .i64 (k : Int)]) ∧ Own w' w.heap.size 2 1 D ys.length d (ints ys) ∧ Below w.heap.size w w'
  | none => e = .returned (.tuple #[.slice none 0 0, .int .i64 (-1)]) ∧ Below w.heap.size w w'
theorem atF_step {w part : List Int} {a : Nat} (h : a ≤ w.length) : atF w part (w.length + 1 - a) = if begB (w.drop a) part then some a else atF w part (w.length + 1 - (a + 1)) := by
  have e1 : w.length + 1 - a = (w.length - a) + 1 := by omega
  have e2 : w.length + 1 - (a + 1) = w.length - a := by omega
  have e3 : w.length - (w.length - a) = a := by omega
  rw [e1, e2, atF, e3]
theorem mkTo_step {ts : List Mk3} {w : List Int} {k : Nat} {t : Mk3} (h : ts[k]? = some t) : mkTo ts w (ts.length - k) = match occF w t.xs with
      | some a => some (w.take a ++ t.ys ++ w.drop (a + t.xs.length), k)
      | none => mkTo ts w (ts.length - (k + 1)) := by
  obtain ⟨hk, _⟩ := List.getElem?_eq_some_iff.1 h
  have e1 : ts.length - k = (ts.length - (k + 1)) + 1 := by omega
  have e2 : ts.length - (ts.length - (k + 1) + 1) = k := by omega
  rw [e1, mkTo, e2, h]
theorem begB_fits {xs ys : List Int} (h : begB xs ys = true) : ys.length ≤ xs.length := by
  unfold begB at h
  simp only [Bool.and_eq_true, decide_eq_true_eq] at h
  exact h.1
set_option maxRecDepth 100000 in
set_option maxHeartbeats 8000000 in
theorem stepMarkov_any (lo : Nat) (A : Option Addr) (n c : Nat) (ts : List Mk3) (B : Option Addr) (m d : Nat) (xs : List Int) (w : World) (hx : OMk w lo A n c ts) (hy : SI w B m xs) (hd : m ≤ d) (hm : m ≤ 1000) (hn : n ≤ 1000) (hs : ∀ t ∈ ts, t.xs.length ≤ 1000 ∧ t.ys.length ≤ 1000) :
    Calls Try.prog 56 #[.slice A n c, .slice B m d] w (StepMk w (mkF ts xs)) := by
  have HX := Lib.hid hx
  have HY := Lib.hid hy
  have HS := Lib.hid hs
  have HL : Hid (ts.length = n) := Lib.hid hx.len
  have HM : Hid (xs.length = m) := Lib.hid hy.len
  clear hx hy hs
  go_enter Try.func56, Try.ntmps56
  go_wp2_with fail
  go_loopw [11] (fun i wr => ∃ k : Nat, k ≤ n ∧ i = .int .i64 (k : Int) ∧ Hid (mkF ts xs = mkTo ts xs (ts.length - k)) ∧ Hid (Below w.heap.size w wr)) (fun i _ => n - (intOf i).toNat)
  case atStart => exact ⟨0, by omega, rfl, Lib.hid rfl, Lib.hid (Below.refl _ _)⟩
  case round =>
    obtain ⟨k, hk, rfl, HF, HZ⟩ := hrel
    by_cases hlt : k < n
    rotate_left
    · have i1 : ¬ (k : Int) < (n : Int) := by omega
      have HE : Hid (StepMk w (mkF ts xs) (.returned (.tuple #[.slice none 0 0, .int .i64 (-1)])) wr) := Lib.hid (by
        rw [HF.out, show ts.length - k = 0 by rw [HL.out]; omega]
        exact ⟨rfl, HZ.out⟩)
      go_wp2_with fail
      exact bodyPost_ret (v := .tuple #[.slice none 0 0, .int .i64 (-1)]) (by simp [results, Try.results56, go_sem]) rfl HE.out
    have i0 : (0 : Int) ≤ (k : Int) := by omega
    have i1 : (k : Int) < (n : Int) := by omega
    obtain ⟨t, b, off, hT, rfl, hbl, q0, q1, q2, hox, hoy⟩ := (HX.out.below HZ.out).pick hlt
    have HOX := Lib.hid hox
    have HOY := Lib.hid hoy
    obtain ⟨hl1, hl2⟩ := HS.out t (List.mem_of_getElem? hT.out)
    have HST : Hid (mkF ts xs = match occF xs t.xs with
      | some a => some (xs.take a ++ t.ys ++ xs.drop (a + t.xs.length), k)
      | none => mkTo ts xs (ts.length - (k + 1))) := Lib.hid (by rw [HF.out, mkTo_step hT.out])
    obtain ⟨W1, hW_⟩ : ∃ W_, W_ = wr.alloc (.cells #[.slice t.A t.xs.length t.a, .slice t.B t.ys.length t.b, .bool t.last] 50) := ⟨_, rfl⟩
    have b1 : Blk W1 wr.heap.size 50 #[.slice t.A t.xs.length t.a, .slice t.B t.ys.length t.b, .bool t.last] := by rw [hW_]; exact Blk.new wr _ _
    have z1 : Below wr.heap.size wr W1 := by rw [hW_]; exact (Below.refl _ _).alloc (Nat.le_refl _) _
    have HW1 := Lib.hid hW_
    clear hW_
    have HB1 := Lib.hid b1
    have HZ1 := Lib.hid (HZ.out.trans (z1.mono HZ.out.size))
    have HZr : Hid (Below wr.heap.size wr W1) := Lib.hid z1
    have hg1 : wr.heap.size < W1.heap.size := b1.lt
    have HG1 := Lib.hid hg1
    clear hox hoy b1 z1 HF
    go_upto_region 4 with fail
    rw [← HW1.out]
    clear HW1 q0 q1 q2
    go_wp2_with fail
    go_loopw [8] (fun i wx => ∃ a : Nat, a ≤ m + 1 ∧ i = .int .i64 (a : Int) ∧ Hid (occF xs t.xs = atF xs t.xs (xs.length + 1 - a)) ∧ Hid (Below W1.heap.size W1 wx)) (fun i _ => m + 1 - (intOf i).toNat)
    case atStart => exact ⟨0, by omega, rfl, Lib.hid rfl, Lib.hid (Below.refl _ _)⟩
    case round =>
      obtain ⟨a, ha, rfl, HA, HZx⟩ := hrel
      rename World => wx
      have HZ2 := Lib.hid (HZ1.out.trans (HZx.out.mono HZ1.out.size))
      have HZ3 := Lib.hid (HZr.out.trans (HZx.out.mono HZr.out.size))
      by_cases hle : a ≤ m
      rotate_left
      · have j1 : ¬ (a : Int) ≤ (m : Int) := by omega
        have HN : Hid (mkF ts xs = mkTo ts xs (ts.length - (k + 1))) := Lib.hid (by
          rw [HST.out, HA.out, show xs.length + 1 - a = 0 by rw [HM.out]; omega]
          rfl)
        go_wp2_with fail
        exact ⟨⟨k + 1, by omega, by go_num, HN, HZ2⟩, by simp [intOf]; omega⟩
      have j0 : (0 : Int) ≤ (a : Int) := by omega
      have j1 : (a : Int) ≤ (m : Int) := by omega
      have HB2 := Lib.hid (HB1.out.below' HZx.out)
      have HSS := Lib.hid (fun W' (h : Below wx.heap.size wx W') => ((HB2.out.below' h).cell 0 : W'.cell? ⟨wr.heap.size, 0, none⟩ = some (.slice t.A t.xs.length t.a)))
      have HBG := Lib.hid (fun W' (h : Below wx.heap.size wx W') => begins_any (if d = a then B else B.map (fun x => x.add a)) t.A (m - a) (d - a) t.xs.length t.a (xs.drop a) t.xs W' (((HY.out.below HZ2.out).below h).upon hle hd) ((HOX.out.below HZ3.out).below h).rd (by omega) (by omega))
      have hz : Below wx.heap.size wx wx.drew := below_drewN (Below.refl _ _) 1
      cases hb : begB (xs.drop a) t.xs
      · skip
        rw [hb] at HBG
        have HBB := Lib.hid hb
        clear hb
        go_upto_region 7 with fail
        refine wp_region_held_drew (S := (fun w' => w'.cell? ⟨wr.heap.size, 0, none⟩ = some (.slice t.A t.xs.length t.a))) (by kernel_rfl) ?_ (fun hHeld => ?_)
        · exact HSS.out _ hz
        generalize wx.drew = Wc at *
        refine wpAnyH_take (i := 0) (v := ?_) rfl (by kernel_rfl) (by kernel_rfl) (by kernel_rfl) (fun _ _ _ h => h) (Or.inl ⟨by rfl, ?_⟩) (by assumption) ?_
        rotate_left
        · intro w hSw
          try dsimp only at hSw
          go_simp
          try with_reducible rfl
        try simp only [Act.put, List.setIfInBounds_toArray]
        refine wpAnyH_take (i := 1) (v := ?_) rfl (by kernel_rfl) (by kernel_rfl) (by kernel_rfl) (fun _ _ _ h => h) (Or.inl ⟨by rfl, ?_⟩) (by assumption) ?_
        rotate_left
        · intro w hSw
          try dsimp only at hSw
          go_simp
          try with_reducible rfl
        try simp only [Act.put]
        refine wpAnyH_take (i := 2) (v := ?_) rfl (by kernel_rfl) (by kernel_rfl) (by kernel_rfl) (fun _ _ _ h => h) (Or.inl ⟨by rfl, ?_⟩) (by assumption) ?_
        rotate_left
        · intro w hSw
          try dsimp only at hSw
          go_simp
          try with_reducible rfl
        try simp only [Act.put]
        refine wpAnyH_take (i := 3) (v := ?_) rfl (by kernel_rfl) (by kernel_rfl) (by kernel_rfl) (fun _ _ _ h => h) (Or.inl ⟨by rfl, ?_⟩) (by assumption) ?_
        rotate_left
        · intro w hSw
          try dsimp only at hSw
          go_simp
          try with_reducible rfl
        try simp only [Act.put]
        refine wpAnyH_take (i := 4) (v := ?_) rfl (by kernel_rfl) (by kernel_rfl) (by kernel_rfl) (fun _ _ _ h => h) (Or.inl ⟨by rfl, ?_⟩) (by assumption) ?_
        rotate_left
        · intro w hSw
          try dsimp only at hSw
          go_simp
          try with_reducible rfl
        try simp only [Act.put]
        refine wpAnyH_ready (rs := [5]) (by kernel_rfl) (by simp) ?_
        refine AllReadyH.cons rfl (fun K hK => ?_) ?_
        · go_simp
          refine (HBG.out _ hz).mono ?_
          rintro e w7 ⟨rfl, z7⟩
          replace hz := hz.trans (z7.mono hz.size)
          generalize (if d = a then B else Option.map (fun x => x.add a) B) = B' at *
          refine hK.out _ _ ?_ (fun hHeld => ?_)
          · exact HSS.out _ hz
          clear hK K
          try simp only [Act.put, List.setIfInBounds_toArray, List.set_cons_zero, List.set_cons_succ]
          refine wpAnyH_done (by kernel_rfl) ?_ _
          have HN : Hid (occF xs t.xs = atF xs t.xs (xs.length + 1 - (a + 1))) := Lib.hid (by rw [HA.out, atF_step (by rw [HM.out]; exact hle), HBB.out]; rfl)
          have HZ4 := Lib.hid (HZx.out.trans (hz.mono HZx.out.size))
          go_wp2_with fail
          exact ⟨⟨a + 1, by omega, by go_num, HN, HZ4⟩, by simp [intOf]; omega⟩
        exact AllReadyH.nil
      · skip
        rw [hb] at HBG
        have HBB := Lib.hid hb
        clear hb
        go_upto_region 7 with fail
        refine wp_region_held_drew (S := (fun w' => w'.cell? ⟨wr.heap.size, 0, none⟩ = some (.slice t.A t.xs.length t.a))) (by kernel_rfl) ?_ (fun hHeld => ?_)
        · exact HSS.out _ hz
        generalize wx.drew = Wc at *
        refine wpAnyH_take (i := 0) (v := ?_) rfl (by kernel_rfl) (by kernel_rfl) (by kernel_rfl) (fun _ _ _ h => h) (Or.inl ⟨by rfl, ?_⟩) (by assumption) ?_
        rotate_left
        · intro w hSw
          try dsimp only at hSw
          go_simp
          try with_reducible rfl
        try simp only [Act.put, List.setIfInBounds_toArray]
        refine wpAnyH_take (i := 1) (v := ?_) rfl (by kernel_rfl) (by kernel_rfl) (by kernel_rfl) (fun _ _ _ h => h) (Or.inl ⟨by rfl, ?_⟩) (by assumption) ?_
        rotate_left
        · intro w hSw
          try dsimp only at hSw
          go_simp
          try with_reducible rfl
        try simp only [Act.put]
        refine wpAnyH_take (i := 2) (v := ?_) rfl (by kernel_rfl) (by kernel_rfl) (by kernel_rfl) (fun _ _ _ h => h) (Or.inl ⟨by rfl, ?_⟩) (by assumption) ?_
        rotate_left
        · intro w hSw
          try dsimp only at hSw
          go_simp
          try with_reducible rfl
        try simp only [Act.put]
        refine wpAnyH_take (i := 3) (v := ?_) rfl (by kernel_rfl) (by kernel_rfl) (by kernel_rfl) (fun _ _ _ h => h) (Or.inl ⟨by rfl, ?_⟩) (by assumption) ?_
        rotate_left
        · intro w hSw
          try dsimp only at hSw
          go_simp
          try with_reducible rfl
        try simp only [Act.put]
        refine wpAnyH_take (i := 4) (v := ?_) rfl (by kernel_rfl) (by kernel_rfl) (by kernel_rfl) (fun _ _ _ h => h) (Or.inl ⟨by rfl, ?_⟩) (by assumption) ?_
        rotate_left
        · intro w hSw
          try dsimp only at hSw
          go_simp
          try with_reducible rfl
        try simp only [Act.put]
        refine wpAnyH_ready (rs := [5]) (by kernel_rfl) (by simp) ?_
        refine AllReadyH.cons rfl (fun K hK => ?_) ?_
        · go_simp
          refine (HBG.out _ hz).mono ?_
          rintro e w7 ⟨rfl, z7⟩
          replace hz := hz.trans (z7.mono hz.size)
          generalize (if d = a then B else Option.map (fun x => x.add a) B) = B' at *
          refine hK.out _ _ ?_ (fun hHeld => ?_)
          · exact HSS.out _ hz
          clear hK K
          try simp only [Act.put, List.setIfInBounds_toArray, List.set_cons_zero, List.set_cons_succ]
          refine wpAnyH_done (by kernel_rfl) ?_ _
          have hfit : a + t.xs.length ≤ m := by have h := begB_fits HBB.out; rw [List.length_drop, HM.out] at h; omega
          have HN : Hid (mkF ts xs = some (xs.take a ++ t.ys ++ xs.drop (a + t.xs.length), k)) := Lib.hid (by rw [HST.out, HA.out, atF_step (by rw [HM.out]; exact hle), HBB.out]; rfl)
          have HB7 := Lib.hid (HB2.out.below' hz)
          have h7 := HB7.out
          have c0 := h7.cell 0
          have c1 := h7.cell 1
          have HZ4 := Lib.hid (HZ2.out.trans (hz.mono HZ2.out.size))
          have HR := Lib.hid (replaced_any B t.B m d a t.xs.length t.ys.length t.b xs t.ys w7 (HY.out.below HZ4.out) (HOY.out.below (HZ3.out.trans (hz.mono HZ3.out.size))).rd hd hm hl2 hfit)
          clear h7
          go_wp2_with (go_at_call 109; refine HR.out.mono ?_; rintro e8 w8 ⟨D, d8, rfl, o8, z8⟩)
          exact bodyPost_ret (v := .tuple #[.slice D (xs.take a ++ t.ys ++ xs.drop (a + t.xs.length)).length d8, .int .i64 (k : Int)]) (by simp [results, Try.results56, go_sem]) rfl (by unfold StepMk; rw [HN.out]; exact ⟨D, d8, rfl, o8.mono HZ4.out.size, HZ4.out.trans (z8.mono HZ4.out.size)⟩)
        exact AllReadyH.nil
end Go.Proofs.Ytokglpdlhacnaaa

/-
  The reference's draws of words and of Markov rules: l10DrawWord, l10DrawOk, l10DrawMarkov.
-/
namespace Go.Proofs.Ytokglpdlhacnaaa
open Go.RowKit

theorem Src.more {b lo s n0 c0 : Nat} {e : TypeId} {E : Option Addr} {xs : List Value} {A : Option Addr} {n c T : Nat} {W W' : World} (h : Src b A n c T W) (ho : Own W lo e s E n0 c0 xs) (hb : b < lo) (hg : W.grownBy W' (blk E)) : Src b A n c T W' := by
  obtain ⟨a, s, h1, h2, h3, h4⟩ := h
  exact ⟨a, s, h1, h2, h3, (hg.block b h4.lt (fun e => by have := ho.blk_ge b e.symm; omega)).trans h4⟩
theorem Blk.ownz {w : World} {g : Nat} {t : TypeId} {s lo : Nat} (h : Blk w g t #[]) (hlo : lo ≤ g) : Own w lo t s (some ⟨g, 0, none⟩) 0 0 [] := by
  refine ⟨by simp, .inr ⟨g, 0, #[], rfl, hlo, h, Nat.le_refl _, by simp [maxLen], by simp, fun k hk => ?_⟩⟩
  simp at hk
/-- A word was drawn. -/
def DrewL (b : Nat) (A : Option Addr) (n c T most : Nat) (L : Int) (w : World) (e : Ending) (w' : World) : Prop :=
  ∃ D d ys, e = .returned (.slice D ys.length d) ∧ Own w' w.heap.size 2 1 D ys.length d (ints ys) ∧ ys.length ≤ most ∧ (∀ x ∈ ys, 0 ≤ x ∧ x < L) ∧ Src b A n c T w' ∧ Kb b w w'
set_option maxRecDepth 100000 in
set_option maxHeartbeats 8000000 in
theorem drawWord_any (b : Nat) (A : Option Addr) (n c T : Nat) (xs : List Int) (least most : Nat) (L : Int) (w : World) (hx : SB w A n xs) (hA : ∀ k, blk A = some k → k ≠ b) (hs : Src b A n c T w) (hb : b < w.heap.size) (hT : T ≤ 1000000) (hn : n ≤ 9223372036854775807) (hlm : least ≤ most) (hmost : most ≤ 40) (hL : 1 ≤ L) (hL2 : L ≤ 200) :
    Calls Try.prog 52 #[.pointer (some ⟨b, 0, none⟩), .int .i64 (least : Int), .int .i64 (most : Int), .int .i64 L] w (DrewL b A n c (T + 100) most L w) := by
  have HX := Lib.hid hx
  have HA := Lib.hid hA
  have HS := Lib.hid hs
  clear hx hA hs
  obtain ⟨W1, hW_⟩ : ∃ W_, W_ = w.alloc (.cells #[] 2) := ⟨_, rfl⟩
  have b1 : Blk W1 w.heap.size 2 #[] := by rw [hW_]; exact Blk.new w _ _
  have z1 : Below w.heap.size w W1 := by rw [hW_]; exact (Below.refl _ _).alloc (Nat.le_refl _) _
  have HW1 := Lib.hid hW_
  clear hW_
  have o1 : Own W1 w.heap.size 2 1 (some ⟨w.heap.size, 0, none⟩) 0 0 (ints []) := Blk.ownz b1 (Nat.le_refl _)
  have HS1 := Lib.hid (HS.out.below z1)
  have HX1 := Lib.hid (HX.out.below z1)
  have HK1 : Hid (Kb b w W1) := Lib.hid (Kb.of_below z1)
  obtain ⟨P, hP⟩ : ∃ P : Int, (most : Int) - (least : Int) + 1 = P := ⟨_, rfl⟩
  obtain ⟨P0, hP0⟩ : ∃ P0 : Int, (most : Int) - (least : Int) = P0 := ⟨_, rfl⟩
  have w1 : IntKind.i64.wrap ((most : Int) - (least : Int)) = P0 := by rw [hP0]; exact IntWalk.i64_in _ (by omega)
  have w2 : IntKind.i64.wrap (P0 + 1) = P := by rw [← hP0, hP]; exact IntWalk.i64_in _ (by omega)
  have hp1 : 1 ≤ P ∧ P ≤ 41 := by omega
  have HPP := Lib.hid hP
  obtain ⟨hp1, hp2⟩ := hp1
  clear z1 b1 hP hP0
  go_enter Try.func52, Try.ntmps52
  go_upto_region 2 with fail
  rw [← HW1.out]
  clear HW1
  go_wp2_with fail
  refine (pick_any b A n c T xs P _ HX1.out HA.out HS1.out (by omega) hn (by omega) (by omega)).mono ?_
  rintro e3 w3 ⟨x, rfl, hx0, hx1, hs3, hk3⟩
  obtain ⟨Q, hQ⟩ : ∃ Q : Nat, (least : Int) + x = (Q : Int) := ⟨((least : Int) + x).toNat, by omega⟩
  have w3' : IntKind.i64.wrap ((least : Int) + x) = (Q : Int) := by rw [hQ]; exact IntWalk.i64_in _ (by omega)
  have hQm : Q ≤ most := by have := HPP.out; omega
  have HS3 := Lib.hid hs3
  have HK3 := Lib.hid (HK1.out.trans hk3)
  have o3 := Lib.hid (hk3.own' o1 hb)
  clear hs3 hk3 hx0 hx1 HS1 HK1 HX1 o1 w1 w2 hQ
  go_wp2_with fail
  clear w3'
  go_loopw [9, 10] (fun v k wr => ∃ (q : Nat) (E : Option Addr) (e : Nat) (ys : List Int), q ≤ Q ∧ k = .int .i64 (q : Int) ∧ v = .slice E ys.length e ∧ Own wr w.heap.size 2 1 E ys.length e (ints ys) ∧ Hid (ys.length + q = Q) ∧ Hid (∀ x ∈ ys, 0 ≤ x ∧ x < L) ∧ Hid (Src b A n c (T + 2 + 2 * ys.length) wr) ∧ Hid (Kb b w wr)) (fun _ k _ => (intOf k).toNat)
  case atStart => exact ⟨Q, _, 0, [], Nat.le_refl _, rfl, rfl, o3.out, Lib.hid (by simp), Lib.hid (by simp), HS3, HK3⟩
  case round =>
    obtain ⟨q, E, e, ys, hq, rfl, rfl, hE, HQ, HY, HSq, HKq⟩ := hrel
    clear o3 HS3 HK3
    by_cases hq1 : 0 < q
    · have hyl : ys.length ≤ 40 := by have := HQ.out; omega
      have HXq := Lib.hid (HX.out.kb HKq.out HA.out)
      go_wp2_with fail
      refine (pick_any b A n c (T + 2 + 2 * ys.length) xs L _ HXq.out HA.out HSq.out (by omega) hn (by omega) (by omega)).mono ?_
      rintro e1 w1 ⟨y, rfl, hy0, hy1, hs1, hk1⟩
      have hE1 := hk1.own' hE hb
      have HK4 := Lib.hid (HKq.out.trans hk1)
      have HS4 := Lib.hid hs1
      have HYY : Hid (∀ x ∈ ys ++ [y], 0 ≤ x ∧ x < L) := Lib.hid (by
        intro x hx
        rcases List.mem_append.1 hx with h | h
        · exact HY.out x h
        · rw [List.mem_singleton.1 h]; exact ⟨hy0, by omega⟩)
      clear hs1 hk1 hy1 hy0
      go_wp2_with (at_builtin; refine wpList_append_Own rfl (.tmp 24) (.tmp 28) rfl elI (lo := w.heap.size) rfl (hE1.alloc _) rfl (Rd.new1 _ (.int .i64 y) _) (by simp [Value.oneCell']) (by omega) (by simp only [maxLen]; omega) (by have := HK4.out.size; simp; omega) ?_; intro A5 c5 W5 o5 hg5 hw5)
      have HK5 : Hid (Kb b w W5) := Lib.hid ((HK4.out.alloc _).grown (hE1.alloc _) (Nat.le_refl _) hg5)
      have HS5 : Hid (Src b A n c (T + 2 + 2 * (ys ++ [y]).length) W5) := Lib.hid (by
        rw [List.length_append]
        exact ((HS4.out.alloc _).more (hE1.alloc _) hb hg5).le (by simp; omega))
      have o6 : Own W5 w.heap.size 2 1 A5 (ys ++ [y]).length c5 (ints (ys ++ [y])) := by
        rw [List.length_append, ← ints_append]; exact o5
      have HLL : Hid (ys.length + 1 = (ys ++ [y]).length) := Lib.hid (by rw [List.length_append]; rfl)
      have HQ5 : Hid ((ys ++ [y]).length + (q - 1) = Q) := Lib.hid (by rw [← HLL.out]; have := HQ.out; omega)
      go_wp2_with fail
      go_roundw
      case rel => exact ⟨q - 1, A5, c5, ys ++ [y], by omega, by go_num, by rw [← HLL.out], o6, HQ5, HYY, HS5, HK5⟩
      case measure => simp [intOf]; omega
    · obtain rfl : q = 0 := by omega
      have HE : Hid (DrewL b A n c (T + 100) most L w (.returned (.slice E ys.length e)) wr) := Lib.hid ⟨E, e, ys, rfl, hE, by have := HQ.out; omega, HY.out, HSq.out.le (by have := HQ.out; omega), HKq.out⟩
      go_wp2_with fail
      go_ret
      exact HE.out
end Go.Proofs.Ytokglpdlhacnaaa

/-
  The reference's draws of rewriting rules: l10DrawOk.
-/
namespace Go.Proofs.Ytokglpdlhacnaaa
open Go.RowKit

theorem Rk.new (w : World) (t : Rk) : Rd (w.alloc (.cells #[.slice t.A t.xs.length t.a, .slice t.B t.ys.length t.b] 157)) 2 (some ⟨w.heap.size, 0, none⟩) 1 t.cells := by
  refine ⟨rfl, fun _ => ⟨_, 0, rfl, fun k hk => ?_⟩⟩
  rw [cell_of_row _ w.heap.size (0 + k) _ 157 (0, 0) (heap_alloc_new w _)]
  rw [Rk.cells_len] at hk
  match k, hk with
  | 0, _ => rfl
  | 1, _ => rfl
theorem drawWordZ (b : Nat) (A : Option Addr) (n c T : Nat) (xs : List Int) (least most : Int) (L : Int) (w : World) (hx : SB w A n xs) (hA : ∀ k, blk A = some k → k ≠ b) (hs : Src b A n c T w) (hb : b < w.heap.size) (hT : T ≤ 1000000) (hn : n ≤ 9223372036854775807) (h0 : 0 ≤ least) (hlm : least ≤ most) (hmost : most ≤ 40) (hL : 1 ≤ L) (hL2 : L ≤ 200) :
    Calls Try.prog 52 #[.pointer (some ⟨b, 0, none⟩), .int .i64 least, .int .i64 most, .int .i64 L] w (DrewL b A n c (T + 100) most.toNat L w) := by
  obtain ⟨l, rfl⟩ : ∃ l : Nat, least = (l : Int) := ⟨least.toNat, by omega⟩
  obtain ⟨m, rfl⟩ : ∃ m : Nat, most = (m : Int) := ⟨most.toNat, by omega⟩
  rw [Int.toNat_natCast]
  exact drawWord_any b A n c T xs l m L w hx hA hs hb hT hn (by omega) (by omega) hL hL2
/-- Few letters, all of them less than 3. -/
def Few (k : Nat) (xs : List Int) : Prop := xs.length ≤ k ∧ ∀ x ∈ xs, 0 ≤ x ∧ x < 3
/-- Rules were drawn. -/
def DrewRk (b : Nat) (A : Option Addr) (n c T : Nat) (w : World) (e : Ending) (w' : World) : Prop :=
  ∃ D d ts, e = .returned (.slice D ts.length d) ∧ ORk w' w.heap.size D ts.length d ts ∧ 1 ≤ ts.length ∧ ts.length ≤ 4 ∧ (∀ t ∈ ts, Few 4 t.xs ∧ Few 4 t.ys) ∧ Src b A n c T w' ∧ Kb b w w'
theorem ORk.nil {w : World} {lo g : Nat} (h : Blk w g 157 #[]) (hl : lo ≤ g) : ORk w lo (some ⟨g, 0, none⟩) ([] : List Rk).length 0 [] := ⟨Blk.ownz h hl, fun t ht => by cases ht⟩
set_option maxRecDepth 100000 in
set_option maxHeartbeats 8000000 in
theorem drawOk_any (b : Nat) (A : Option Addr) (n c T : Nat) (xs : List Int) (w : World) (hx : SB w A n xs) (hA : ∀ k, blk A = some k → k ≠ b) (hs : Src b A n c T w) (hb : b < w.heap.size) (hT : T ≤ 500000) (hn : n ≤ 9223372036854775807) :
    Calls Try.prog 102 #[.pointer (some ⟨b, 0, none⟩)] w (DrewRk b A n c (T + 2000) w) := by
  have HX := Lib.hid hx
  have HA := Lib.hid hA
  have HS := Lib.hid hs
  clear hx hA hs
  go_enter Try.func102, Try.ntmps102
  go_wp2_with fail
  refine (pick_any b A n c T xs 2 _ HX.out HA.out HS.out (by omega) hn (by omega) (by omega)).mono ?_
  rintro e1 w1 ⟨x, rfl, hx0, hx1, hs1, hk1⟩
  obtain ⟨L, hL⟩ : ∃ L : Int, 2 + x = L := ⟨_, rfl⟩
  have v1 : IntKind.i64.wrap (2 + x) = L := by rw [hL]; exact IntWalk.i64_in _ (by omega)
  have HL : Hid (2 ≤ L ∧ L ≤ 3) := Lib.hid (by omega)
  have HX1 := Lib.hid (HX.out.kb hk1 HA.out)
  have HLT : Hid (w.heap.size ≤ w1.heap.size) := Lib.hid hk1.size
  have HK1 := Lib.hid hk1
  have HX2 := HX
  clear hk1 hx0 hx1 hL HX HS
  obtain ⟨W2, hW_⟩ : ∃ W_, W_ = w1.alloc (.cells #[] 157) := ⟨_, rfl⟩
  have b2 : Blk W2 w1.heap.size 157 #[] := by rw [hW_]; exact Blk.new w1 _ _
  have z2 : Below w1.heap.size w1 W2 := by rw [hW_]; exact (Below.refl _ _).alloc (Nat.le_refl _) _
  have HW2 := Lib.hid hW_
  clear hW_
  have o2 : Hid (ORk W2 w.heap.size (some ⟨w1.heap.size, 0, none⟩) ([] : List Rk).length 0 []) := Lib.hid (ORk.nil b2 HLT.out)
  have HS2 := Lib.hid (hs1.below z2)
  have HXW := Lib.hid (HX1.out.below z2)
  have HK2 := Lib.hid (HK1.out.trans (Kb.of_below z2))
  clear z2 b2 hs1 HX1 HK1
  go_upto_region 3 with fail
  rw [← HW2.out]
  clear HW2 v1
  go_wp2_with fail
  refine (pick_any b A n c (T + 2) xs 4 _ HXW.out HA.out HS2.out (by omega) hn (by omega) (by omega)).mono ?_
  rintro e3 w3 ⟨y, rfl, hy0, hy1, hs3, hk3⟩
  obtain ⟨Q, hQ⟩ : ∃ Q : Nat, 1 + y = (Q : Int) := ⟨(1 + y).toNat, by omega⟩
  have v2 : IntKind.i64.wrap (1 + y) = (Q : Int) := by rw [hQ]; exact IntWalk.i64_in _ (by omega)
  have HQ : Hid (1 ≤ Q ∧ Q ≤ 4) := Lib.hid (by omega)
  have HS3 := Lib.hid hs3
  have HK3 := Lib.hid (HK2.out.trans hk3)
  have HO3 := Lib.hid (o2.out.kb hk3 hb)
  clear hs3 hk3 hy0 hy1 hQ HS2 HXW HK2 o2
  go_wp2_with fail
  clear v2
  go_loopw [4, 5] (fun v k wr => ∃ (q : Nat) (E : Option Addr) (e : Nat) (ts : List Rk), q ≤ Q ∧ k = .int .i64 (q : Int) ∧ v = .slice E ts.length e ∧ Hid (ORk wr w.heap.size E ts.length e ts) ∧ Hid (ts.length + q = Q) ∧ Hid (∀ t ∈ ts, Few 4 t.xs ∧ Few 4 t.ys) ∧ Hid (Src b A n c (T + 4 + 210 * ts.length) wr) ∧ Hid (Kb b w wr)) (fun _ k _ => (intOf k).toNat)
  case atStart => exact ⟨Q, _, 0, [], Nat.le_refl _, rfl, rfl, HO3, Lib.hid (by simp), Lib.hid (by simp), HS3, HK3⟩
  case round =>
    obtain ⟨q, E, e, ts, hq, rfl, rfl, HO, HTQ, HF, HSq, HKq⟩ := hrel
    clear HO3 HS3 HK3
    by_cases hq1 : 0 < q
    rotate_left
    · obtain rfl : q = 0 := by omega
      have HE : Hid (DrewRk b A n c (T + 2000) w (.returned (.slice E ts.length e)) wr) := Lib.hid ⟨E, e, ts, rfl, HO.out, by have := HTQ.out; have := HQ.out; omega, by have := HTQ.out; have := HQ.out; omega, HF.out, HSq.out.le (by have := HTQ.out; have := HQ.out; omega), HKq.out⟩
      go_wp2_with fail
      go_ret
      exact HE.out
    have i1 : (0 : Int) < (q : Int) := by omega
    have hq4 : q ≤ 4 := by have := HTQ.out; have := HQ.out; omega
    have HTL : Hid (ts.length ≤ 4) := Lib.hid (by have := HTQ.out; have := HQ.out; omega)
    have HXq := Lib.hid (HX2.out.kb HKq.out HA.out)
    have hbq : b < wr.heap.size := by have := HKq.out.size; omega
    go_wp2_with fail
    refine (drawWordZ b A n c (T + 4 + 210 * ts.length) xs 1 3 L _ HXq.out HA.out HSq.out hbq (by have := HTL.out; omega) hn (by omega) (by omega) (by omega) (by have := HL.out; omega) (by have := HL.out; omega)).mono ?_
    rintro e4 w4 ⟨D4, d4, xs4, rfl, hO4, hl4, hx4, hs4, hk4⟩
    have HL4 : Hid (xs4.length ≤ 3) := Lib.hid (by simpa using hl4)
    have HF4 : Hid (Few 4 xs4) := Lib.hid ⟨by have := HL4.out; omega, fun x hx => ⟨(hx4 x hx).1, by have := (hx4 x hx).2; have := HL.out; omega⟩⟩
    have HX4 := Lib.hid (HXq.out.kb hk4 HA.out)
    have HK4 := Lib.hid (HKq.out.trans hk4)
    have hO4' := Lib.hid (hO4.mono (lo' := w.heap.size) (by have := HKq.out.size; omega))
    have HOq4 := Lib.hid (HO.out.kb hk4 hb)
    clear hO4 hl4 hx4 hk4 HXq HKq HO HSq
    go_wp2_with fail
    refine (one_any b A n c (T + 4 + 210 * ts.length + 100) xs 5 _ HX4.out HA.out hs4 (by have := HTL.out; omega) hn (by omega) (by omega)).mono ?_
    rintro e5 w5 ⟨y5, rfl, hs5, hk5⟩
    have HX5 := Lib.hid (HX4.out.kb hk5 HA.out)
    have HK5 := Lib.hid (HK4.out.trans hk5)
    have HO5 := Lib.hid (hk5.own' hO4'.out hb)
    have HOq5 := Lib.hid (HOq4.out.kb hk5 hb)
    have hb5 : b < w5.heap.size := by have := HK5.out.size; omega
    have HS5 := Lib.hid hs5
    have v5 : IntKind.i64.wrap ((xs4.length : Int) + 1) = (xs4.length : Int) + 1 := IntWalk.i64_in _ (by have := HL4.out; omega)
    clear hs4 hs5 hk5 HX4 HK4 hO4' HOq4
    cases y5
    all_goals
      go_wp2_with fail
      refine (drawWordZ b A n c (T + 4 + 210 * ts.length + 100 + 2) xs 0 _ L _ HX5.out HA.out HS5.out hb5 (by have := HTL.out; omega) hn (by omega) (by omega) (by have := HL4.out; omega) (by have := HL.out; omega) (by have := HL.out; omega)).mono ?_
      rintro e6 w6 ⟨D6, d6, ys6, rfl, hO6, hl6, hx6, hs6, hk6⟩
      have HF6 : Hid (Few 4 ys6) := Lib.hid ⟨by have := HL4.out; omega, fun x hx => ⟨(hx6 x hx).1, by have := (hx6 x hx).2; have := HL.out; omega⟩⟩
      have HK6 := Lib.hid (HK5.out.trans hk6)
      have hO6' : Own w6 w.heap.size 2 1 D6 ys6.length d6 (ints ys6) := hO6.mono (lo' := w.heap.size) (by have := HK5.out.size; omega)
      have hOx6 := hk6.own' HO5.out hb
      have hOq6 := HOq5.out.kb hk6 hb
      have HS6 := Lib.hid hs6
      have HC : Hid (Rk.mk D4 d4 xs4 D6 d6 ys6 = Rk.mk D4 d4 xs4 D6 d6 ys6) := Lib.hid rfl
      clear hl6 hx6 hs6 hk6 hO6 HX5 HK5 HO5 HOq5 HS5 v5
      go_wp2_with (at_builtin; refine wpList_append_Own rfl (.tmp 28) (.tmp 35) rfl elRk (lo := w.heap.size) rfl (hOq6.alloc _).1 rfl (Rk.new w6 ⟨D4, d4, xs4, D6, d6, ys6⟩) (fun u hu => Rk.one [Rk.mk D4 d4 xs4 D6 d6 ys6] u (by simpa using hu)) (by have := HTL.out; omega) (by have := HTL.out; simp only [maxLen]; omega) (by have := HK6.out.size; simp; omega) ?_; intro A7 c7 W7 o7 hg7 hw7)
      have HK7 : Hid (Kb b w W7) := Lib.hid ((HK6.out.alloc _).grown (hOq6.alloc _).1 (Nat.le_refl _) hg7)
      have HS7 : Hid (Src b A n c (T + 4 + 210 * (ts ++ [Rk.mk D4 d4 xs4 D6 d6 ys6]).length) W7) := Lib.hid (by
        rw [List.length_append]
        exact ((HS6.out.alloc _).more (hOq6.alloc _).1 hb hg7).le (by simp; omega))
      have HO7 : Hid (ORk W7 w.heap.size A7 (ts.length + 1) c7 (ts ++ [Rk.mk D4 d4 xs4 D6 d6 ys6])) := Lib.hid ((hOq6.alloc _).snoc o7 hg7 (hOx6.alloc _) (hO6'.alloc _))
      have HLL : Hid ((ts ++ [Rk.mk D4 d4 xs4 D6 d6 ys6]).length = ts.length + 1) := Lib.hid (by rw [List.length_append]; rfl)
      have HFF : Hid (∀ t ∈ ts ++ [Rk.mk D4 d4 xs4 D6 d6 ys6], Few 4 t.xs ∧ Few 4 t.ys) := Lib.hid (by
        intro t ht
        rcases List.mem_append.1 ht with h | h
        · exact HF.out t h
        · rw [List.mem_singleton.1 h]; exact ⟨HF4.out, HF6.out⟩)
      generalize ts ++ [Rk.mk D4 d4 xs4 D6 d6 ys6] = us at HK7 HS7 HO7 HLL HFF
      clear o7 hg7 hw7 hOq6 hOx6 hO6' HC
      go_wp2_with fail
      go_roundw
      case rel => exact ⟨q - 1, A7, c7, us, by omega, by go_num, by rw [HLL.out], by rw [HLL.out]; exact HO7, Lib.hid (by rw [HLL.out]; have := HTQ.out; omega), HFF, HS7, HK7⟩
      case measure => simp [intOf]; omega
end Go.Proofs.Ytokglpdlhacnaaa

/-
  The reference's draws of Markov rules: l10DrawMarkov and B10Markov.
-/
namespace Go.Proofs.Ytokglpdlhacnaaa
open Go.RowKit

theorem Mk3.new (w : World) (t : Mk3) : Rd (w.alloc (.cells #[.slice t.A t.xs.length t.a, .slice t.B t.ys.length t.b, .bool t.last] 50)) 3 (some ⟨w.heap.size, 0, none⟩) 1 t.cells := by
  refine ⟨rfl, fun _ => ⟨_, 0, rfl, fun k hk => ?_⟩⟩
  rw [cell_of_row _ w.heap.size (0 + k) _ 50 (0, 0) (heap_alloc_new w _)]
  rw [Mk3.cells_len] at hk
  match k, hk with
  | 0, _ => rfl
  | 1, _ => rfl
  | 2, _ => rfl
/-- Rules were drawn. -/
def DrewMk (b : Nat) (A : Option Addr) (n c T : Nat) (w : World) (e : Ending) (w' : World) : Prop :=
  ∃ D d ts, e = .returned (.slice D ts.length d) ∧ OMk w' w.heap.size D ts.length d ts ∧ 1 ≤ ts.length ∧ ts.length ≤ 4 ∧ (∀ t ∈ ts, Few 4 t.xs ∧ Few 4 t.ys) ∧ Src b A n c T w' ∧ Kb b w w'
theorem OMk.nil {w : World} {lo g : Nat} (h : Blk w g 50 #[]) (hl : lo ≤ g) : OMk w lo (some ⟨g, 0, none⟩) ([] : List Mk3).length 0 [] := ⟨Blk.ownz h hl, fun t ht => by cases ht⟩
theorem Kb.cell_ {b k j : Nat} {W W' : World} (h : Kb b W W') (hk : k < W.heap.size) (hb : k ≠ b) : W'.cell? ⟨k, j, none⟩ = W.cell? ⟨k, j, none⟩ := by
  simp only [World.cell?, h.block k hk hb]
theorem Kb.set_at {b : Nat} {a W : World} (h : Kb b a W) {k : Nat} (hp : a.heap.size ≤ k) (j : Nat) (u : Value) : Kb b a (W.setCell ⟨k, j, none⟩ u) :=
  ⟨h.os, h.tape, h.output, by simpa [World.setCell] using h.size, fun x hk hy => (Below.heap_setCell W ⟨k, j, none⟩ u x (by dsimp only; omega)).trans (h.block x hk hy)⟩
theorem Src.set_at {b : Nat} {A : Option Addr} {n c T k : Nat} {W : World} (h : Src b A n c T W) (hk : k ≠ b) (j : Nat) (u : Value) : Src b A n c T (W.setCell ⟨k, j, none⟩ u) := by
  obtain ⟨a, s, h1, h2, h3, h4⟩ := h
  exact ⟨a, s, h1, h2, h3, (Below.heap_setCell W ⟨k, j, none⟩ u b (by dsimp only; omega)).trans h4⟩
theorem Kb.grown_at {b : Nat} {a W W' : World} {E : Option Addr} (h : Kb b a W) (hE : ∀ x, blk E = some x → a.heap.size ≤ x) (hg : W.grownBy W' (blk E)) : Kb b a W' :=
  ⟨hg.os.trans h.os, hg.tape.trans h.tape, hg.output.trans h.output, Nat.le_trans h.size hg.size, fun k hk hy => (hg.block k (Nat.lt_of_lt_of_le hk h.size) (fun e => by have := hE k e.symm; omega)).trans (h.block k hk hy)⟩
theorem OMk.but {w w' : World} {lo n c g : Nat} {A : Option Addr} {ts : List Mk3} {vs : Array Value} (h : OMk w lo A n c ts) (hb : Blk w g 50 vs) (k : Kb g w w') (h1 : blk A ≠ some g) : OMk w' lo A n c ts :=
  ⟨k.own h.1 h1, fun t ht => ⟨k.own (h.2 t ht).1 (Blk.aptt hb (h.2 t ht).1 (by decide)), k.own (h.2 t ht).2 (Blk.aptt hb (h.2 t ht).2 (by decide))⟩⟩
set_option maxRecDepth 100000 in
set_option maxHeartbeats 8000000 in
theorem drawMarkov_any (b : Nat) (A : Option Addr) (n c T : Nat) (xs : List Int) (w : World) (hx : SB w A n xs) (hA : ∀ k, blk A = some k → k ≠ b) (hs : Src b A n c T w) (hb : b < w.heap.size) (hT : T ≤ 400000) (hn : n ≤ 9223372036854775807) :
    Calls Try.prog 51 #[.pointer (some ⟨b, 0, none⟩)] w (DrewMk b A n c (T + 2100) w) := by
  have HX := Lib.hid hx
  have HA := Lib.hid hA
  have HS := Lib.hid hs
  clear hx hA hs
  go_enter Try.func51, Try.ntmps51
  go_wp2_with fail
  refine (drawOk_any b A n c T xs _ HX.out HA.out HS.out hb (by omega) hn).mono ?_
  rintro e1 w1 ⟨B, bc, us, rfl, hO1, hu1, hu4, hF1, hs1, hk1⟩
  have HLT : Hid (w.heap.size ≤ w1.heap.size) := Lib.hid hk1.size
  have HX1 := Lib.hid (HX.out.kb hk1 HA.out)
  have HK1 := Lib.hid hk1
  have HO1 := Lib.hid hO1
  have HF1 := Lib.hid hF1
  clear hO1 hF1 hk1 HS
  obtain ⟨W2, hW_⟩ : ∃ W_, W_ = w1.alloc (.cells #[] 50) := ⟨_, rfl⟩
  have b2 : Blk W2 w1.heap.size 50 #[] := by rw [hW_]; exact Blk.new w1 _ _
  have z2 : Below w1.heap.size w1 W2 := by rw [hW_]; exact (Below.refl _ _).alloc (Nat.le_refl _) _
  have HW2 := Lib.hid hW_
  clear hW_
  have o2 : Hid (OMk W2 w.heap.size (some ⟨w1.heap.size, 0, none⟩) ([] : List Mk3).length 0 []) := Lib.hid (OMk.nil b2 HLT.out)
  have HS2 := Lib.hid (hs1.below z2)
  have HK2 := Lib.hid (Kb.of_below (b := b) z2)
  clear z2 b2 hs1
  go_upto_region 3 with fail
  rw [← HW2.out]
  clear HW2
  go_wp2_with fail
  go_loopw [4, 5] (fun v k wr => ∃ (i : Nat) (E : Option Addr) (e : Nat) (ts : List Mk3), i ≤ us.length ∧ k = .int .i64 (i : Int) ∧ v = .slice E ts.length e ∧ Hid (OMk wr w.heap.size E ts.length e ts) ∧ Hid (ts.length = i) ∧ Hid (∀ t ∈ ts, Few 4 t.xs ∧ Few 4 t.ys) ∧ Hid (Src b A n c (T + 2000 + 4 * ts.length) wr) ∧ Hid (Kb b w1 wr) ∧ Hid (∀ x, blk E = some x → w1.heap.size ≤ x)) (fun _ k _ => us.length - (intOf k).toNat)
  case atStart => exact ⟨0, _, 0, [], by omega, rfl, rfl, o2, Lib.hid rfl, Lib.hid (by simp), HS2, HK2, Lib.hid (by simp [blk])⟩
  case round =>
    obtain ⟨i, E, e, ts, hi, rfl, rfl, HO, HTI, HF, HSi, HKi, HEE⟩ := hrel
    clear o2 HS2 HK2
    by_cases hlt : i < us.length
    rotate_left
    · have i1 : ¬ (i : Int) < (us.length : Int) := by omega
      have HE : Hid (DrewMk b A n c (T + 2100) w (.returned (.slice E ts.length e)) wr) := Lib.hid ⟨E, e, ts, rfl, HO.out, by have := HTI.out; omega, by have := HTI.out; omega, HF.out, HSi.out.le (by have := HTI.out; omega), HK1.out.trans HKi.out⟩
      go_wp2_with fail
      go_ret
      exact HE.out
    have i0 : (0 : Int) ≤ (i : Int) := by omega
    have i1 : (i : Int) < (us.length : Int) := by omega
    have hTL : ts.length ≤ 4 := by have := HTI.out; omega
    obtain ⟨t, bl, off, hti, rfl, hbl, c0, c1, hox, hoy⟩ := (HO1.out.kb HKi.out hb).pick hlt
    have HOX := Lib.hid hox
    have HOY := Lib.hid hoy
    have hblb : bl ≠ b := by have := HO1.out.1.blk_ge bl rfl; omega
    have hbi : b < wr.heap.size := by have := HKi.out.size; have := HLT.out; omega
    have HSS := Lib.hid (fun W' (h : Kb b wr W') => (⟨by rw [h.cell_ hbl hblb]; exact c0, by rw [h.cell_ hbl hblb]; exact c1⟩ : W'.cell? ⟨bl, off + i * 2, none⟩ = some (.slice t.A t.xs.length t.a) ∧ W'.cell? ⟨bl, off + i * 2 + 1, none⟩ = some (.slice t.B t.ys.length t.b)))
    clear hox hoy c0 c1
    go_upto_region 6 with fail
    go_cut [6] (fun s6 wx => ∃ (g9 : Nat) (y : Bool), s6 = .pointer (some ⟨g9, 0, none⟩) ∧ wr.heap.size ≤ g9 ∧ Blk wx g9 50 #[.slice t.A t.xs.length t.a, .slice t.B t.ys.length t.b, .bool y] ∧ Hid (Src b A n c (T + 2000 + 4 * ts.length + 2) wx) ∧ Hid (Kb b wr wx))
    case first =>
      have hs : Src b A n c (T + 2000 + 4 * ts.length) wr.drew := HSi.out.below (below_drewN (Below.refl wr.heap.size wr) 1)
      have hk : Kb b wr wr.drew := Kb.of_below (below_drewN (Below.refl _ _) 1)
      have HXi := Lib.hid (HX1.out.kb HKi.out HA.out)
      refine wp_region_noPanic ?_
      refine wp_region_held_drew (S := (fun w' => w'.cell? ⟨bl, off + i * 2, none⟩ = some (.slice t.A t.xs.length t.a) ∧ w'.cell? ⟨bl, off + i * 2 + 1, none⟩ = some (.slice t.B t.ys.length t.b))) (by kernel_rfl) ?_ (fun hHeld => ?_)
      · exact HSS.out _ hk
      generalize wr.drew = Wc at *
      refine wpAnyH_take (i := 0) (v := ?_) rfl (by kernel_rfl) (by kernel_rfl) (by kernel_rfl) (fun _ _ _ h => h) (Or.inl ⟨by rfl, ?_⟩) (by assumption) ?_
      rotate_left
      · intro w hSw
        try dsimp only at hSw
        go_simp
        try with_reducible rfl
      try simp only [Act.put, List.setIfInBounds_toArray]
      refine wpAnyH_take (i := 1) (v := ?_) rfl (by kernel_rfl) (by kernel_rfl) (by kernel_rfl) (fun _ _ _ h => h) (Or.inl ⟨by rfl, ?_⟩) (by assumption) ?_
      rotate_left
      · intro w hSw
        try dsimp only at hSw
        go_simp
        try with_reducible rfl
      try simp only [Act.put]
      refine wpAnyH_take (i := 2) (v := ?_) rfl (by kernel_rfl) (by kernel_rfl) (by kernel_rfl) (fun _ _ _ h => h) (Or.inl ⟨by rfl, ?_⟩) (by assumption) ?_
      rotate_left
      · intro w hSw
        try dsimp only at hSw
        go_simp
        try with_reducible rfl
      try simp only [Act.put]
      refine wpAnyH_take (i := 3) (v := ?_) rfl (by kernel_rfl) (by kernel_rfl) (by kernel_rfl) (fun _ _ _ h => h) (Or.inl ⟨by rfl, ?_⟩) (by assumption) ?_
      rotate_left
      · intro w hSw
        try dsimp only at hSw
        go_simp
        try with_reducible rfl
      try simp only [Act.put]
      refine wpAnyH_take (i := 4) (v := ?_) rfl (by kernel_rfl) (by kernel_rfl) (by kernel_rfl) (fun _ _ _ h => h) (Or.inl ⟨by rfl, ?_⟩) (by assumption) ?_
      rotate_left
      · intro w hSw
        try dsimp only at hSw
        obtain ⟨h0_, h1_⟩ := hSw
        go_simp
        try with_reducible rfl
      try simp only [Act.put]
      refine wpAnyH_take (i := 5) (v := ?_) rfl (by kernel_rfl) (by kernel_rfl) (by kernel_rfl) (fun _ _ _ h => h) (Or.inl ⟨by rfl, ?_⟩) (by assumption) ?_
      rotate_left
      · intro w hSw
        try dsimp only at hSw
        go_simp
        try with_reducible rfl
      try simp only [Act.put]
      refine wpAnyH_take (i := 6) (v := ?_) rfl (by kernel_rfl) (by kernel_rfl) (by kernel_rfl) (fun _ _ _ h => h) (Or.inl ⟨by rfl, ?_⟩) (by assumption) ?_
      rotate_left
      · intro w hSw
        try dsimp only at hSw
        go_simp
        try with_reducible rfl
      try simp only [Act.put]
      refine wpAnyH_take (i := 7) (v := ?_) rfl (by kernel_rfl) (by kernel_rfl) (by kernel_rfl) (fun _ _ _ h => h) (Or.inl ⟨by rfl, ?_⟩) (by assumption) ?_
      rotate_left
      · intro w hSw
        try dsimp only at hSw
        go_simp
        try with_reducible rfl
      try simp only [Act.put]
      refine wpAnyH_take (i := 8) (v := ?_) rfl (by kernel_rfl) (by kernel_rfl) (by kernel_rfl) (fun _ _ _ h => h) (Or.inl ⟨by rfl, ?_⟩) (by assumption) ?_
      rotate_left
      · intro w hSw
        try dsimp only at hSw
        go_simp
        try with_reducible rfl
      try simp only [Act.put]
      refine wpAnyH_take (i := 9) (v := ?_) rfl (by kernel_rfl) (by kernel_rfl) (by kernel_rfl) (fun _ _ _ h => h) (Or.inl ⟨by rfl, ?_⟩) (by assumption) ?_
      rotate_left
      · intro w hSw
        try dsimp only at hSw
        obtain ⟨h0_, h1_⟩ := hSw
        go_simp
        try with_reducible rfl
      try simp only [Act.put]
      refine wpAnyH_take (i := 10) (v := ?_) rfl (by kernel_rfl) (by kernel_rfl) (by kernel_rfl) (fun _ _ _ h => h) (Or.inl ⟨by rfl, ?_⟩) (by assumption) ?_
      rotate_left
      · intro w hSw
        try dsimp only at hSw
        go_simp
        try with_reducible rfl
      try simp only [Act.put]
      refine wpAnyH_ready (rs := [11, 13]) (by kernel_rfl) (by simp) ?_
      refine AllReadyH.cons rfl (fun K hK => ?_) ?_
      · go_simp
        refine (one_any b A n c (T + 2000 + 4 * ts.length) xs 5 _ (HXi.out.kb hk HA.out) HA.out hs (by omega) hn (by omega) (by omega)).mono ?_
        rintro e8 w8 ⟨y, rfl, hs8, hk8⟩
        replace hk := hk.trans hk8
        try replace hbt := hk8.blk_ hbt (by omega)
        refine hK.out _ _ ?_ (fun hHeld => ?_)
        · first | exact HSS.out _ hkf | exact HSS.out _ hk
        clear hK K
        try simp only [Act.put, List.setIfInBounds_toArray, List.set_cons_zero, List.set_cons_succ]
        refine wpAnyH_take (i := 12) (v := ?_) rfl (by kernel_rfl) (by kernel_rfl) (by kernel_rfl) (fun _ _ _ h => h) (Or.inl ⟨by rfl, ?_⟩) (by assumption) ?_
        rotate_left
        · intro w hSw
          try dsimp only at hSw
          go_simp
          try with_reducible rfl
        try simp only [Act.put, List.setIfInBounds_toArray]
        refine wpAnyH_ready (rs := [13]) (by kernel_rfl) (by simp) ?_
        refine AllReadyH.cons rfl (fun K hK => ?_) ?_
        · go_simp
          first
            | (have hk0 : Kb b wr w8 := hk; have hs0 := hs8; replace hk := hk.alloc (.cells #[.slice none 0 0, .slice none 0 0, .bool false] 50); have hbt : Blk (w8.alloc (.cells #[.slice none 0 0, .slice none 0 0, .bool false] 50)) w8.heap.size 50 #[.slice none 0 0, .slice none 0 0, .bool false] := Blk.new _ _ _)
            | (have hcz : b < Wc.heap.size := (by have := hk.size; omega); have hwz : wr.heap.size ≤ Wc.heap.size := hk.size; replace hk := hk.alloc (.cells #[.slice none 0 0, .slice none 0 0, .bool false] 50); replace hs := hs.alloc (.cells #[.slice none 0 0, .slice none 0 0, .bool false] 50); have hbt : Blk (Wc.alloc (.cells #[.slice none 0 0, .slice none 0 0, .bool false] 50)) Wc.heap.size 50 #[.slice none 0 0, .slice none 0 0, .bool false] := Blk.new _ _ _)
          refine hK.out _ _ ?_ (fun hHeld => ?_)
          · first | exact HSS.out _ hkf | exact HSS.out _ hk
          clear hK K
          try simp only [Act.put, List.setIfInBounds_toArray, List.set_cons_zero, List.set_cons_succ]
          refine wpAnyH_ready (rs := [14]) (by kernel_rfl) (by simp) ?_
          refine AllReadyH.cons rfl (fun K hK => ?_) ?_
          · have x0 := hbt.cell 0
            have x1 := hbt.cell 1
            have x2 := hbt.cell 2
            have f0 := hbt.frozen 0
            have f1 := hbt.frozen 1
            have f2 := hbt.frozen 2
            go_simp
            first
              | (have hkf : Kb b wr (w8.alloc (.cells #[.slice t.A t.xs.length t.a, .slice t.B t.ys.length t.b, .bool y] 50)) := hk0.alloc _; have hbf : Blk (w8.alloc (.cells #[.slice t.A t.xs.length t.a, .slice t.B t.ys.length t.b, .bool y] 50)) w8.heap.size 50 #[.slice t.A t.xs.length t.a, .slice t.B t.ys.length t.b, .bool y] := Blk.new _ _ _; have hsf : Src b A n c (T + 2000 + 4 * ts.length + 2) (w8.alloc (.cells #[.slice t.A t.xs.length t.a, .slice t.B t.ys.length t.b, .bool y] 50)) := hs0.alloc _; have hge := hk0.size)
              | (have hkf := ((hk.set_at hwz 0 (.slice t.A t.xs.length t.a)).set_at hwz 1 (.slice t.B t.ys.length t.b)).set_at hwz 2 (.bool y); have hbf := ((hbt.set_ 0 (.slice t.A t.xs.length t.a)).set_ 1 (.slice t.B t.ys.length t.b)).set_ 2 (.bool y); have hsf := (((hs8.set_at (k := Wc.heap.size) (by omega) 0 (.slice t.A t.xs.length t.a)).set_at (k := Wc.heap.size) (by omega) 1 (.slice t.B t.ys.length t.b)).set_at (k := Wc.heap.size) (by omega) 2 (.bool y)); have hge := hwz)
            refine hK.out _ _ ?_ (fun hHeld => ?_)
            · first | exact HSS.out _ hkf | exact HSS.out _ hk
            clear hK K
            try simp only [Act.put, List.setIfInBounds_toArray]
            refine wpAnyH_done (by kernel_rfl) ?_ _
            refine NoPanic.normal ?_
            go_wp2_with fail
            go_meet
            exact ⟨_, y, rfl, hge, hbf, Lib.hid hsf, Lib.hid hkf⟩
          exact AllReadyH.nil
        exact AllReadyH.nil
      refine AllReadyH.cons rfl (fun K hK => ?_) ?_
      · go_simp
        first
          | (have hk0 : Kb b wr w8 := hk; have hs0 := hs8; replace hk := hk.alloc (.cells #[.slice none 0 0, .slice none 0 0, .bool false] 50); have hbt : Blk (w8.alloc (.cells #[.slice none 0 0, .slice none 0 0, .bool false] 50)) w8.heap.size 50 #[.slice none 0 0, .slice none 0 0, .bool false] := Blk.new _ _ _)
          | (have hcz : b < Wc.heap.size := (by have := hk.size; omega); have hwz : wr.heap.size ≤ Wc.heap.size := hk.size; replace hk := hk.alloc (.cells #[.slice none 0 0, .slice none 0 0, .bool false] 50); replace hs := hs.alloc (.cells #[.slice none 0 0, .slice none 0 0, .bool false] 50); have hbt : Blk (Wc.alloc (.cells #[.slice none 0 0, .slice none 0 0, .bool false] 50)) Wc.heap.size 50 #[.slice none 0 0, .slice none 0 0, .bool false] := Blk.new _ _ _)
        refine hK.out _ _ ?_ (fun hHeld => ?_)
        · first | exact HSS.out _ hkf | exact HSS.out _ hk
        clear hK K
        try simp only [Act.put, List.setIfInBounds_toArray, List.set_cons_zero, List.set_cons_succ]
        refine wpAnyH_ready (rs := [11]) (by kernel_rfl) (by simp) ?_
        refine AllReadyH.cons rfl (fun K hK => ?_) ?_
        · go_simp
          refine (one_any b A n c (T + 2000 + 4 * ts.length) xs 5 _ (HXi.out.kb hk HA.out) HA.out hs (by omega) hn (by omega) (by omega)).mono ?_
          rintro e8 w8 ⟨y, rfl, hs8, hk8⟩
          replace hk := hk.trans hk8
          try replace hbt := hk8.blk_ hbt (by omega)
          refine hK.out _ _ ?_ (fun hHeld => ?_)
          · first | exact HSS.out _ hkf | exact HSS.out _ hk
          clear hK K
          try simp only [Act.put, List.setIfInBounds_toArray, List.set_cons_zero, List.set_cons_succ]
          refine wpAnyH_take (i := 12) (v := ?_) rfl (by kernel_rfl) (by kernel_rfl) (by kernel_rfl) (fun _ _ _ h => h) (Or.inl ⟨by rfl, ?_⟩) (by assumption) ?_
          rotate_left
          · intro w hSw
            try dsimp only at hSw
            go_simp
            try with_reducible rfl
          try simp only [Act.put, List.setIfInBounds_toArray]
          refine wpAnyH_ready (rs := [14]) (by kernel_rfl) (by simp) ?_
          refine AllReadyH.cons rfl (fun K hK => ?_) ?_
          · have x0 := hbt.cell 0
            have x1 := hbt.cell 1
            have x2 := hbt.cell 2
            have f0 := hbt.frozen 0
            have f1 := hbt.frozen 1
            have f2 := hbt.frozen 2
            go_simp
            first
              | (have hkf : Kb b wr (w8.alloc (.cells #[.slice t.A t.xs.length t.a, .slice t.B t.ys.length t.b, .bool y] 50)) := hk0.alloc _; have hbf : Blk (w8.alloc (.cells #[.slice t.A t.xs.length t.a, .slice t.B t.ys.length t.b, .bool y] 50)) w8.heap.size 50 #[.slice t.A t.xs.length t.a, .slice t.B t.ys.length t.b, .bool y] := Blk.new _ _ _; have hsf : Src b A n c (T + 2000 + 4 * ts.length + 2) (w8.alloc (.cells #[.slice t.A t.xs.length t.a, .slice t.B t.ys.length t.b, .bool y] 50)) := hs0.alloc _; have hge := hk0.size)
              | (have hkf := ((hk.set_at hwz 0 (.slice t.A t.xs.length t.a)).set_at hwz 1 (.slice t.B t.ys.length t.b)).set_at hwz 2 (.bool y); have hbf := ((hbt.set_ 0 (.slice t.A t.xs.length t.a)).set_ 1 (.slice t.B t.ys.length t.b)).set_ 2 (.bool y); have hsf := (((hs8.set_at (k := Wc.heap.size) (by omega) 0 (.slice t.A t.xs.length t.a)).set_at (k := Wc.heap.size) (by omega) 1 (.slice t.B t.ys.length t.b)).set_at (k := Wc.heap.size) (by omega) 2 (.bool y)); have hge := hwz)
            refine hK.out _ _ ?_ (fun hHeld => ?_)
            · first | exact HSS.out _ hkf | exact HSS.out _ hk
            clear hK K
            try simp only [Act.put, List.setIfInBounds_toArray]
            refine wpAnyH_done (by kernel_rfl) ?_ _
            refine NoPanic.normal ?_
            go_wp2_with fail
            go_meet
            exact ⟨_, y, rfl, hge, hbf, Lib.hid hsf, Lib.hid hkf⟩
          exact AllReadyH.nil
        exact AllReadyH.nil
      exact AllReadyH.nil
    case rest =>
      obtain ⟨g9, y, rfl, hg9, b9, HS9, HK9⟩ := hcut
      have HB9 := Lib.hid b9
      have HEg : Hid (∀ x, blk E = some x → x < wr.heap.size) := Lib.hid (fun x hx => HO.out.1.blk_lt x hx)
      have HX9 := Lib.hid ((HX1.out.kb HKi.out HA.out).kb HK9.out HA.out)
      have HO9 := Lib.hid (HO.out.kb HK9.out hb)
      have HOX9 := Lib.hid (HK9.out.own' HOX.out hb)
      have HOY9 := Lib.hid (HK9.out.own' HOY.out hb)
      have HKz9 := Lib.hid (HKi.out.trans HK9.out)
      have HFt := Lib.hid (HF1.out t (List.mem_of_getElem? hti.out))
      clear b9 HO HOX HOY HK9 HSi HSS
      go_wp2_with fail
      refine (one_any b A n c (T + 2000 + 4 * ts.length + 2) xs 12 _ HX9.out HA.out HS9.out (by omega) hn (by omega) (by omega)).mono ?_
      rintro e8 w8 ⟨z, rfl, hs8, hk8⟩
      have hb8 := hk8.blk_ HB9.out (by omega)
      have HO8 := Lib.hid (HO9.out.kb hk8 hb)
      have HOX8 := Lib.hid (hk8.own' HOX9.out hb)
      have HOY8 := Lib.hid (hk8.own' HOY9.out hb)
      have HK8 := Lib.hid (HKz9.out.trans hk8)
      have HS8 := Lib.hid hs8
      have hw8 : w1.heap.size ≤ w8.heap.size := HK8.out.size
      clear hs8 hk8 HB9 HO9 HOX9 HOY9 HKz9 HS9 HX9
      cases z
      rotate_left
      · skip
        obtain ⟨W10, hW_⟩ : ∃ W_, W_ = w8.alloc (.cells #[] 2) := ⟨_, rfl⟩
        have b10 : Blk W10 w8.heap.size 2 #[] := by rw [hW_]; exact Blk.new w8 _ _
        have z10 : Below w8.heap.size w8 W10 := by rw [hW_]; exact (Below.refl _ _).alloc (Nat.le_refl _) _
        have HW10 := Lib.hid hW_
        clear hW_
        have hb10 := hb8.below' z10
        have x0 : (w8.alloc (.cells #[] 2)).cell? ⟨g9, 0, none⟩ = some (.slice t.A t.xs.length t.a) := by rw [← HW10.out]; exact hb10.cell 0
        have f0 := hb10.frozen 0
        rw [HW10.out] at f0
        have HE10 : Hid (Own W10 w.heap.size 2 1 (some ⟨w8.heap.size, 0, none⟩) 0 0 []) := Lib.hid (Blk.ownz b10 (by have := HLT.out; omega))
        have HZ10 := Lib.hid z10
        have HB10 := Lib.hid hb10
        clear z10 b10 hb8 hb10
        go_upto_region 9 with fail
        rw [← HW10.out]
        clear x0 f0
        obtain ⟨V, hV⟩ : ∃ V, V = W10.setCell ⟨g9, 0, none⟩ (.slice (some ⟨w8.heap.size, 0, none⟩) 0 0) := ⟨_, rfl⟩
        rw [← hV]
        have k10 : Kb g9 W10 V := by rw [hV]; exact (Kb.refl _ _).set_ 0 _
        obtain ⟨t', hBV, HOV, HXV, HYV, HKV, HSV, HFV⟩ : ∃ t' : Mk3, Blk V g9 50 #[.slice t'.A t'.xs.length t'.a, .slice t'.B t'.ys.length t'.b, .bool t'.last] ∧ Hid (OMk V w.heap.size E ts.length e ts) ∧ Hid (Own V w.heap.size 2 1 t'.A t'.xs.length t'.a (ints t'.xs)) ∧ Hid (Own V w.heap.size 2 1 t'.B t'.ys.length t'.b (ints t'.ys)) ∧ Hid (Kb b w1 V) ∧ Hid (Src b A n c (T + 2000 + 4 * ts.length + 2 + 2) V) ∧ Hid (Few 4 t'.xs ∧ Few 4 t'.ys) := by
          refine ⟨⟨some ⟨w8.heap.size, 0, none⟩, 0, [], t.B, t.b, t.ys, y⟩, by rw [hV]; exact HB10.out.set_ 0 _, Lib.hid ?_, Lib.hid ?_, Lib.hid ?_, Lib.hid ?_, Lib.hid ?_, Lib.hid ⟨⟨by simp, by simp⟩, HFt.out.2⟩⟩
          · exact (HO8.out.below HZ10.out).but HB10.out k10 (fun h => by have := HEg.out _ h; omega)
          · exact k10.own HE10.out (Blk.aptt HB10.out HE10.out (by decide))
          · have h := HOY8.out.below HZ10.out
            exact k10.own h (Blk.aptt HB10.out h (by decide))
          · rw [hV]; exact (HK8.out.trans (Kb.of_below HZ10.out)).set_at (by have := HKi.out.size; omega) 0 _
          · rw [hV]; exact (HS8.out.below HZ10.out).set_at (by omega) 0 _
        clear hV k10
        have u0 : V.cell? ⟨g9, 0, none⟩ = some (.slice t'.A t'.xs.length t'.a) := hBV.cell 0
        have u1 : V.cell? ⟨g9, 1, none⟩ = some (.slice t'.B t'.ys.length t'.b) := hBV.cell 1
        have u2 : V.cell? ⟨g9, 2, none⟩ = some (.bool t'.last) := hBV.cell 2
        have hsz : w1.heap.size ≤ V.heap.size := HKV.out.size
        go_wp2_with (at_builtin; refine wpList_append_Own rfl (.tmp 33) (.tmp 35) rfl elMk3 (lo := w.heap.size) rfl (HOV.out.alloc _).1 rfl (Mk3.new V t') (fun u hu => Mk3.one [t'] u (by simpa using hu)) (by omega) (by simp only [maxLen]; omega) (by have := HLT.out; simp; omega) ?_; intro A7 c7 W7 o7 hg7 hw7)
        have HO7 : Hid (OMk W7 w.heap.size A7 (ts.length + 1) c7 (ts ++ [t'])) := Lib.hid ((HOV.out.alloc _).snoc o7 hg7 (HXV.out.alloc _) (HYV.out.alloc _))
        have HK7 : Hid (Kb b w1 W7) := Lib.hid ((HKV.out.alloc _).grown_at HEE.out hg7)
        have HE7 : Hid (∀ x, blk A7 = some x → w1.heap.size ≤ x) := Lib.hid (fun x hx => by
          rcases hw7.1 with h | h
          · exact HEE.out x (by rw [← h]; exact hx)
          · rw [h] at hx
            simp only [Option.some.injEq, World.size_alloc] at hx
            omega)
        have HS7 : Hid (Src b A n c (T + 2000 + 4 * (ts ++ [t']).length) W7) := Lib.hid (by
          rw [List.length_append]
          exact ((HSV.out.alloc _).more (HOV.out.alloc _).1 hb hg7).le (by simp; omega))
        have HLL : Hid ((ts ++ [t']).length = ts.length + 1) := Lib.hid (by rw [List.length_append]; rfl)
        have HFF : Hid (∀ t ∈ ts ++ [t'], Few 4 t.xs ∧ Few 4 t.ys) := Lib.hid (by
          intro x hx
          rcases List.mem_append.1 hx with h | h
          · exact HF.out x h
          · rw [List.mem_singleton.1 h]; exact HFV.out)
        clear o7 hg7 hw7 hBV HOV HXV HYV HKV HSV
        generalize ts ++ [t'] = vs at HO7 HS7 HLL HFF
        go_wp2_with fail
        go_roundw
        case rel => exact ⟨i + 1, A7, c7, vs, by omega, by go_num, by rw [HLL.out], by rw [HLL.out]; exact HO7, Lib.hid (by rw [HLL.out]; have := HTI.out; omega), HFF, HS7, HK7, HE7⟩
        case measure => simp [intOf]; omega
      · go_upto_region 9 with fail
        obtain ⟨V, hV⟩ : ∃ V, V = w8 := ⟨_, rfl⟩
        obtain ⟨t', hBV, HOV, HXV, HYV, HKV, HSV, HFV⟩ : ∃ t' : Mk3, Blk V g9 50 #[.slice t'.A t'.xs.length t'.a, .slice t'.B t'.ys.length t'.b, .bool t'.last] ∧ Hid (OMk V w.heap.size E ts.length e ts) ∧ Hid (Own V w.heap.size 2 1 t'.A t'.xs.length t'.a (ints t'.xs)) ∧ Hid (Own V w.heap.size 2 1 t'.B t'.ys.length t'.b (ints t'.ys)) ∧ Hid (Kb b w1 V) ∧ Hid (Src b A n c (T + 2000 + 4 * ts.length + 2 + 2) V) ∧ Hid (Few 4 t'.xs ∧ Few 4 t'.ys) := by
          rw [hV]
          exact ⟨⟨t.A, t.a, t.xs, t.B, t.b, t.ys, y⟩, hb8, HO8, HOX8, HOY8, HK8, HS8, HFt⟩
        rw [← hV]
        clear hV
        have u0 : V.cell? ⟨g9, 0, none⟩ = some (.slice t'.A t'.xs.length t'.a) := hBV.cell 0
        have u1 : V.cell? ⟨g9, 1, none⟩ = some (.slice t'.B t'.ys.length t'.b) := hBV.cell 1
        have u2 : V.cell? ⟨g9, 2, none⟩ = some (.bool t'.last) := hBV.cell 2
        have hsz : w1.heap.size ≤ V.heap.size := HKV.out.size
        go_wp2_with (at_builtin; refine wpList_append_Own rfl (.tmp 33) (.tmp 35) rfl elMk3 (lo := w.heap.size) rfl (HOV.out.alloc _).1 rfl (Mk3.new V t') (fun u hu => Mk3.one [t'] u (by simpa using hu)) (by omega) (by simp only [maxLen]; omega) (by have := HLT.out; simp; omega) ?_; intro A7 c7 W7 o7 hg7 hw7)
        have HO7 : Hid (OMk W7 w.heap.size A7 (ts.length + 1) c7 (ts ++ [t'])) := Lib.hid ((HOV.out.alloc _).snoc o7 hg7 (HXV.out.alloc _) (HYV.out.alloc _))
        have HK7 : Hid (Kb b w1 W7) := Lib.hid ((HKV.out.alloc _).grown_at HEE.out hg7)
        have HE7 : Hid (∀ x, blk A7 = some x → w1.heap.size ≤ x) := Lib.hid (fun x hx => by
          rcases hw7.1 with h | h
          · exact HEE.out x (by rw [← h]; exact hx)
          · rw [h] at hx
            simp only [Option.some.injEq, World.size_alloc] at hx
            omega)
        have HS7 : Hid (Src b A n c (T + 2000 + 4 * (ts ++ [t']).length) W7) := Lib.hid (by
          rw [List.length_append]
          exact ((HSV.out.alloc _).more (HOV.out.alloc _).1 hb hg7).le (by simp; omega))
        have HLL : Hid ((ts ++ [t']).length = ts.length + 1) := Lib.hid (by rw [List.length_append]; rfl)
        have HFF : Hid (∀ t ∈ ts ++ [t'], Few 4 t.xs ∧ Few 4 t.ys) := Lib.hid (by
          intro x hx
          rcases List.mem_append.1 hx with h | h
          · exact HF.out x h
          · rw [List.mem_singleton.1 h]; exact HFV.out)
        clear o7 hg7 hw7 hBV HOV HXV HYV HKV HSV
        generalize ts ++ [t'] = vs at HO7 HS7 HLL HFF
        go_wp2_with fail
        go_roundw
        case rel => exact ⟨i + 1, A7, c7, vs, by omega, by go_num, by rw [HLL.out], by rw [HLL.out]; exact HO7, Lib.hid (by rw [HLL.out]; have := HTI.out; omega), HFF, HS7, HK7, HE7⟩
        case measure => simp [intOf]; omega
/-- Markov rules and a word were drawn. -/
def DrewB (w : World) (e : Ending) (w' : World) : Prop :=
  ∃ D d ts E c ys, e = .returned (.tuple #[.slice D ts.length d, .slice E ys.length c]) ∧ OMk w' w.heap.size D ts.length d ts ∧ 1 ≤ ts.length ∧ ts.length ≤ 4 ∧ (∀ t ∈ ts, Few 4 t.xs ∧ Few 4 t.ys) ∧ Own w' w.heap.size 2 1 E ys.length c (ints ys) ∧ Few 7 ys ∧ Below w.heap.size w w'
theorem Kb.under {w W W' : World} (z : Below w.heap.size w W) (k : Kb w.heap.size W W') : Below w.heap.size w W' :=
  ⟨k.os.trans z.os, k.tape.trans z.tape, k.output.trans z.output, Nat.le_trans z.size k.size, fun x hx => (k.block x (Nat.lt_of_lt_of_le hx z.size) (by omega)).trans (z.block x hx)⟩
set_option maxRecDepth 100000 in
set_option maxHeartbeats 8000000 in
theorem b10Markov_any (A : Option Addr) (n c : Nat) (xs : List Int) (w : World) (hx : SB w A n xs) (hA : ∀ k, blk A = some k → k < w.heap.size) (hn : n ≤ 9223372036854775807) :
    Calls Try.prog 15 #[.slice A n c] w (DrewB w) := by
  have HX := Lib.hid hx
  have HA : Hid (∀ k, blk A = some k → k ≠ w.heap.size) := Lib.hid (fun k hk => by have := hA k hk; omega)
  clear hx hA
  go_enter Try.func15, Try.ntmps15
  go_wp2_with fail
  refine (from_any A n c w).mono ?_
  rintro e1 w1 ⟨rfl, hs1, z1⟩
  have HX1 := Lib.hid (HX.out.below z1)
  have hlt1 : w.heap.size < w1.heap.size := by
    obtain ⟨_, _, _, _, _, h⟩ := hs1
    exact h.lt
  have HS1 := Lib.hid hs1
  have HZ1 := Lib.hid z1
  clear hs1 z1
  go_wp2_with fail
  refine (drawMarkov_any w.heap.size A n c 0 xs _ HX1.out HA.out HS1.out hlt1 (by omega) hn).mono ?_
  rintro e2 w2 ⟨D, d, ts, rfl, hO2, h1, h4, hF2, hs2, hk2⟩
  have HX2 := Lib.hid (HX1.out.kb hk2 HA.out)
  have HO2 := Lib.hid hO2
  have HF2 := Lib.hid hF2
  have HZ2 := Lib.hid (hk2.under HZ1.out)
  have HS2 := Lib.hid hs2
  have HSz : Hid (w1.heap.size ≤ w2.heap.size) := Lib.hid hk2.size
  have hlt2 : w.heap.size < w2.heap.size := by have := hk2.size; omega
  clear hO2 hF2 hs2 hk2 HX1 HS1
  go_wp2_with fail
  refine (drawWordZ w.heap.size A n c (0 + 2100) xs 0 7 3 _ HX2.out HA.out HS2.out hlt2 (by omega) hn (by omega) (by omega) (by omega) (by omega) (by omega)).mono ?_
  rintro e3 w3 ⟨E, c3, ys, rfl, hO3, hl3, hy3, hs3, hk3⟩
  have HE : Hid (DrewB w (.returned (.tuple #[.slice D ts.length d, .slice E ys.length c3])) w3) := Lib.hid
    ⟨D, d, ts, E, c3, ys, rfl, (HO2.out.kb hk3 hlt1).mono (by omega), h1, h4, HF2.out, hO3.mono (by omega), ⟨by simpa using hl3, hy3⟩, hk3.under HZ2.out⟩
  clear hO3 hl3 hy3 hs3 hk3
  go_wp2_with fail
  exact bodyPost_ret (v := .tuple #[.slice D ts.length d, .slice E ys.length c3]) (by simp [results, Try.results15, go_sem]) rfl HE.out
end Go.Proofs.Ytokglpdlhacnaaa
