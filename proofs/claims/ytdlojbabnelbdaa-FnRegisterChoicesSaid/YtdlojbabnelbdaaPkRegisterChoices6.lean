/-
  Contracts of impl.runStore and RunProgram.
-/
import Derived.Test.YtdlojbabnelbdaaPbStartI7
import Derived.Test.YtdlojbabnelbdaaPkRegisterChoices0
import Derived.Test.YtdlojbabnelbdaaPkRegisterChoices3
import Derived.Test.YtdlojbabnelbdaaPkRegisterChoices5
import Derived.Laws.CopyOwn
namespace Go.Proofs.Ytdlojbabnelbdaa
open Go.RowKit

/-- What a run leaves: it has ended, or there is no room. -/
def RunPost (w0 : World) (g : Nat) (ps : List R4) (s : Sto) (N : Nat) (e : Ending) (w' : World) : Prop :=
  (∃ (i : Nat) (b : Bool), EndedP ps s N i ∧ (b = true ↔ endP ps (itP ps s i)) ∧ e = .returned (.tuple #[.int .i64 (i : Int), .bool b, .int .i64 0]) ∧ StoAt w0 g (itP ps s i) w') ∨
  (∃ i, FullP ps s N i ∧ e = .returned (.tuple #[.int .i64 0, .bool false, .int .i64 5]) ∧ Below w0.heap.size w0 w')
set_option maxRecDepth 100000 in
set_option maxHeartbeats 4000000 in
theorem runStore_any (w0 w : World) (g : Nat) (s : Sto) (A : Option Addr) (n k : Nat) (ps : List R4) (N : Nat) (f : FuncId) (hs : StoAt w0 g s w) (hp : S4 w0 A n ps) (hn : n ≤ 400) (hv : validProgB ps = true) (hst : storeB ps s = true) (hN : N ≤ 1000000)
    (hcall : ∀ (args : Array Value) (w : World), (callFunc f args).run Try.prog w = .ok (.enter f args) w)
    (hf : Hid (∀ (x y : Value) (W : World), Calls Try.prog f #[.agg #[x, y]] W fun e W' => (∃ u, e = .returned u) ∧ Below W.heap.size W W')) :
    Calls Try.prog 93 #[.slice A n k, .pointer (some ⟨g, 0, none⟩), .int .i64 (N : Int), .func (.func f) #[] #[]] w (RunPost w0 g ps s N) := by
  have HP := Lib.hid hp
  have HPL : Hid (ps.length = n) := Lib.hid hp.len
  have HS := Lib.hid hs
  have HV := Lib.hid hv
  have HST := Lib.hid hst
  clear hp hs hv hst
  go_enter Try.func93, Try.ntmps93
  go_wp2_with fail
  go_loopw [11] (fun i wr => ∃ j : Nat, j ≤ N ∧ i = .int .i64 (j : Int) ∧ Hid (AliveP ps s j) ∧ Hid (StoAt w0 g (itP ps s j) wr)) (fun i _ => N - (intOf i).toNat)
  case atStart => exact ⟨0, by omega, rfl, Lib.hid (AliveP.zero _ _), HS⟩
  case round =>
    obtain ⟨j, hj, rfl, HA, HSj⟩ := hrel
    clear HS
    have HVS : Hid (storeB ps (itP ps s j) = true) := Lib.hid (HA.out.valid HV.out HST.out)
    obtain ⟨hg, hz, C, c, hB, hO⟩ := HSj.out
    obtain ⟨pa, xs, hpx⟩ : ∃ pa xs, itP ps s j = ⟨pa, xs⟩ := ⟨_, _, rfl⟩
    have HPX := Lib.hid hpx
    rw [hpx] at hB hO
    dsimp only at hB hO
    have k0 : wr.cell? ⟨g, 0, none⟩ = some (.int .i64 pa) := hB.cell 0
    have k1 : wr.cell? ⟨g, 1, none⟩ = some (.slice C xs.length c) := hB.cell 1
    clear hz hB hO hpx
    go_wp2_with fail
    refine (hf.out _ _ wr).mono ?_
    rintro e w1 ⟨⟨u, rfl⟩, z1⟩
    have HS1 := Lib.hid (HSj.out.below z1)
    obtain ⟨_, hz1, C1, c1, hB1, _⟩ := HS1.out
    rw [HPX.out] at hB1
    have k2 : w1.cell? ⟨g, 0, none⟩ = some (.int .i64 pa) := hB1.cell 0
    clear z1 hz1 hB1 HSj k0 k1
    by_cases he : pa = (n : Int)
    · have HE : Hid (endP ps (itP ps s j)) := Lib.hid (by unfold endP; rw [HPX.out, HPL.out]; exact he)
      have d1 : (pa == (n : Int)) = true := by simpa using he
      clear he
      go_wp2_with fail
      go_quiet ((go_at_call 82; exact quiet_left (sizeQ_any _ _ _ _ (by omega))))
      go_wp2_with fail
      go_quiet ((go_at_call 82; exact quiet_add_left (sizeQ_any _ _ _ _ (by omega))))
      go_wp2_with fail
      exact bodyPost_ret (v := .tuple #[.int .i64 (j : Int), .bool true, .int .i64 0]) (by simp [results, Try.results93, go_sem]) rfl (.inl ⟨j, true, ⟨hj, HA.out, .inr HE.out⟩, ⟨fun _ => HE.out, fun _ => rfl⟩, rfl, HS1.out.below (below_drewN (below_drewN (Below.refl _ _) _) _)⟩)
    have HNE : Hid (¬ endP ps (itP ps s j)) := Lib.hid (by unfold endP; rw [HPX.out, HPL.out]; exact he)
    have d1 : (pa == (n : Int)) = false := by simpa using he
    clear he
    by_cases hjN : j = N
    · have d2 : ((j : Int) == (N : Int)) = true := by rw [hjN]; simp
      have HJN := Lib.hid hjN
      clear hjN
      go_wp2_with fail
      go_quiet ((go_at_call 82; exact quiet_left (sizeQ_any _ _ _ _ (by omega))))
      go_wp2_with fail
      go_quiet ((go_at_call 82; exact quiet_add_left (sizeQ_any _ _ _ _ (by omega))))
      go_wp2_with fail
      exact bodyPost_ret (v := .tuple #[.int .i64 (j : Int), .bool false, .int .i64 0]) (by simp [results, Try.results93, go_sem]) rfl (.inl ⟨j, false, ⟨hj, HA.out, .inl HJN.out⟩, ⟨fun h => by simp at h, fun h => absurd h HNE.out⟩, rfl, HS1.out.below (below_drewN (below_drewN (Below.refl _ _) _) _)⟩)
    · have d2 : ((j : Int) == (N : Int)) = false := by simp; omega
      have hlt : j < N := by omega
      clear hjN
      go_wp2_with fail
      go_quiet ((go_at_call 82; exact quiet_left (sizeQ_any _ _ _ _ (by omega))))
      have HS2 : Hid (StoAt w0 g (itP ps s j) (w1.drewN nq)) := Lib.hid (HS1.out.below (below_drewN (Below.refl _ _) _))
      have HSS := Lib.hid (stepStore_any w0 (w1.drewN nq) g (itP ps s j) A n k ps HS2.out HP.out hn HV.out HVS.out HNE.out)
      clear k2
      go_wp2_with fail
      refine HSS.out.mono ?_
      rintro e w3 ⟨b, rfl, hb, hS3⟩
      have HS3 := Lib.hid hS3
      have HB := Lib.hid hb
      clear hS3 hb HSS
      cases b
      · go_wp2_with fail
        exact bodyPost_ret (v := .tuple #[.int .i64 0, .bool false, .int .i64 5]) (by simp [results, Try.results93, go_sem]) rfl (.inr ⟨j, ⟨hlt, HA.out, HNE.out, fun h => by have := HB.out.2 h; simp at this⟩, rfl, HS3.out.2.1⟩)
      · have HA2 : Hid (AliveP ps s (j + 1)) := Lib.hid (HA.out.next HNE.out (HB.out.1 rfl))
        go_wp2_with fail
        go_roundw
        case rel => exact ⟨j + 1, by omega, by go_num, HA2, HS3⟩
        case measure => simp [intOf]; omega
theorem runVisit_any (x y : Value) (W : World) : Calls Try.prog 94 #[.agg #[x, y]] W fun e W' => (∃ u, e = .returned u) ∧ Below W.heap.size W W' := by
  go_enter Try.func94, Try.ntmps94
  go_wp2
  go_end0
  exact ⟨⟨_, rfl⟩, (Below.refl _ _).alloc (Nat.le_refl _) _⟩
end Go.Proofs.Ytdlojbabnelbdaa

/-
  Contracts of impl.RunProgram and StartStore.
-/
namespace Go.Proofs.Ytdlojbabnelbdaa
open Go.RowKit

def RunProgPost (w : World) (ps : List R4) (s : Sto) (N : Nat) (e : Ending) (w' : World) : Prop :=
  (∃ (i : Nat) (b : Bool) (C : Option Addr) (c : Nat), EndedP ps s N i ∧ (b = true ↔ endP ps (itP ps s i)) ∧ e = .returned (.tuple #[.agg #[.int .i64 (itP ps s i).p, .slice C (itP ps s i).xs.length c], .int .i64 (i : Int), .bool b, .int .i64 0]) ∧
    Own w' w.heap.size 2 1 C (itP ps s i).xs.length c (ints (itP ps s i).xs) ∧ Below w.heap.size w w') ∨
  (∃ i, FullP ps s N i ∧ e = .returned (.tuple #[.agg #[.int .i64 0, .slice none 0 0], .int .i64 0, .bool false, .int .i64 5]) ∧ Below w.heap.size w w')
set_option maxRecDepth 100000 in
set_option maxHeartbeats 4000000 in
theorem runProgram_any (A : Option Addr) (n k : Nat) (ps : List R4) (at_ : Int) (C : Option Addr) (m c : Nat) (xs : List Int) (N : Nat) (w : World) (hp : S4 w A n ps) (hx : SI w C m xs) (hv : validProgB ps = true) (hst : storeB ps ⟨at_, xs⟩ = true) (hN : inB (N : Int) 1 20000 = true) :
    Calls Try.prog 19 #[.slice A n k, .agg #[.int .i64 at_, .slice C m c], .int .i64 (N : Int)] w (RunProgPost w ps ⟨at_, xs⟩ N) := by
  have HPL : Hid (ps.length = n) := Lib.hid hp.len
  have HXL : Hid (xs.length = m) := Lib.hid hx.len
  have hn : n ≤ 400 := by rw [← HPL.out]; exact validProg_len hv
  have hm : m = 24 := by rw [← HXL.out]; exact (storeB_iff.1 hst).2.2.1
  have HM := Lib.hid hm
  have hN2 := (inB_iff _ _ _).1 hN
  have HN := Lib.hid hN
  have hm2 : m ≤ 1048576 := by omega
  obtain ⟨W, hW_⟩ : ∃ W, W = (w.alloc (.cells #[.int .i64 at_, .slice C m c] 33)).alloc (.cells #[.int .i64 0, .slice none 0 0] 33) := ⟨_, rfl⟩
  have s_1 : (w.alloc (.cells #[.int .i64 at_, .slice C m c] 33)).heap.size = w.heap.size + 1 := by simp
  have b0 : Blk W w.heap.size 33 #[.int .i64 at_, .slice C m c] := by rw [hW_]; exact (Blk.new w _ _).alloc _
  have b1 : Blk W (w.heap.size + 1) 33 #[.int .i64 0, .slice none 0 0] := by rw [hW_, ← s_1]; exact Blk.new _ _ _
  have y0 : Below w.heap.size w W := by rw [hW_]; exact ((Below.refl _ _).alloc (Nat.le_refl _) _).alloc (by simp) _
  have HW := Lib.hid hW_
  clear hW_ s_1
  have hsz : w.heap.size + 1 < W.heap.size := b1.lt
  have HVS := Lib.hid (by have h := validStore_any A n k ps at_ C m c xs W (hp.below y0) (hx.below y0) (by omega) hm2; rw [hv, hst] at h; exact h : Calls Try.prog 90 #[.slice A n k, .agg #[.int .i64 at_, .slice C m c]] W fun e w' => e = .returned (.bool true) ∧ Below W.heap.size W w')
  have q0 : W.cell? ⟨w.heap.size, 0, none⟩ = some (.int .i64 at_) := b0.cell 0
  have q1 : W.cell? ⟨w.heap.size, 1, none⟩ = some (.slice C m c) := b0.cell 1
  have HB0 := Lib.hid b0
  have HB1 := Lib.hid b1
  have HY := Lib.hid y0
  have HX := Lib.hid (fun W' (z : Below w.heap.size w W') => hx.below z)
  have HP := Lib.hid (fun W' (z : Below w.heap.size w W') => hp.below z)
  have HVD := Lib.hid hv
  have HST := Lib.hid hst
  clear b0 b1 y0 hx hp hv hst hN hm
  go_enter Try.func19, Try.ntmps19
  go_wp2_with fail
  rw [← HW.out]
  refine HVS.out.mono ?_
  rintro e w1 ⟨rfl, z1⟩
  have HZ1 := Lib.hid (HY.out.trans (z1.mono HY.out.size))
  have b01 := HB0.out.below' z1
  have HB01 := Lib.hid b01
  have HB11 := Lib.hid (HB1.out.below' z1)
  clear q0 q1 z1
  have q0 : w1.cell? ⟨w.heap.size, 0, none⟩ = some (.int .i64 at_) := b01.cell 0
  have q1 : w1.cell? ⟨w.heap.size, 1, none⟩ = some (.slice C m c) := b01.cell 1
  clear b01
  go_wp2_with (go_at_call 91; refine (budgetOk_is HN.out _).mono ?_; rintro e w' ⟨rfl, rfl⟩)
  have HCS := Lib.hid (copyStore_any at_ C m c xs w1 (HX.out _ HZ1.out) hm2)
  refine HCS.out.mono ?_
  rintro e w2 ⟨D, d, rfl, o2, z2⟩
  have HO2 := Lib.hid o2
  have HZ2 := Lib.hid (HZ1.out.trans (z2.mono HZ1.out.size))
  have HB12 := Lib.hid (HB11.out.below' z2)
  have hsz2 : w.heap.size + 1 < w2.heap.size := by have := HB12.out.lt; exact this
  clear q0 q1 o2
  obtain ⟨V, hW_⟩ : ∃ W_, W_ = w2.alloc (.cells #[.int .i64 at_, .slice D xs.length d] 33) := ⟨_, rfl⟩
  have bV : Blk V w2.heap.size 33 #[.int .i64 at_, .slice D xs.length d] := by rw [hW_]; exact Blk.new w2 _ _
  have zV : Below w2.heap.size w2 V := by rw [hW_]; exact (Below.refl _ _).alloc (Nat.le_refl _) _
  have HV := Lib.hid hW_
  clear hW_
  have HSA : Hid (StoAt w1 w2.heap.size ⟨at_, xs⟩ V) := Lib.hid ⟨z2.size, z2.trans (zV.mono z2.size), D, d, bV, HO2.out.below zV⟩
  have HRS := Lib.hid (runStore_any w1 V w2.heap.size ⟨at_, xs⟩ A n k ps N 94 HSA.out (HP.out _ HZ1.out) hn HVD.out HST.out (by omega) Try.call94 (Lib.hid (fun x y W => runVisit_any x y W)))
  have HB1V := Lib.hid (HB12.out.below' zV)
  have HVZ := Lib.hid zV
  clear zV bV z2 HCS
  go_upto_region 6 with fail
  rw [← HV.out]
  clear HV
  go_wp2_with fail
  refine HRS.out.mono ?_
  rintro e w3 (⟨i, b, hE, hb, rfl, hS⟩ | ⟨i, hF, rfl, z3⟩)
  · obtain ⟨_, hz3, D3, d3, hB3, hO3⟩ := hS
    have HE := Lib.hid hE
    have HBE := Lib.hid hb
    have b13 := HB11.out.below' hz3
    have hsz1 := HB11.out.lt
    have hOF := hO3.mono HZ1.out.size
    have HZ3 := Lib.hid (HZ1.out.trans (hz3.mono HZ1.out.size))
    obtain ⟨pa, ys, hpy⟩ : ∃ pa ys, itP ps ⟨at_, xs⟩ i = ⟨pa, ys⟩ := ⟨_, _, rfl⟩
    rw [hpy] at hB3 hO3 hOF
    dsimp only at hB3 hO3 hOF
    have HPY := Lib.hid hpy
    have k0 : w3.cell? ⟨w2.heap.size, 0, none⟩ = some (.int .i64 pa) := hB3.cell 0
    have k1 : w3.cell? ⟨w2.heap.size, 1, none⟩ = some (.slice D3 ys.length d3) := hB3.cell 1
    have p0 : w3.cell? ⟨w.heap.size + 1, 0, none⟩ = some (.int .i64 0) := b13.cell 0
    have p1 : w3.cell? ⟨w.heap.size + 1, 1, none⟩ = some (.slice none 0 0) := b13.cell 1
    have f0 := b13.frozen 0
    have f1 := b13.frozen 1
    have dB := (b13.set_ 0 (.int .i64 pa)).set_ 1 (.slice D3 ys.length d3)
    have far : blk D3 ≠ some (w.heap.size + 1) := fun e => by have := hO3.blk_ge _ e; omega
    have oF := (hOF.far (p := ⟨w.heap.size + 1, 0, none⟩) far (.int .i64 pa)).far (p := ⟨w.heap.size + 1, 1, none⟩) far (.slice D3 ys.length d3)
    have zF := (HZ3.out.setCell (p := ⟨w.heap.size + 1, 0, none⟩) (by simp) (.int .i64 pa)).setCell (p := ⟨w.heap.size + 1, 1, none⟩) (by simp) (.slice D3 ys.length d3)
    clear hpy hE hb hz3 hB3 hO3 hOF b13
    go_wp2_with fail
    generalize (w3.setCell ⟨w.heap.size + 1, 0, none⟩ (.int .i64 pa)).setCell ⟨w.heap.size + 1, 1, none⟩ (.slice D3 ys.length d3) = wf at *
    have g0_ : wf.cell? ⟨w.heap.size + 1, 0, none⟩ = some (.int .i64 pa) := dB.cell 0
    have g1_ : wf.cell? ⟨w.heap.size + 1, 1, none⟩ = some (.slice D3 ys.length d3) := dB.cell 1
    exact bodyPost_ret (v := .tuple #[.agg #[.int .i64 pa, .slice D3 ys.length d3], .int .i64 (i : Int), .bool b, .int .i64 0]) (by simp [results, Try.results19, go_sem, g0_, g1_]) rfl (.inl ⟨i, b, D3, d3, HE.out, HBE.out, by rw [HPY.out], by rw [HPY.out]; exact oF, zF⟩)
  · have HF := Lib.hid hF
    have b13 := HB11.out.below' z3
    have HZ3 := Lib.hid (HZ1.out.trans (z3.mono HZ1.out.size))
    have p0 : w3.cell? ⟨w.heap.size + 1, 0, none⟩ = some (.int .i64 0) := b13.cell 0
    have p1 : w3.cell? ⟨w.heap.size + 1, 1, none⟩ = some (.slice none 0 0) := b13.cell 1
    have f0 := b13.frozen 0
    have f1 := b13.frozen 1
    have dB := (b13.set_ 0 (.int .i64 0)).set_ 1 (.slice none 0 0)
    have zF := (HZ3.out.setCell (p := ⟨w.heap.size + 1, 0, none⟩) (by simp) (.int .i64 0)).setCell (p := ⟨w.heap.size + 1, 1, none⟩) (by simp) (.slice none 0 0)
    clear hF z3 b13
    go_wp2_with fail
    generalize (w3.setCell ⟨w.heap.size + 1, 0, none⟩ (.int .i64 0)).setCell ⟨w.heap.size + 1, 1, none⟩ (.slice none 0 0) = wf at *
    have g0_ : wf.cell? ⟨w.heap.size + 1, 0, none⟩ = some (.int .i64 0) := dB.cell 0
    have g1_ : wf.cell? ⟨w.heap.size + 1, 1, none⟩ = some (.slice none 0 0) := dB.cell 1
    exact bodyPost_ret (v := .tuple #[.agg #[.int .i64 0, .slice none 0 0], .int .i64 0, .bool false, .int .i64 5]) (by simp [results, Try.results19, go_sem, g0_, g1_]) rfl (.inr ⟨i, HF.out, rfl, zF⟩)
end Go.Proofs.Ytdlojbabnelbdaa

/-
  Contract of impl.StartStore, for some contents.
-/
namespace Go.Proofs.Ytdlojbabnelbdaa
open Go.RowKit

def startL (ys : List Int) : List Int := ys ++ List.replicate (24 - ys.length) 0
theorem startL_len {ys : List Int} (h : ys.length ≤ 24) : (startL ys).length = 24 := by simp [startL]; omega
/-- A new store at 0. -/
def NewSto0 (w : World) (zs : List Int) (e : Ending) (w' : World) : Prop :=
  ∃ C, e = .returned (.tuple #[.agg #[.int .i64 0, .slice C 24 24], .int .i64 0]) ∧ Own w' w.heap.size 2 1 C 24 24 (ints zs) ∧ Below w.heap.size w w'
/-- Behind the copy into a new row. -/
theorem Own.copied0 {w : World} {lo g : Nat} {ys : List Int} {cur : Array Value} {e : TypeId} (hl : lo ≤ g) (hg : w.heap[g]? = some (.cells cur e (0, 0))) (hy : ys.length ≤ 24) (hs : 24 ≤ cur.size) (hc : ∀ k, k < 24 → cur[k]? = some (.int .i64 0)) :
    Own (w.setRow g (cur.toList.take 0 ++ (ints ys ++ cur.toList.drop (0 + (ints ys).length))).toArray) lo e 1 (some ⟨g, 0, none⟩) 24 24 (ints (startL ys)) := by
  refine ⟨by rw [length_ints, startL_len hy], .inr ⟨g, 0, _, rfl, hl, setRow_heap w g cur _ e (0, 0) hg, Nat.le_refl _, by simp [maxLen], ?_, fun k hk => ?_⟩⟩
  · simp [length_ints]; omega
  · rw [length_ints, startL_len hy] at hk
    simp only [List.take_zero, List.nil_append, Nat.zero_add, List.getElem?_toArray]
    by_cases h : k < ys.length
    · rw [List.getElem?_append_left (by rw [length_ints]; exact h), ints_get]
      simp [ints, startL, h]
    · rw [List.getElem?_append_right (by rw [length_ints]; omega), length_ints, List.getElem?_drop, ints_get]
      rw [show ys.length + (k - ys.length) = k by omega]
      have h0 := hc k hk
      rw [← Array.getElem?_toList] at h0
      rw [h0]
      have h2 : (startL ys)[k]'(by rw [startL_len hy]; exact hk) = 0 := by
        simp only [startL]
        rw [List.getElem_append_right (by omega)]
        simp
      rw [h2]
set_option maxRecDepth 100000 in
set_option maxHeartbeats 4000000 in
theorem startStore_any (P : Option Addr) (n k : Nat) (ps : List R4) (C : Option Addr) (m c : Nat) (ys : List Int) (w : World) (hp : S4 w P n ps) (hv : validProgB ps = true) (hn : n ≤ 1048576) (hy : SI w C m ys) (hm0 : 1 ≤ m) (hm : m ≤ 24) (hr : allIn ys 0 1000000 = true) :
    Calls Try.prog 17 #[.slice P n k, .slice C m c] w (NewSto0 w (startL ys)) := by
  have HV := Lib.hid hv
  have HR := Lib.hid hr
  have HYL : Hid (ys.length = m) := Lib.hid hy.len
  have i1 : ¬ (24 : Int) < (m : Int) := by omega
  obtain ⟨W1, hW_⟩ : ∃ W_, W_ = w.alloc (.cells #[.int .i64 0, .slice none 0 0] 33) := ⟨_, rfl⟩
  have b1 : Blk W1 w.heap.size 33 #[.int .i64 0, .slice none 0 0] := by rw [hW_]; exact Blk.new w _ _
  have z1 : Below w.heap.size w W1 := by rw [hW_]; exact (Below.refl _ _).alloc (Nat.le_refl _) _
  have HW1 := Lib.hid hW_
  clear hW_
  have HVP := Lib.hid (validProg_any P n k ps W1 (hp.below z1) hn)
  have HY1 := Lib.hid (hy.below z1)
  have HB1 := Lib.hid b1
  have HZ1 := Lib.hid z1
  clear hp hv hy hr z1 b1
  go_enter Try.func17, Try.ntmps17
  go_upto_region 1 with fail
  rw [← HW1.out]
  clear HW1
  go_wp2_with fail
  refine HVP.out.mono ?_
  rintro e w2 ⟨rfl, z2⟩
  rw [HV.out]
  have HY2 := Lib.hid (HY1.out.below z2)
  have HB2 := Lib.hid (HB1.out.below' z2)
  have HZ2 := Lib.hid (HZ1.out.trans (z2.mono HZ1.out.size))
  have h12 : W1.heap.size ≤ w2.heap.size := z2.size
  have h01 : w.heap.size < W1.heap.size := HB1.out.lt
  clear z2 HY1 HB1 HZ1 HVP
  go_upto_region 5 with (go_at_call 86; refine (allWithin_is HR.out _ _ _ _ HY2.out (by omega)).mono ?_; rintro e w' ⟨rfl, rfl⟩)
  go_upto_region 6 with (at_make; refine wpList_make_Own rfl (.const (.int .i64 24)) (.const (.int .i64 24)) rfl elI (n := 24) (lo := w2.heap.size) rfl rfl (by omega) (by unfold maxLen; omega) (Nat.le_refl _) ?_; intro w3 ho3 hb3 hs3)
  rw [made_ints 24 (startL ys) (startL_len (by have := HYL.out; omega))] at ho3
  obtain ⟨cur, hg3, hcs, hc0⟩ : ∃ cur, w3.heap[w2.heap.size]? = some (.cells cur 2 (0, 0)) ∧ 24 ≤ cur.size ∧ ∀ k, k < 24 → cur[k]? = some (.int .i64 0) := by
    rcases ho3.2 with ⟨h0, _⟩ | ⟨b, off, cur, hA, _, hg, h1, h2, h3, hc⟩
    · cases h0
    · simp only [Option.some.injEq, Addr.mk.injEq, and_true] at hA
      obtain ⟨rfl, rfl⟩ := hA
      refine ⟨cur, hg, by omega, fun k hk => ?_⟩
      have h := hc k (by rw [length_ints, length_copied _ _ (by omega), startL_len (by have := HYL.out; omega)]; exact hk)
      rw [Nat.zero_add] at h
      rw [h, ints_get]
      simp [copied]
  obtain ⟨g, hgE⟩ : ∃ g, g = w2.heap.size := ⟨_, rfl⟩
  rw [← hgE] at hg3 hb3 hs3 ⊢
  have hg2 : w2.heap.size ≤ g := by omega
  have hg4 : g < w3.heap.size := by omega
  obtain ⟨W4, hW_⟩ : ∃ W_, W_ = w3.alloc (.cells #[.int .i64 0, .slice (some ⟨g, 0, none⟩) 24 24] 33) := ⟨_, rfl⟩
  have b4 : Blk W4 w3.heap.size 33 #[.int .i64 0, .slice (some ⟨g, 0, none⟩) 24 24] := by rw [hW_]; exact Blk.new w3 _ _
  have z4 : Below w3.heap.size w3 W4 := by rw [hW_]; exact (Below.refl _ _).alloc (Nat.le_refl _) _
  have HW4 := Lib.hid hW_
  clear hW_
  have hgW : W4.heap[g]? = some (.cells cur 2 (0, 0)) := (z4.block g hg4).trans hg3
  have hb3' : Below w2.heap.size w2 w3 := by rw [← hgE]; exact hb3
  have HZ4 := Lib.hid ((HZ2.out.trans (hb3'.mono HZ2.out.size)).trans (z4.mono (by have := HZ2.out.size; omega)))
  have HB4 := Lib.hid ((HB2.out.below' hb3').below' z4)
  have HY4 := Lib.hid ((HY2.out.below hb3').below z4)
  rw [← HW4.out]
  clear HW4 z4 hb3 hb3' ho3 hg3 HB2 HY2 HZ2 hgE
  rw [hs3] at b4 hg4
  clear hs3
  obtain ⟨s, hsE⟩ : ∃ s, s = g + 1 := ⟨_, rfl⟩
  rw [← hsE] at b4 hg4
  rw [← hsE]
  clear hsE
  obtain ⟨cs, hcsE⟩ : ∃ cs, cs = ints ys := ⟨_, rfl⟩
  have hcl : cs.length = m := by rw [hcsE, length_ints]; exact HYL.out
  obtain ⟨cb, co, rfl, hx1, hx2⟩ := HY4.out.at_ (k := 0) (by omega)
  clear hx1 hx2
  have hadd : ∀ j, (⟨cb, co, none⟩ : Addr).add j = ⟨cb, co + j, none⟩ := fun j => by unfold Addr.add; split <;> simp_all
  have hsrc : ∀ j v, cs[j]? = some v → W4.cell? ((⟨cb, co, none⟩ : Addr).add j) = some v := fun j v h => by
    obtain ⟨hj, rfl⟩ := List.getElem?_eq_some_iff.1 h
    obtain ⟨b', o', e, _, hx⟩ := HY4.out.at_ (k := j) (by omega)
    simp only [Option.some.injEq, Addr.mk.injEq, and_true] at e
    obtain ⟨rfl, rfl⟩ := e
    subst hcsE
    rw [ints_get, hadd]
    exact hx
  obtain ⟨V5, hV5⟩ : ∃ V5, V5 = W4.setRow g (cur.toList.take 0 ++ (cs ++ cur.toList.drop (0 + cs.length))).toArray := ⟨_, rfl⟩
  have hS : (Try.prog.info? 2).map (·.size) = some 1 := by kernel_rfl
  have hO5 : Own V5 w.heap.size 2 1 (some ⟨g, 0, none⟩) 24 24 (ints (startL ys)) := by
    rw [hV5, hcsE]; exact Own.copied0 (by omega) hgW (by have := HYL.out; omega) hcs hc0
  have hZ5 : Below w.heap.size w V5 := by rw [hV5]; exact below_setRow HZ4.out (by omega) _
  have hb5 : Blk V5 s 33 #[.int .i64 0, .slice (some ⟨g, 0, none⟩) 24 24] := by rw [hV5]; exact (setRow_other W4 g s _ (by omega)).trans b4
  have hr5 : Blk V5 w.heap.size 33 #[.int .i64 0, .slice none 0 0] := by rw [hV5]; exact (setRow_other W4 g w.heap.size _ (by omega)).trans HB4.out
  have HV5 := Lib.hid hV5
  have HO5 := Lib.hid hO5
  have HZ5 := Lib.hid hZ5
  have HS5 := Lib.hid hb5
  have HR5 := Lib.hid hr5
  have u0 : W4.cell? ⟨s, 0, none⟩ = some (.int .i64 0) := b4.cell 0
  have u1 : W4.cell? ⟨s, 1, none⟩ = some (.slice (some ⟨g, 0, none⟩) 24 24) := b4.cell 1
  have hfit : 0 + cs.length ≤ cur.size := by omega
  have h1 : ∀ v ∈ cs, v.oneCell' = true := by rw [hcsE]; exact ints_one ys
  have hnm : cs.length = Nat.min m 24 := by rw [hcl]; exact (Nat.min_eq_left hm).symm
  clear hV5 hO5 hZ5 hb5 hr5 hcsE hcl hc0 hcs hadd
  go_upto_region 7 with (refine wpList_copy_own rfl (.tmp 23) (.tmp 24) 25 25 rfl 2 Try.underlying25 hS g 0 24 24 ⟨cb, co, none⟩ m c rfl rfl cur 2 hgW cs hnm hsrc hfit h1 ?_; rw [← HV5.out])
  clear u0 u1 hgW hsrc hfit h1 b4 HV5
  have hb5 := HS5.out
  have hr5 := HR5.out
  have u0 : V5.cell? ⟨s, 0, none⟩ = some (.int .i64 0) := hb5.cell 0
  have u1 : V5.cell? ⟨s, 1, none⟩ = some (.slice (some ⟨g, 0, none⟩) 24 24) := hb5.cell 1
  have q0 : V5.cell? ⟨w.heap.size, 0, none⟩ = some (.int .i64 0) := hr5.cell 0
  have q1 : V5.cell? ⟨w.heap.size, 1, none⟩ = some (.slice none 0 0) := hr5.cell 1
  have f0 := hr5.frozen 0
  have f1 := hr5.frozen 1
  have hsr : s ≠ w.heap.size := by omega
  have hgr : g ≠ w.heap.size := by omega
  have hF := Lib.hid ((hr5.set_ 0 (.int .i64 0)).set_ 1 (.slice (some ⟨g, 0, none⟩) 24 24))
  have oF := Lib.hid ((HO5.out.far (p := ⟨w.heap.size, 0, none⟩) (fun e => hgr (by simpa [blk] using e)) (.int .i64 0)).far (p := ⟨w.heap.size, 1, none⟩) (fun e => hgr (by simpa [blk] using e)) (.slice (some ⟨g, 0, none⟩) 24 24))
  have zF := Lib.hid ((HZ5.out.setCell (p := ⟨w.heap.size, 0, none⟩) (Nat.le_refl _) (.int .i64 0)).setCell (p := ⟨w.heap.size, 1, none⟩) (Nat.le_refl _) (.slice (some ⟨g, 0, none⟩) 24 24))
  go_wp2_with fail
  generalize (V5.setCell ⟨w.heap.size, 0, none⟩ (.int .i64 0)).setCell ⟨w.heap.size, 1, none⟩ (.slice (some ⟨g, 0, none⟩) 24 24) = wf at *
  have g0_ : wf.cell? ⟨w.heap.size, 0, none⟩ = some (.int .i64 0) := hF.out.cell 0
  have g1_ : wf.cell? ⟨w.heap.size, 1, none⟩ = some (.slice (some ⟨g, 0, none⟩) 24 24) := hF.out.cell 1
  exact bodyPost_ret (v := .tuple #[.agg #[.int .i64 0, .slice (some ⟨g, 0, none⟩) 24 24], .int .i64 0]) (by simp [results, Try.results17, go_sem, g0_, g1_]) rfl ⟨_, rfl, oF.out, zF.out⟩
end Go.Proofs.Ytdlojbabnelbdaa

/-
  Runs of register programs over small contents never meet the greatest count.
-/
namespace Go.Proofs.Ytdlojbabnelbdaa
open Go.RowKit

theorem getI_le {xs : List Int} {M q : Int} (hM : 0 ≤ M) (h : ∀ x ∈ xs, x ≤ M) : getI xs q ≤ M := by
  unfold getI
  rw [List.getD_eq_getElem?_getD]
  cases hx : xs[q.toNat]? with
  | none => exact hM
  | some v => exact h v (List.mem_of_getElem? hx)
theorem step_few (p : List R4) (s : Sto) {M : Int} (hM : 0 ≤ M) (h : ∀ x ∈ s.xs, x ≤ M) : ∀ x ∈ (stepP p s).xs, x ≤ M + 1 := by
  have hg := getI_le (q := (instrOf p s.p).b) hM h
  have hset : ∀ v, v ≤ M + 1 → ∀ x ∈ s.xs.set (instrOf p s.p).b.toNat v, x ≤ M + 1 := fun v hv x hx => by
    rcases List.mem_or_eq_of_mem_set hx with h1 | h1
    · have := h x h1; omega
    · omega
  unfold stepP
  dsimp only
  split
  · exact hset _ (by omega)
  · split
    · exact hset _ (by omega)
    · intro x hx; have := h x hx; omega
theorem it_few (p : List R4) (s : Sto) {M : Int} (hM : 0 ≤ M) (h : ∀ x ∈ s.xs, x ≤ M) : ∀ i : Nat, ∀ x ∈ (itP p s i).xs, x ≤ M + i := by
  intro i
  induction i with
  | zero => intro x hx; have := h x hx; simpa using this
  | succ i ih =>
    intro x hx
    have h2 := step_few p (itP p s i) (M := M + i) (by omega) ih x hx
    omega
theorem FullP.few {p : List R4} {s : Sto} {N i : Nat} (h : FullP p s N i) (hs : ∀ x ∈ s.xs, x ≤ 4) (hN : N ≤ 20000) : False := by
  refine h.2.2.2 ?_
  have hi := h.1
  have h2 := it_few p s (M := 4) (by omega) hs (i + 1)
  have h3 := getI_le (q := (instrOf p (itP p s i).p).b) (M := 4 + ((i + 1 : Nat) : Int)) (by omega) h2
  unfold roomP
  exact Int.le_trans h3 (by omega)
/-- A run that is neither refused nor broken off. -/
def RunFew (w : World) (ps : List R4) (s : Sto) (N : Nat) (e : Ending) (w' : World) : Prop :=
  ∃ (i : Nat) (b : Bool) (C : Option Addr) (c : Nat) (at_ : Int) (zs : List Int), Hid (EndedP ps s N i) ∧ Hid (b = true ↔ endP ps (itP ps s i)) ∧ Hid (zs = (itP ps s i).xs) ∧ Hid (zs.length = 24) ∧ i ≤ N ∧ e = .returned (.tuple #[.agg #[.int .i64 at_, .slice C 24 c], .int .i64 (i : Int), .bool b, .int .i64 0]) ∧
    Own w' w.heap.size 2 1 C 24 c (ints zs) ∧ Below w.heap.size w w'
theorem startL_few {ys : List Int} (h : ∀ y ∈ ys, 0 ≤ y ∧ y ≤ 4) : ∀ x ∈ startL ys, 0 ≤ x ∧ x ≤ 4 := by
  intro x hx
  unfold startL at hx
  rcases List.mem_append.1 hx with h1 | h1
  · exact h x h1
  · have := List.eq_of_mem_replicate h1; omega
theorem startL_sto {ys : List Int} (h : ∀ y ∈ ys, 0 ≤ y ∧ y ≤ 4) (hl : ys.length ≤ 24) (ps : List R4) : storeB ps ⟨0, startL ys⟩ = true := by
  rw [storeB_iff]
  exact ⟨by dsimp only; omega, by dsimp only; omega, startL_len hl, fun x hx => by have := startL_few h x hx; omega⟩
theorem runProgram_few (A : Option Addr) (n k : Nat) (ps : List R4) (C : Option Addr) (c : Nat) (ys : List Int) (N : Nat) (w : World) (hp : S4 w A n ps) (hx : SI w C 24 (startL ys)) (hv : validProgB ps = true) (hy : ∀ y ∈ ys, 0 ≤ y ∧ y ≤ 4) (hl : ys.length ≤ 24) (hN : inB (N : Int) 1 20000 = true) :
    Calls Try.prog 19 #[.slice A n k, .agg #[.int .i64 0, .slice C 24 c], .int .i64 (N : Int)] w (RunFew w ps ⟨0, startL ys⟩ N) := by
  have hst := startL_sto hy hl ps
  refine (runProgram_any A n k ps 0 C 24 c (startL ys) N w hp hx hv hst hN).mono ?_
  rintro e w' (⟨i, b, D, d, h1, h2, rfl, h4, h5⟩ | ⟨i, h1, _⟩)
  · have hl2 : (itP ps ⟨0, startL ys⟩ i).xs.length = 24 := (storeB_iff.1 (h1.2.1.valid hv hst)).2.2.1
    rw [hl2] at h4 ⊢
    exact ⟨i, b, D, d, _, _, Lib.hid h1, Lib.hid h2, Lib.hid rfl, Lib.hid hl2, h1.1, rfl, h4, h5⟩
  · exact absurd h1 (fun h => h.few (fun x hx => (startL_few hy x hx).2) (by have := (inB_iff _ _ _).1 hN; omega))
end Go.Proofs.Ytdlojbabnelbdaa

/-
  Contracts of spec.l05First and R8Order: all numbers below n, in some order.
-/
namespace Go.Proofs.Ytdlojbabnelbdaa
open Go.RowKit

def iotaI (n : Nat) : List Int := (List.range n).map fun j : Nat => (j : Int)
theorem iotaI_len (n : Nat) : (iotaI n).length = n := by simp [iotaI]
theorem iotaI_next (n : Nat) : iotaI (n + 1) = iotaI n ++ [(n : Int)] := by simp [iotaI, List.range_succ]
/-- All numbers below n, each once. -/
def OrdOk (n : Nat) (xs : List Int) : Prop := xs.length = n ∧ (∀ i, i < n → 0 ≤ xs.getD i 0 ∧ xs.getD i 0 < (n : Int)) ∧ ∀ i j, i < n → j < n → xs.getD i 0 = xs.getD j 0 → i = j
theorem iotaI_at {n i : Nat} (h : i < n) : (iotaI n).getD i 0 = (i : Int) := by
  unfold iotaI
  rw [List.getD_eq_getElem?_getD, List.getElem?_map, List.getElem?_range h]; rfl
theorem iotaI_ok (n : Nat) : OrdOk n (iotaI n) := by
  refine ⟨iotaI_len n, fun i h => ?_, fun i j hi hj h => ?_⟩
  · rw [iotaI_at h]; omega
  · rw [iotaI_at hi, iotaI_at hj] at h; omega
theorem getD_set (xs : List Int) (k i : Nat) (v : Int) (hk : k < xs.length) : (xs.set k v).getD i 0 = if i = k then v else xs.getD i 0 := by
  by_cases h : i = k
  · subst h
    rw [if_pos rfl, List.getD_eq_getElem?_getD, List.getElem?_set_self hk]; rfl
  · rw [if_neg h, List.getD_eq_getElem?_getD, List.getElem?_set_ne (fun e => h e.symm), List.getD_eq_getElem?_getD]
theorem OrdOk.swap {n : Nat} {xs : List Int} (h : OrdOk n xs) {a k : Nat} (ha : a < n) (hk : k < n) : OrdOk n ((xs.set a (xs.getD k 0)).set k (xs.getD a 0)) := by
  obtain ⟨h1, h2, h3⟩ := h
  have key : ∀ i, ((xs.set a (xs.getD k 0)).set k (xs.getD a 0)).getD i 0 = if i = k then xs.getD a 0 else if i = a then xs.getD k 0 else xs.getD i 0 := fun i => by
    rw [getD_set _ _ _ _ (by rw [List.length_set]; omega), getD_set _ _ _ _ (by omega)]
  refine ⟨by simpa using h1, fun i hi => ?_, fun i j hi hj he => ?_⟩
  · rw [key]
    split
    · exact h2 a ha
    · split
      · exact h2 k hk
      · exact h2 i hi
  · rw [key, key] at he
    by_cases i1 : i = k
    · rw [if_pos i1] at he
      by_cases j1 : j = k
      · omega
      · rw [if_neg j1] at he
        by_cases j2 : j = a
        · rw [if_pos j2] at he
          have := h3 a k ha hk he
          omega
        · rw [if_neg j2] at he
          have := h3 a j ha hj he
          omega
    · rw [if_neg i1] at he
      by_cases i2 : i = a
      · rw [if_pos i2] at he
        by_cases j1 : j = k
        · rw [if_pos j1] at he
          have := h3 k a hk ha he
          omega
        · rw [if_neg j1] at he
          by_cases j2 : j = a
          · omega
          · rw [if_neg j2] at he
            have := h3 k j hk hj he
            omega
      · rw [if_neg i2] at he
        by_cases j1 : j = k
        · rw [if_pos j1] at he
          have := h3 i a hi ha he
          omega
        · rw [if_neg j1] at he
          by_cases j2 : j = a
          · rw [if_pos j2] at he
            have := h3 i k hi hk he
            omega
          · rw [if_neg j2] at he
            exact h3 i j hi hj he
set_option maxHeartbeats 1000000 in
theorem l05First_any (n : Nat) (w : World) (hn : n ≤ 1000) : Calls Try.prog 95 #[.int .i64 (n : Int)] w (NewI w (iotaI n)) := by
  obtain ⟨V, hW_⟩ : ∃ W_, W_ = w.alloc (.cells #[] 2) := ⟨_, rfl⟩
  have b0 : Blk V w.heap.size 2 #[] := by rw [hW_]; exact Blk.new w _ _
  have y0 : Below w.heap.size w V := by rw [hW_]; exact (Below.refl _ _).alloc (Nat.le_refl _) _
  have HV := Lib.hid hW_
  clear hW_
  have hO : Own V w.heap.size 2 1 (some ⟨w.heap.size, 0, none⟩) 0 0 (ints (iotaI 0)) := by rw [HV.out]; exact Own.lit0 w _ 1
  have HO := Lib.hid hO
  have HY := Lib.hid y0
  clear hO y0 b0
  go_enter Try.func95, Try.ntmps95
  go_wp2_with fail
  rw [← HV.out]
  clear HV
  go_loopw [3, 4] (fun l i wr => ∃ (j : Nat) (D : Option Addr) (d : Nat), j ≤ n ∧ i = .int .i64 (j : Int) ∧ l = .slice D j d ∧ Hid (Own wr w.heap.size 2 1 D j d (ints (iotaI j))) ∧ Hid (Below w.heap.size w wr)) (fun _ i _ => n - (intOf i).toNat)
  case atStart => exact ⟨0, _, 0, by omega, rfl, rfl, HO, HY⟩
  case round =>
    obtain ⟨j, D, d, hj, rfl, rfl, HOj, HZ⟩ := hrel
    clear HO
    by_cases hlt : j < n
    · have i1 : (j : Int) < (n : Int) := by omega
      go_wp2_with (at_builtin; refine wpList_append_Own rfl (.tmp 11) (.tmp 13) rfl elI (lo := w.heap.size) rfl (HOj.out.alloc _) rfl (Rd.new1 _ (.int .i64 (j : Int)) _) (by simp [Value.oneCell']) (by omega) (by simp only [maxLen]; omega) (by have := HZ.out.size; simp; omega) ?_; intro A2 c2 w2 o2 g2 _)
      have HO2 : Hid (Own w2 w.heap.size 2 1 A2 (j + 1) c2 (ints (iotaI (j + 1)))) := Lib.hid (by rw [iotaI_next, ← ints_append]; exact o2)
      have HZ2 : Hid (Below w.heap.size w w2) := Lib.hid ((HOj.out.alloc _).below_of (HZ.out.alloc HZ.out.size _) g2 (by have := HZ.out.size; simp; omega))
      clear o2 g2
      go_roundw
      case rel => exact ⟨j + 1, A2, c2, by omega, by go_num, rfl, HO2, HZ2⟩
      case measure => simp [intOf]; omega
    · have i1 : ¬ (j : Int) < (n : Int) := by omega
      obtain rfl : j = n := by omega
      have HN : Hid (NewI w (iotaI j) (.returned (.slice D j d)) wr) := Lib.hid ⟨D, d, by rw [iotaI_len], by rw [iotaI_len]; exact HOj.out, HZ.out⟩
      go_wp2_with fail
      go_ret
      exact HN.out
def NewOrd (w : World) (n : Nat) (e : Ending) (w' : World) : Prop := ∃ D d xs, OrdOk n xs ∧ e = .returned (.slice D n d) ∧ Own w' w.heap.size 2 1 D n d (ints xs) ∧ Below w.heap.size w w'
set_option maxRecDepth 100000 in
set_option maxHeartbeats 2000000 in
theorem r8Order_any (A : Option Addr) (l c : Nat) (ys : List Int) (n : Nat) (w : World) (hx : SB w A l ys) (hA : ∀ k, blk A = some k → k < w.heap.size) (hl : l ≤ 9223372036854775807) (hn : n ≤ 100) :
    Calls Try.prog 21 #[.slice A l c, .int .i64 (n : Int)] w (NewOrd w n) := by
  have HX := Lib.hid hx
  have HA : Hid (∀ k, blk A = some k → k ≠ w.heap.size) := Lib.hid (fun k hk => by have := hA k hk; omega)
  clear hx hA
  go_enter Try.func21, Try.ntmps21
  go_wp2_with fail
  refine (from_any A l c w).mono ?_
  rintro e1 w1 ⟨rfl, hs1, z1⟩
  have hlt1 : w.heap.size < w1.heap.size := by
    obtain ⟨_, _, _, _, _, h⟩ := hs1
    exact h.lt
  have HX1 := Lib.hid (HX.out.below z1)
  have HZ1 := Lib.hid z1
  have HS1 := Lib.hid hs1
  clear hs1 z1
  go_wp2_with fail
  refine (l05First_any n w1 (by omega)).mono ?_
  rintro e2 w2 ⟨D, d, rfl, o2, z2⟩
  rw [iotaI_len] at o2
  have HD : Hid (∀ b, blk D = some b → w1.heap.size ≤ b) := Lib.hid (fun b hb => o2.blk_ge b hb)
  have HO2 := Lib.hid o2
  have HZ2 := Lib.hid (HZ1.out.trans (z2.mono HZ1.out.size))
  have HS2 := Lib.hid (HS1.out.below z2)
  have HX2 := Lib.hid (HX1.out.below z2)
  have HK0 : Hid (Kb w.heap.size w2 w2) := Lib.hid (Kb.refl _ _)
  rw [iotaI_len]
  clear o2 z2 HS1 HX1
  go_wp2_with fail
  clear HK0 HX2 HD
  go_loopw [7] (fun i wr => ∃ (k : Nat) (xs : List Int), 1 ≤ k ∧ (k ≤ n ∨ k = 1) ∧ i = .int .i64 (k : Int) ∧ Hid (OrdOk n xs) ∧ Hid (Own wr w1.heap.size 2 1 D n d (ints xs)) ∧ Hid (Src w.heap.size A l c (2 * k) wr) ∧ Hid (Below w.heap.size w wr)) (fun i _ => n - (intOf i).toNat)
  case atStart => exact ⟨1, iotaI n, by omega, .inr rfl, rfl, Lib.hid (iotaI_ok n), HO2, Lib.hid (HS2.out.le (by omega)), HZ2⟩
  case round =>
    obtain ⟨k, xs, hk1, hk, rfl, HOK, HO, HS, HZ⟩ := hrel
    clear HO2 HS2 HZ2
    by_cases hlt : k < n
    rotate_left
    · have i1 : ¬ (k : Int) < (n : Int) := by omega
      have HN : Hid (NewOrd w n (.returned (.slice D n d)) wr) := Lib.hid ⟨D, d, xs, HOK.out, rfl, HO.out.mono (by omega), HZ.out⟩
      go_wp2_with fail
      go_ret
      exact HN.out
    have i1 : (k : Int) < (n : Int) := by omega
    have HPK := Lib.hid (pick_any w.heap.size A l c (2 * k) ys ((k : Int) + 1) wr (HX.out.below HZ.out) HA.out HS.out (by omega) hl (by omega) (by omega))
    go_wp2_with fail
    refine HPK.out.mono ?_
    rintro e3 w3 ⟨x, rfl, hx0, hx1, hs3, hk3⟩
    obtain ⟨a, rfl⟩ : ∃ a : Nat, x = (a : Int) := ⟨x.toNat, by omega⟩
    have hak : a ≤ k := by omega
    have hO3 := hk3.own' HO.out hlt1
    have hZ3 := hk3.below HZ.out (Nat.le_refl _)
    have hxl : xs.length = n := HOK.out.1
    obtain ⟨b, off, rfl, hb0, hb1, x0, y0⟩ := hO3.at_ (k := a) (by rw [length_ints]; omega)
    obtain ⟨b', off', e1, _, _, x1, y1⟩ := hO3.at_ (k := k) (by rw [length_ints]; omega)
    simp only [Option.some.injEq, Addr.mk.injEq, and_true] at e1
    obtain ⟨rfl, rfl⟩ := e1
    have HU : Hid (xs.getD a 0 = xs[a]'(by omega)) := Lib.hid (by rw [List.getD_eq_getElem?_getD, List.getElem?_eq_getElem]; rfl)
    have HV : Hid (xs.getD k 0 = xs[k]'(by omega)) := Lib.hid (by rw [List.getD_eq_getElem?_getD, List.getElem?_eq_getElem]; rfl)
    rw [ints_get, ← HU.out] at x0
    rw [ints_get, ← HV.out] at x1
    obtain ⟨u, hu⟩ : ∃ u, u = xs.getD a 0 := ⟨_, rfl⟩
    obtain ⟨v, hv⟩ : ∃ v, v = xs.getD k 0 := ⟨_, rfl⟩
    rw [← hu] at x0
    rw [← hv] at x1
    have o4 := (hO3.set_ (k := a) (by rw [length_ints]; omega) (.int .i64 v)).set_ (k := k) (by rw [List.length_set, length_ints]; omega) (.int .i64 u)
    rw [ints_set, ints_set] at o4
    have HOK4 : Hid (OrdOk n ((xs.set a v).set k u)) := Lib.hid (by rw [hu, hv]; exact HOK.out.swap (by omega) hlt)
    have HO4 := Lib.hid o4
    have HZ4 := Lib.hid ((hZ3.setCell (p := ⟨b, off + a, none⟩) (by show w.heap.size ≤ b; omega) (.int .i64 v)).setCell (p := ⟨b, off + k, none⟩) (by show w.heap.size ≤ b; omega) (.int .i64 u))
    have HS4 := Lib.hid ((hs3.set_at (k := b) (by omega) (off + a) (.int .i64 v)).set_at (k := b) (by omega) (off + k) (.int .i64 u))
    have y1' : (w3.setCell ⟨b, off + a, none⟩ (.int .i64 v)).frozen? ⟨b, off + k, none⟩ = false := by simpa using y1
    obtain ⟨v', hy'⟩ := cell?_setCell_some (p := ⟨b, off + a, none⟩) (x := .int .i64 v) x1
    have i2 : (0 : Int) ≤ (a : Int) := by omega
    have i3 : (a : Int) < (n : Int) := by omega
    have i4 : (0 : Int) ≤ (k : Int) := by omega
    clear HU HV hu hv o4 hO3 hZ3 hs3 hk3 HPK HOK HO HS HZ hxl
    go_wp2_with fail
    go_roundw
    case rel => exact ⟨k + 1, _, by omega, by omega, by go_num, HOK4, HO4, Lib.hid (HS4.out.le (by omega)), HZ4⟩
    case measure => simp [intOf]; omega
end Go.Proofs.Ytdlojbabnelbdaa
