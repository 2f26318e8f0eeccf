/-
  The program's runLoop and RunLoop.
-/
import Derived.Test.YtacajmgokdgbgaaDoorPbLpU1
import Derived.Test.YtacajmgokdgbgaaDoorPbLpU3
import Derived.Test.YtacajmgokdgbgaaDoorPbLpU4
import Derived.Defers
import Derived.Laws.CopyOwn
import Derived.Deep.RegionHeld3
import Derived.Deep.DeepCutAuto
namespace Go.Proofs.YtacajmgokdgbgaaDoor
open Go.RowKit

theorem ErrsW.lt {w : World} {a0 a1 : Addr} (h : ErrsW w a0 a1) : 0 < w.heap.size ∧ a0.block < w.heap.size ∧ a1.block < w.heap.size := by
  obtain ⟨c0, t0, h0⟩ := h.b0
  obtain ⟨c1, t1, h1⟩ := h.b1
  refine ⟨?_, (Array.getElem?_eq_some_iff.1 h0).1, (Array.getElem?_eq_some_iff.1 h1).1⟩
  have e := h.v0
  rcases Nat.lt_or_ge 0 w.heap.size with hb | hb
  · exact hb
  · rw [World.cell?, Array.getElem?_eq_none hb] at e; simp at e
theorem padL_len {ys : List Int} (h : ys.length ≤ 16) : (padL ys).length = 16 := by simp [padL]; omega
/-- Behind the copy into a new row. -/
theorem Own.copied16 {w : World} {lo g : Nat} {ys : List Int} {cur : Array Value} {e : TypeId} (hl : lo ≤ g) (hg : w.heap[g]? = some (.cells cur e (0, 0))) (hy : ys.length ≤ 16) (hs : 16 ≤ cur.size) (hc : ∀ k, k < 16 → cur[k]? = some (.int .i64 0)) :
    Own (w.setRow g (cur.toList.take 0 ++ (ints ys ++ cur.toList.drop (0 + (ints ys).length))).toArray) lo e 1 (some ⟨g, 0, none⟩) 16 16 (ints (padL ys)) := by
  refine ⟨by rw [length_ints, padL_len hy], .inr ⟨g, 0, _, rfl, hl, setRow_heap w g cur _ e (0, 0) hg, Nat.le_refl _, by simp [maxLen], ?_, fun k hk => ?_⟩⟩
  · simp [length_ints]; omega
  · rw [length_ints, padL_len hy] at hk
    simp only [List.take_zero, List.nil_append, Nat.zero_add, List.getElem?_toArray]
    by_cases h : k < ys.length
    · rw [List.getElem?_append_left (by rw [length_ints]; exact h), ints_get]
      simp [ints, padL, h]
    · rw [List.getElem?_append_right (by rw [length_ints]; omega), length_ints, List.getElem?_drop, ints_get]
      rw [show ys.length + (k - ys.length) = k by omega]
      have h0 := hc k hk
      rw [← Array.getElem?_toList] at h0
      rw [h0]
      have h2 : (padL ys)[k]'(by rw [padL_len hy]; exact hk) = 0 := by
        simp only [padL]
        rw [List.getElem_append_right (by omega)]
        simp
      rw [h2]
set_option maxRecDepth 100000 in
set_option maxHeartbeats 4000000 in
theorem runLoopI_any (B : Option Addr) (n cB : Nat) (rs : List R3) (C : Option Addr) (m d : Nat) (xs : List Int) (bud : Nat) (a0 a1 : Addr) (w : World) (he : ErrsW w a0 a1) (hx : S3 w B n rs) (hn : n ≤ 1048576) (hnc : n ≤ cB) (hy : SI w C m xs) (hm : m ≤ 16) (hv : ∀ v ∈ xs, 0 ≤ v ∧ v ≤ 1000000) (hr : validLp rs 0 = true) (hb : bud ≤ 1000000) :
    Calls Tryd.prog 38 #[.slice B n cB, .slice C m d, .int .i64 (bud : Int)] w (NewI3 w (match runLp rs ⟨padL xs, bud⟩ with
      | .ok s => (s.vs, (bud : Int) - s.left, 0)
      | .error k => ([], 0, k))) := by
  suffices HH : ∀ R : List Int × Int × Int, R = (match runLp rs ⟨padL xs, bud⟩ with
      | .ok s => (s.vs, (bud : Int) - s.left, 0)
      | .error k => ([], 0, k)) → Calls Tryd.prog 38 #[.slice B n cB, .slice C m d, .int .i64 (bud : Int)] w (NewI3 w R) from HH _ rfl
  intro R hRR
  have HRR := Lib.hid hRR
  clear hRR
  have hmf : ∀ (fn : Fn) (first cap : Array Value) (w : World), (Instr.makeFunc fn first cap).run Tryd.prog w = .ok (.func fn first cap) w := fun _ _ _ _ => rfl
  obtain ⟨W1, hW_⟩ : ∃ W, W = ((w.alloc (.cells #[.slice none 0 0] 23)).alloc (.cells #[.int .i64 0] 2)).alloc (.cells #[.int .i64 0] 2) := ⟨_, rfl⟩
  have s_1 : (w.alloc (.cells #[.slice none 0 0] 23)).heap.size = w.heap.size + 1 := by simp
  have s_2 : ((w.alloc (.cells #[.slice none 0 0] 23)).alloc (.cells #[.int .i64 0] 2)).heap.size = w.heap.size + 1 + 1 := by simp
  have b0 : Blk W1 w.heap.size 23 #[.slice none 0 0] := by rw [hW_]; exact ((Blk.new w _ _).alloc _).alloc _
  have b1 : Blk W1 (w.heap.size + 1) 2 #[.int .i64 0] := by rw [hW_, ← s_1]; exact (Blk.new _ _ _).alloc _
  have b2 : Blk W1 (w.heap.size + 1 + 1) 2 #[.int .i64 0] := by rw [hW_, ← s_2]; exact Blk.new _ _ _
  have y1 : Below w.heap.size w W1 := by rw [hW_]; exact (((Below.refl _ _).alloc (Nat.le_refl _) _).alloc (by simp) _).alloc (by simp; omega) _
  have HW1 := Lib.hid hW_
  clear hW_ s_1 s_2
  go_enter_defers Tryd.func38, Tryd.ntmps38
  go_upto_region 1 with fail
  rw [← HW1.out]
  go_upto_region 2 with (at_make; refine wpList_make_Own rfl (.const (.int .i64 16)) (.const (.int .i64 16)) rfl elI (n := 16) (lo := W1.heap.size) rfl rfl (by omega) (by unfold maxLen; omega) (Nat.le_refl _) ?_; intro w3 ho3 hb3 hs3)
  rw [made_ints 16 (padL xs) (padL_len (by have := hy.len; omega))] at ho3
  obtain ⟨cur, hg3, hcs, hc0⟩ : ∃ cur, w3.heap[W1.heap.size]? = some (.cells cur 2 (0, 0)) ∧ 16 ≤ cur.size ∧ ∀ k, k < 16 → cur[k]? = some (.int .i64 0) := by
    rcases ho3.2 with ⟨h0, _⟩ | ⟨b, off, cur, hA, _, hg, h1, h2, h3, hc⟩
    · cases h0
    · simp only [Option.some.injEq, Addr.mk.injEq, and_true] at hA
      obtain ⟨rfl, rfl⟩ := hA
      refine ⟨cur, hg, by omega, fun k hk => ?_⟩
      have h := hc k (by rw [length_ints, length_copied _ _ (by omega), padL_len (by have := hy.len; omega)]; exact hk)
      rw [Nat.zero_add] at h
      rw [h, ints_get]
      simp [copied]
  have hs1 : w.heap.size + 1 + 1 < W1.heap.size := b2.lt
  have b03 := b0.below' hb3
  have b13 := b1.below' hb3
  have b23 := b2.below' hb3
  have hz3 : Below w.heap.size w w3 := y1.trans (hb3.mono y1.size)
  have hW1 : W1.heap.size = w.heap.size + 1 + 1 + 1 := by rw [HW1.out]; simp
  obtain ⟨W4, hW_⟩ : ∃ W_, W_ = w3.alloc (.cells #[.slice (some ⟨W1.heap.size, 0, none⟩) 16 16, .int .i64 bud] 102) := ⟨_, rfl⟩
  have b4 : Blk W4 w3.heap.size 102 #[.slice (some ⟨W1.heap.size, 0, none⟩) 16 16, .int .i64 bud] := by rw [hW_]; exact Blk.new w3 _ _
  have z4 : Below w3.heap.size w3 W4 := by rw [hW_]; exact (Below.refl _ _).alloc (Nat.le_refl _) _
  have HW4 := Lib.hid hW_
  clear hW_
  rw [← HW4.out]
  have hgW : W4.heap[W1.heap.size]? = some (.cells cur 2 (0, 0)) := (z4.block _ (by omega)).trans hg3
  rw [hs3] at b4
  have hz4 : Below W1.heap.size W1 W4 := hb3.trans (z4.mono hb3.size)
  have hy4 : SI W4 C m xs := Rd.below hy ((y1.trans (hb3.mono y1.size)).trans (z4.mono (by omega)))
  have b04 := b03.below' z4
  have b14 := b13.below' z4
  have b24 := b23.below' z4
  have HRNG : Hid (∀ v ∈ padL xs, 0 ≤ v ∧ v ≤ 1000000) := Lib.hid (fun v h => by
    unfold padL at h
    rcases List.mem_append.1 h with h | h
    · exact hv v h
    · rw [List.eq_of_mem_replicate h]; exact ⟨by decide, by decide⟩)
  have hXL := hy.len
  have ho4 := ho3.below z4
  have HX := Lib.hid hx
  have HE := Lib.hid he
  have HE0 := Lib.hid he.lt
  have HYW := Lib.hid y1
  clear ho3 hg3 hb3 hs3 z4 HW4 hz3 b03 b13 b23 hx he hy
  generalize hgv : W1.heap.size = gv at *
  have HGV := Lib.hid hgv
  clear hgv
  have u0 : W4.cell? ⟨(gv + 1), 0, none⟩ = some (.slice (some ⟨gv, 0, none⟩) 16 16) := b4.cell 0
  have u1 : W4.cell? ⟨(gv + 1), 1, none⟩ = some (.int .i64 bud) := b4.cell 1
  have HCUT : Hid (∀ V5, (V5 = W4 ∧ m = 0 ∨ V5 = W4.setRow gv (cur.toList.take 0 ++ (ints xs ++ cur.toList.drop (0 + (ints xs).length))).toArray) → LpI W1 (gv + 1) (some ⟨gv, 0, none⟩) 16 ⟨padL xs, bud⟩ V5 ∧ Blk V5 w.heap.size 23 #[.slice none 0 0] ∧ Blk V5 (w.heap.size + 1) 2 #[.int .i64 0] ∧ Blk V5 (w.heap.size + 1 + 1) 2 #[.int .i64 0]) := Lib.hid (fun V5 h => by
    rcases h with ⟨rfl, hm0⟩ | rfl
    · obtain rfl : xs = [] := List.length_eq_zero_iff.1 (by omega)
      have hc : copied (padL []) 0 = padL [] := by simp [copied, padL]
      rw [hc] at ho4
      exact ⟨⟨b4, by rw [HGV.out]; exact ho4, by rw [HGV.out]; exact hz4, by rw [HGV.out]; exact Nat.le_succ _, HRNG.out, hb⟩, b04, b14, b24⟩
    · exact ⟨⟨(setRow_other W4 gv (gv + 1) _ (by omega)).trans b4, by rw [HGV.out]; exact Own.copied16 (Nat.le_refl _) hgW (by omega) hcs hc0, by rw [HGV.out]; exact below_setRow hz4 (Nat.le_refl _) _, by rw [HGV.out]; exact Nat.le_succ _, HRNG.out, hb⟩, (setRow_other W4 gv _ _ (by omega)).trans b04, (setRow_other W4 gv _ _ (by omega)).trans b14, (setRow_other W4 gv _ _ (by omega)).trans b24⟩)
  have hS : (Tryd.prog.info? 2).map (·.size) = some 1 := by kernel_rfl
  obtain ⟨cs, hcsE⟩ : ∃ cs, cs = ints xs := ⟨_, rfl⟩
  have hcl : cs.length = m := by rw [hcsE, length_ints]; exact hXL
  rw [← hcsE] at HCUT
  rcases Nat.eq_zero_or_pos m with hm0 | hm0
  · have hnm : Nat.min m 16 = 0 := by rw [hm0]; rfl
    have HV5 := Lib.hid (HCUT.out W4 (.inl ⟨rfl, hm0⟩))
    have HW1G := Lib.hid hW1
    clear hcsE hcl b4 b04 b14 b24 hgW hz4 ho4 hcs hc0 hm0 HCUT hW1
    go_upto_region 3 with (refine wpList_copy_nothing rfl (.tmp 17) (.tmp 18) 23 23 rfl 2 Tryd.underlying23 hS _ _ 16 16 m d rfl rfl hnm ?_)
    obtain ⟨hI, c0, c1, c2⟩ := HV5.out
    have HD := Lib.hid (doI_any W1 a0 a1 (gv + 1) (some ⟨gv, 0, none⟩) 16 (HE.out.below HYW.out) n B cB rs 0 ⟨padL xs, bud⟩ W4 (HX.out.below HYW.out) hn hnc hr hI)
    clear HV5 u0 u1
    simp only [Act.put, List.setIfInBounds_toArray, List.set_cons_zero, List.set_cons_succ]
    go_wp2_with fail
    refine HD.out.mono ?_
    intro e W6 hR
    cases hrl : runLp rs ⟨padL xs, bud⟩ with
    | error k =>
      rw [hrl] at hR
      obtain ⟨rfl, hk, k6⟩ := hR
      have c06 := k6.keep c0 (by omega) (fun e => by simp [blk] at e; omega)
      have c16 := k6.keep c1 (by omega) (fun e => by simp [blk] at e; omega)
      have c26 := k6.keep c2 (by omega) (fun e => by simp [blk] at e; omega)
      have hz6 : Below w.heap.size w W6 := k6.bel _ _ (by have := c0.lt; omega) (by omega) (fun b e => by simp [blk] at e; omega) (HYW.out.trans (hI.low.mono HYW.out.size))
      refine leaves_cons (f := 66) (args := #[.pointer (some ⟨w.heap.size, 0, none⟩), .pointer (some ⟨w.heap.size + 1, 0, none⟩), .pointer (some ⟨w.heap.size + 1 + 1, 0, none⟩)]) (by simp) (by simp [go_sem]) ?_
      refine (rec_panicking w.heap.size (w.heap.size + 1) (w.heap.size + 1 + 1) k a0 a1 _ _ _ W6 (HE.out.below hz6) hk c06 c16 c26 (by omega) (by have := HE0.out.1; omega) (by have := HE0.out; omega)).mono ?_
      rintro e u' w'' ⟨rfl, rfl, d0, d1, d2, HZ⟩
      have hfin : NewI3 w ([], 0, k) (.returned (.tuple #[.slice none 0 0, .int .i64 0, .int .i64 k])) w'' := ⟨none, 0, rfl, Own.nil, HZ.out _ _ hz6 (Nat.le_refl _) (by omega) (by omega)⟩
      have p0 : w''.cell? ⟨w.heap.size, 0, none⟩ = some (.slice none 0 0) := d0.cell 0
      have p1 : w''.cell? ⟨w.heap.size + 1, 0, none⟩ = some (.int .i64 0) := d1.cell 0
      have p2 : w''.cell? ⟨w.heap.size + 1 + 1, 0, none⟩ = some (.int .i64 k) := d2.cell 0
      rw [show R = ([], 0, k) by rw [HRR.out, hrl]]
      simp [Leaves, settle, results, Tryd.results38, go_sem, p0, p1, p2]
      exact hfin
    | ok s =>
      rw [hrl] at hR
      obtain ⟨⟨u, rfl⟩, h6, k6⟩ := hR
      have c06 := k6.keep c0 (by omega) (fun e => by simp [blk] at e; omega)
      have c16 := k6.keep c1 (by omega) (fun e => by simp [blk] at e; omega)
      have c26 := k6.keep c2 (by omega) (fun e => by simp [blk] at e; omega)
      have g0 : W6.cell? ⟨gv + 1, 0, none⟩ = some (.slice (some ⟨gv, 0, none⟩) 16 16) := h6.box.cell 0
      have g1 : W6.cell? ⟨gv + 1, 1, none⟩ = some (.int .i64 (s.left : Int)) := h6.box.cell 1
      have p0 : W6.cell? ⟨w.heap.size, 0, none⟩ = some (.slice none 0 0) := c06.cell 0
      have q0 : W6.cell? ⟨(w.heap.size + 1), 0, none⟩ = some (.int .i64 0) := c16.cell 0
      have r0 : W6.cell? ⟨(w.heap.size + 1 + 1), 0, none⟩ = some (.int .i64 0) := c26.cell 0
      have fp0 := c06.frozen 0
      have fq0 := c16.frozen 0
      have fr0 := c26.frozen 0
      have hbl : IntKind.i64.wrap ((bud : Int) - (s.left : Int)) = (bud : Int) - (s.left : Int) := IntWalk.i64_in _ (by have := h6.lef; omega)
      go_wp2_with fail
      go_region
      go_wp2_with fail
      refine leaves_cons (f := 66) (args := #[.pointer (some ⟨w.heap.size, 0, none⟩), .pointer (some ⟨w.heap.size + 1, 0, none⟩), .pointer (some ⟨w.heap.size + 1 + 1, 0, none⟩)]) (by simp) (by simp [go_sem]) ?_
      refine (rec_idle _ _ _ _).mono ?_
      rintro e u' w'' ⟨rfl, rfl, hw7⟩
      have n01 : w.heap.size ≠ w.heap.size + 1 := by omega
      have n02 : w.heap.size ≠ w.heap.size + 1 + 1 := by omega
      have n12 : w.heap.size + 1 ≠ w.heap.size + 1 + 1 := by omega
      have d0 : Blk w'' w.heap.size 23 #[.slice (some ⟨gv, 0, none⟩) 16 16] := by
        rw [hw7]
        exact (((c06.set_ 0 (.slice (some ⟨gv, 0, none⟩) 16 16)).far (p := ⟨w.heap.size + 1, 0, none⟩) n01 (.int .i64 ((bud : Int) - s.left))).far (p := ⟨w.heap.size + 1 + 1, 0, none⟩) n02 (.int .i64 0)).drewN 1
      have d1 : Blk w'' (w.heap.size + 1) 2 #[.int .i64 ((bud : Int) - s.left)] := by
        rw [hw7]
        exact (((c16.far (p := ⟨w.heap.size, 0, none⟩) (Ne.symm n01) (.slice (some ⟨gv, 0, none⟩) 16 16)).set_ 0 (.int .i64 ((bud : Int) - s.left))).far (p := ⟨w.heap.size + 1 + 1, 0, none⟩) n12 (.int .i64 0)).drewN 1
      have d2 : Blk w'' (w.heap.size + 1 + 1) 2 #[.int .i64 0] := by
        rw [hw7]
        exact (((c26.far (p := ⟨w.heap.size, 0, none⟩) (Ne.symm n02) (.slice (some ⟨gv, 0, none⟩) 16 16)).far (p := ⟨w.heap.size + 1, 0, none⟩) (Ne.symm n12) (.int .i64 ((bud : Int) - s.left))).set_ 0 (.int .i64 0)).drewN 1
      have hz7 : Below w.heap.size w w'' := by
        rw [hw7]
        have hzz := (((HYW.out.trans (h6.low.mono HYW.out.size)).setCell (p := ⟨w.heap.size, 0, none⟩) (Nat.le_refl _) (.slice (some ⟨gv, 0, none⟩) 16 16)).setCell (p := ⟨w.heap.size + 1, 0, none⟩) (Nat.le_succ _) (.int .i64 ((bud : Int) - s.left))).setCell (p := ⟨w.heap.size + 1 + 1, 0, none⟩) (Nat.le_trans (Nat.le_succ _) (Nat.le_succ _)) (.int .i64 0)
        exact hzz.trans ((below_drewN (Below.refl _ _) 1).mono hzz.size)
      have ho7 : Own w'' w.heap.size 2 1 (some ⟨gv, 0, none⟩) 16 16 (ints s.vs) := by
        rw [hw7]
        exact (((((h6.vars.mono HYW.out.size).far (p := ⟨w.heap.size, 0, none⟩) (fun e => by simp [blk] at e; omega) _).far (p := ⟨w.heap.size + 1, 0, none⟩) (fun e => by simp [blk] at e; omega) _).far (p := ⟨w.heap.size + 1 + 1, 0, none⟩) (fun e => by simp [blk] at e; omega) _).drewN 1)
      have hfin : NewI3 w (s.vs, (bud : Int) - s.left, 0) (.returned (.tuple #[.slice (some ⟨gv, 0, none⟩) 16 16, .int .i64 ((bud : Int) - s.left), .int .i64 0])) w'' := ⟨_, 16, by rw [h6.len], by rw [h6.len]; exact ho7, hz7⟩
      clear hw7
      have p0 : w''.cell? ⟨w.heap.size, 0, none⟩ = some (.slice (some ⟨gv, 0, none⟩) 16 16) := d0.cell 0
      have p1 : w''.cell? ⟨w.heap.size + 1, 0, none⟩ = some (.int .i64 ((bud : Int) - s.left)) := d1.cell 0
      have p2 : w''.cell? ⟨w.heap.size + 1 + 1, 0, none⟩ = some (.int .i64 0) := d2.cell 0
      rw [show R = (s.vs, (bud : Int) - s.left, 0) by rw [HRR.out, hrl]]
      simp [Leaves, settle, results, Tryd.results38, go_sem, p0, p1, p2]
      exact hfin
  · have hnm : cs.length = Nat.min m 16 := by rw [hcl]; exact (Nat.min_eq_left hm).symm
    obtain ⟨V5, hV5⟩ : ∃ V5, V5 = W4.setRow gv (cur.toList.take 0 ++ (cs ++ cur.toList.drop (0 + cs.length))).toArray := ⟨_, rfl⟩
    have HV5 := Lib.hid (HCUT.out V5 (.inr hV5))
    have HV5E := Lib.hid hV5
    obtain ⟨cb, co, rfl, hx1, hx2⟩ := hy4.at_ (k := 0) (by omega)
    clear hx1 hx2
    have hadd : ∀ j, (⟨cb, co, none⟩ : Addr).add j = ⟨cb, co + j, none⟩ := fun j => by unfold Addr.add; split <;> simp_all
    have hsrc : ∀ j v, cs[j]? = some v → W4.cell? ((⟨cb, co, none⟩ : Addr).add j) = some v := fun j v h => by
      obtain ⟨hj, rfl⟩ := List.getElem?_eq_some_iff.1 h
      obtain ⟨b', o', e, _, hx⟩ := hy4.at_ (k := j) (by omega)
      simp only [Option.some.injEq, Addr.mk.injEq, and_true] at e
      obtain ⟨rfl, rfl⟩ := e
      subst hcsE
      rw [ints_get, hadd]
      exact hx
    have hfit : 0 + cs.length ≤ cur.size := by omega
    have h1 : ∀ v ∈ cs, v.oneCell' = true := by rw [hcsE]; exact ints_one xs
    have HW1G := Lib.hid hW1
    clear hcsE hcl b4 b04 b14 b24 hz4 ho4 hcs hc0 hm0 HCUT hW1 hV5 hadd
    go_upto_region 3 with (refine wpList_copy_own rfl (.tmp 17) (.tmp 18) 23 23 rfl 2 Tryd.underlying23 hS gv 0 16 16 ⟨cb, co, none⟩ m d rfl rfl cur 2 hgW cs hnm hsrc hfit h1 ?_; rw [← HV5E.out])
    clear hgW hsrc hfit h1 HV5E hy4
    obtain ⟨hI, c0, c1, c2⟩ := HV5.out
    have HD := Lib.hid (doI_any W1 a0 a1 (gv + 1) (some ⟨gv, 0, none⟩) 16 (HE.out.below HYW.out) n B cB rs 0 ⟨padL xs, bud⟩ V5 (HX.out.below HYW.out) hn hnc hr hI)
    clear HV5 u0 u1
    simp only [Act.put, List.setIfInBounds_toArray, List.set_cons_zero, List.set_cons_succ]
    go_wp2_with fail
    refine HD.out.mono ?_
    intro e W6 hR
    cases hrl : runLp rs ⟨padL xs, bud⟩ with
    | error k =>
      rw [hrl] at hR
      obtain ⟨rfl, hk, k6⟩ := hR
      have c06 := k6.keep c0 (by omega) (fun e => by simp [blk] at e; omega)
      have c16 := k6.keep c1 (by omega) (fun e => by simp [blk] at e; omega)
      have c26 := k6.keep c2 (by omega) (fun e => by simp [blk] at e; omega)
      have hz6 : Below w.heap.size w W6 := k6.bel _ _ (by have := c0.lt; omega) (by omega) (fun b e => by simp [blk] at e; omega) (HYW.out.trans (hI.low.mono HYW.out.size))
      refine leaves_cons (f := 66) (args := #[.pointer (some ⟨w.heap.size, 0, none⟩), .pointer (some ⟨w.heap.size + 1, 0, none⟩), .pointer (some ⟨w.heap.size + 1 + 1, 0, none⟩)]) (by simp) (by simp [go_sem]) ?_
      refine (rec_panicking w.heap.size (w.heap.size + 1) (w.heap.size + 1 + 1) k a0 a1 _ _ _ W6 (HE.out.below hz6) hk c06 c16 c26 (by omega) (by have := HE0.out.1; omega) (by have := HE0.out; omega)).mono ?_
      rintro e u' w'' ⟨rfl, rfl, d0, d1, d2, HZ⟩
      have hfin : NewI3 w ([], 0, k) (.returned (.tuple #[.slice none 0 0, .int .i64 0, .int .i64 k])) w'' := ⟨none, 0, rfl, Own.nil, HZ.out _ _ hz6 (Nat.le_refl _) (by omega) (by omega)⟩
      have p0 : w''.cell? ⟨w.heap.size, 0, none⟩ = some (.slice none 0 0) := d0.cell 0
      have p1 : w''.cell? ⟨w.heap.size + 1, 0, none⟩ = some (.int .i64 0) := d1.cell 0
      have p2 : w''.cell? ⟨w.heap.size + 1 + 1, 0, none⟩ = some (.int .i64 k) := d2.cell 0
      rw [show R = ([], 0, k) by rw [HRR.out, hrl]]
      simp [Leaves, settle, results, Tryd.results38, go_sem, p0, p1, p2]
      exact hfin
    | ok s =>
      rw [hrl] at hR
      obtain ⟨⟨u, rfl⟩, h6, k6⟩ := hR
      have c06 := k6.keep c0 (by omega) (fun e => by simp [blk] at e; omega)
      have c16 := k6.keep c1 (by omega) (fun e => by simp [blk] at e; omega)
      have c26 := k6.keep c2 (by omega) (fun e => by simp [blk] at e; omega)
      have g0 : W6.cell? ⟨gv + 1, 0, none⟩ = some (.slice (some ⟨gv, 0, none⟩) 16 16) := h6.box.cell 0
      have g1 : W6.cell? ⟨gv + 1, 1, none⟩ = some (.int .i64 (s.left : Int)) := h6.box.cell 1
      have p0 : W6.cell? ⟨w.heap.size, 0, none⟩ = some (.slice none 0 0) := c06.cell 0
      have q0 : W6.cell? ⟨(w.heap.size + 1), 0, none⟩ = some (.int .i64 0) := c16.cell 0
      have r0 : W6.cell? ⟨(w.heap.size + 1 + 1), 0, none⟩ = some (.int .i64 0) := c26.cell 0
      have fp0 := c06.frozen 0
      have fq0 := c16.frozen 0
      have fr0 := c26.frozen 0
      have hbl : IntKind.i64.wrap ((bud : Int) - (s.left : Int)) = (bud : Int) - (s.left : Int) := IntWalk.i64_in _ (by have := h6.lef; omega)
      go_wp2_with fail
      go_region
      go_wp2_with fail
      refine leaves_cons (f := 66) (args := #[.pointer (some ⟨w.heap.size, 0, none⟩), .pointer (some ⟨w.heap.size + 1, 0, none⟩), .pointer (some ⟨w.heap.size + 1 + 1, 0, none⟩)]) (by simp) (by simp [go_sem]) ?_
      refine (rec_idle _ _ _ _).mono ?_
      rintro e u' w'' ⟨rfl, rfl, hw7⟩
      have n01 : w.heap.size ≠ w.heap.size + 1 := by omega
      have n02 : w.heap.size ≠ w.heap.size + 1 + 1 := by omega
      have n12 : w.heap.size + 1 ≠ w.heap.size + 1 + 1 := by omega
      have d0 : Blk w'' w.heap.size 23 #[.slice (some ⟨gv, 0, none⟩) 16 16] := by
        rw [hw7]
        exact (((c06.set_ 0 (.slice (some ⟨gv, 0, none⟩) 16 16)).far (p := ⟨w.heap.size + 1, 0, none⟩) n01 (.int .i64 ((bud : Int) - s.left))).far (p := ⟨w.heap.size + 1 + 1, 0, none⟩) n02 (.int .i64 0)).drewN 1
      have d1 : Blk w'' (w.heap.size + 1) 2 #[.int .i64 ((bud : Int) - s.left)] := by
        rw [hw7]
        exact (((c16.far (p := ⟨w.heap.size, 0, none⟩) (Ne.symm n01) (.slice (some ⟨gv, 0, none⟩) 16 16)).set_ 0 (.int .i64 ((bud : Int) - s.left))).far (p := ⟨w.heap.size + 1 + 1, 0, none⟩) n12 (.int .i64 0)).drewN 1
      have d2 : Blk w'' (w.heap.size + 1 + 1) 2 #[.int .i64 0] := by
        rw [hw7]
        exact (((c26.far (p := ⟨w.heap.size, 0, none⟩) (Ne.symm n02) (.slice (some ⟨gv, 0, none⟩) 16 16)).far (p := ⟨w.heap.size + 1, 0, none⟩) (Ne.symm n12) (.int .i64 ((bud : Int) - s.left))).set_ 0 (.int .i64 0)).drewN 1
      have hz7 : Below w.heap.size w w'' := by
        rw [hw7]
        have hzz := (((HYW.out.trans (h6.low.mono HYW.out.size)).setCell (p := ⟨w.heap.size, 0, none⟩) (Nat.le_refl _) (.slice (some ⟨gv, 0, none⟩) 16 16)).setCell (p := ⟨w.heap.size + 1, 0, none⟩) (Nat.le_succ _) (.int .i64 ((bud : Int) - s.left))).setCell (p := ⟨w.heap.size + 1 + 1, 0, none⟩) (Nat.le_trans (Nat.le_succ _) (Nat.le_succ _)) (.int .i64 0)
        exact hzz.trans ((below_drewN (Below.refl _ _) 1).mono hzz.size)
      have ho7 : Own w'' w.heap.size 2 1 (some ⟨gv, 0, none⟩) 16 16 (ints s.vs) := by
        rw [hw7]
        exact (((((h6.vars.mono HYW.out.size).far (p := ⟨w.heap.size, 0, none⟩) (fun e => by simp [blk] at e; omega) _).far (p := ⟨w.heap.size + 1, 0, none⟩) (fun e => by simp [blk] at e; omega) _).far (p := ⟨w.heap.size + 1 + 1, 0, none⟩) (fun e => by simp [blk] at e; omega) _).drewN 1)
      have hfin : NewI3 w (s.vs, (bud : Int) - s.left, 0) (.returned (.tuple #[.slice (some ⟨gv, 0, none⟩) 16 16, .int .i64 ((bud : Int) - s.left), .int .i64 0])) w'' := ⟨_, 16, by rw [h6.len], by rw [h6.len]; exact ho7, hz7⟩
      clear hw7
      have p0 : w''.cell? ⟨w.heap.size, 0, none⟩ = some (.slice (some ⟨gv, 0, none⟩) 16 16) := d0.cell 0
      have p1 : w''.cell? ⟨w.heap.size + 1, 0, none⟩ = some (.int .i64 ((bud : Int) - s.left)) := d1.cell 0
      have p2 : w''.cell? ⟨w.heap.size + 1 + 1, 0, none⟩ = some (.int .i64 0) := d2.cell 0
      rw [show R = (s.vs, (bud : Int) - s.left, 0) by rw [HRR.out, hrl]]
      simp [Leaves, settle, results, Tryd.results38, go_sem, p0, p1, p2]
      exact hfin
end Go.Proofs.YtacajmgokdgbgaaDoor

/-
  Budgets: impl.budgetOk, spec.l05Budget.
-/
namespace Go.Proofs.YtacajmgokdgbgaaDoor
open Go.RowKit
theorem budgetOk_any (b : Int) (w : World) : Calls Tryd.prog 36 #[.int .i64 b] w fun e w' => e = .returned (.bool (inB b 1 20000)) ∧ w = w' := by
  go_enter Tryd.func36, Tryd.ntmps36
  go_wp2_with (go_at_call 65; refine (within_any _ _ _ _).mono ?_; rintro e w' ⟨rfl, rfl⟩)
  go_ret
  exact ⟨rfl, rfl⟩
theorem budgetOk_is {b : Int} {v : Bool} (h : inB b 1 20000 = v) (w : World) : Calls Tryd.prog 36 #[.int .i64 b] w fun e w' => e = .returned (.bool v) ∧ w = w' := h ▸ budgetOk_any b w
end Go.Proofs.YtacajmgokdgbgaaDoor

/-
  The program's RunLoop.
-/
namespace Go.Proofs.YtacajmgokdgbgaaDoor
open Go.RowKit

set_option maxRecDepth 100000 in
set_option maxHeartbeats 8000000 in
theorem runLoopMain_any (a0 a1 : Addr) (B : Option Addr) (n cL : Nat) (rs : List R3) (C : Option Addr) (m d : Nat) (xs : List Int) (b : Int) (w : World) (he : ErrsW w a0 a1) (hx : S3 w B n rs) (hn : n ≤ 1048576) (hnc : n ≤ cL) (hy : SI w C m xs) (hm : m ≤ 1048576) :
    Calls Tryd.prog 11 #[.slice B n cL, .slice C m d, .int .i64 b] w (NewI3 w (runLoopF rs xs b)) := by
  have HIS := Lib.hid (validLoop_any B n cL rs w hx hn hnc)
  have HX := Lib.hid hx
  have HE := Lib.hid he
  have HY := Lib.hid hy
  have HM := Lib.hid hy.len
  clear hx hy he
  cases hv : (decide (rs.length ≤ 150) && validLp rs 0) with
  | false =>
    have HF : Hid (runLoopF rs xs b = ([], 0, 1)) := Lib.hid (by unfold runLoopF; rw [if_pos hv])
    rw [hv] at HIS
    clear hv
    rw [HF.out]
    go_enter Tryd.func11, Tryd.ntmps11
    go_wp2_with (go_at_call 35; refine HIS.out.mono ?_; rintro e w1 ⟨rfl, z1⟩)
    exact bodyPost_ret (v := .tuple #[.slice none 0 0, .int .i64 0, .int .i64 1]) (by simp [results, Tryd.results11, go_sem]) rfl ⟨none, 0, rfl, Own.nil, z1⟩
  | true =>
    rw [hv] at HIS
    have HVB : Hid (validLp rs 0 = true) := Lib.hid (by simp only [Bool.and_eq_true] at hv; exact hv.2)
    have HC : Hid (∀ w1, Below w.heap.size w w1 → Calls Tryd.prog 37 #[.slice C m d, .int .i64 0, .int .i64 1000000] w1 fun e w' => e = .returned (.bool (countsB xs)) ∧ w1 = w') := Lib.hid (fun w1 z => allWithin_any C m d xs 0 1000000 w1 (Rd.below HY.out z) (by omega))
    by_cases hbad : inB b 1 20000 = false ∨ 16 < xs.length ∨ countsB xs = false
    · have HF : Hid (runLoopF rs xs b = ([], 0, 2)) := Lib.hid (by unfold runLoopF; rw [if_neg (by rw [hv]; decide), if_pos hbad])
      rw [HM.out] at hbad
      rw [HF.out]
      clear hv HF
      cases hbb : inB b 1 20000 with
      | false =>
        have HBB := Lib.hid hbb
        clear hbb hbad
        go_enter Tryd.func11, Tryd.ntmps11
        go_wp2_with (first | (go_at_call 35; refine HIS.out.mono ?_; rintro e w1 ⟨rfl, z1⟩) | (go_at_call 36; refine (budgetOk_is HBB.out _).mono ?_; rintro e w' ⟨rfl, rfl⟩))
        exact bodyPost_ret (v := .tuple #[.slice none 0 0, .int .i64 0, .int .i64 2]) (by simp [results, Tryd.results11, go_sem]) rfl ⟨none, 0, rfl, Own.nil, z1⟩
      | true =>
        have HBB := Lib.hid hbb
        by_cases hm2 : 16 < m
        · have hm3 : (m : Int) > 16 := by omega
          clear hbb hbad
          go_enter Tryd.func11, Tryd.ntmps11
          go_wp2_with (first | (go_at_call 35; refine HIS.out.mono ?_; rintro e w1 ⟨rfl, z1⟩) | (go_at_call 36; refine (budgetOk_is HBB.out _).mono ?_; rintro e w' ⟨rfl, rfl⟩))
          exact bodyPost_ret (v := .tuple #[.slice none 0 0, .int .i64 0, .int .i64 2]) (by simp [results, Tryd.results11, go_sem]) rfl ⟨none, 0, rfl, Own.nil, z1⟩
        · have hm3 : ¬ (m : Int) > 16 := by omega
          have hcb : countsB xs = false := by rcases hbad with h | h | h
                                              · rw [hbb] at h; cases h
                                              · omega
                                              · exact h
          rw [hcb] at HC
          clear hbb hbad hcb
          go_enter Tryd.func11, Tryd.ntmps11
          go_wp2_with (first | (go_at_call 35; refine HIS.out.mono ?_; rintro e w1 ⟨rfl, z1⟩) | (go_at_call 36; refine (budgetOk_is HBB.out _).mono ?_; rintro e w' ⟨rfl, rfl⟩) | (go_at_call 37; refine (HC.out _ z1).mono ?_; rintro e w' ⟨rfl, rfl⟩))
          exact bodyPost_ret (v := .tuple #[.slice none 0 0, .int .i64 0, .int .i64 2]) (by simp [results, Tryd.results11, go_sem]) rfl ⟨none, 0, rfl, Own.nil, z1⟩
    · have hbb : inB b 1 20000 = true := by cases h : inB b 1 20000 <;> simp_all
      have hcb : countsB xs = true := by cases h : countsB xs <;> simp_all
      have hm2 : m ≤ 16 := by have := HM.out; omega
      have hm3 : ¬ (m : Int) > 16 := by omega
      obtain ⟨hb1, hb2⟩ := (inB_iff _ _ _).1 hbb
      obtain ⟨bud, rfl⟩ : ∃ bud : Nat, b = (bud : Int) := ⟨b.toNat, by omega⟩
      have HBB := Lib.hid hbb
      have HPL : Hid (∀ w1, Below w.heap.size w w1 → Calls Tryd.prog 38 #[.slice B n cL, .slice C m d, .int .i64 (bud : Int)] w1 (NewI3 w1 (runLoopF rs xs bud))) := Lib.hid (fun w1 z => by
        have h := runLoopI_any B n cL rs C m d xs bud a0 a1 w1 (HE.out.below z) (HX.out.below z) hn hnc (Rd.below HY.out z) hm2 ((countsB_iff xs).1 hcb) HVB.out (by omega)
        unfold runLoopF
        rw [if_neg (by rw [hv]; decide), if_neg hbad, Int.toNat_natCast]
        exact h)
      rw [hcb] at HC
      clear hv hbad hcb hbb
      go_enter Tryd.func11, Tryd.ntmps11
      go_wp2_with (first | (go_at_call 35; refine HIS.out.mono ?_; rintro e w1 ⟨rfl, z1⟩) | (go_at_call 36; refine (budgetOk_is HBB.out _).mono ?_; rintro e w' ⟨rfl, rfl⟩) | (go_at_call 37; refine (HC.out _ z1).mono ?_; rintro e w' ⟨rfl, rfl⟩))
      refine (HPL.out w1 z1).mono ?_
      rintro e W ⟨A, c, rfl, ho, hz⟩
      go_wp2_with fail
      exact bodyPost_ret (v := .tuple #[.slice A (runLoopF rs xs bud).1.length c, .int .i64 (runLoopF rs xs bud).2.1, .int .i64 (runLoopF rs xs bud).2.2]) (by simp [results, Tryd.results11, go_sem]) rfl ⟨A, c, rfl, ho.mono z1.size, z1.trans (hz.mono z1.size)⟩
end Go.Proofs.YtacajmgokdgbgaaDoor

/-
  Contracts of the laws' helpers over []Rule: szLoopS, toLoop, toLoopS, eqLoop, eqLoopS, markLoopS.
-/
namespace Go.Proofs.YtacajmgokdgbgaaDoor
open Go.RowKit

theorem elLp : Elem Tryd.prog 27 64 3 24 (.agg #[.int .i64 0, .int .i64 0, .int .i64 0]) := ⟨Tryd.underlying27, by kernel_rfl, rfl, by decide⟩

set_option maxHeartbeats 400000 in
theorem szLp (A : Option Addr) (n c : Nat) (left : Int) (w : World) (hn : n ≤ 9223372036854775807) (h0 : 0 ≤ left) (h1 : left ≤ 1048576) :
    Calls Tryd.prog 7 #[.slice A n c, .int .i64 left] w fun e w' => e = .returned (.int .i64 (szF left n)) ∧ w = w' := by
  by_cases h : left < n
  · have h2 : left - n < 0 := by omega
    go_enter Tryd.func7, Tryd.ntmps7
    go_wp2
    go_ret
    exact ⟨ret_int (by unfold szF; rw [if_pos h]), rfl⟩
  · have h2 : ¬ left - n < 0 := by omega
    go_enter Tryd.func7, Tryd.ntmps7
    go_wp2
    go_ret
    exact ⟨ret_int (by unfold szF; rw [if_neg (by omega)]), rfl⟩

set_option maxHeartbeats 400000 in
theorem toLoop_any (a b c : Int) (w : World) :
    Calls Tryd.prog 34 #[.agg #[.int .i64 a, .int .i64 b, .int .i64 c]] w fun e w' => e = .returned (.agg #[.int .i64 a, .int .i64 b, .int .i64 c]) ∧ Below w.heap.size w w' := by
  go_enter Tryd.func34, Tryd.ntmps34
  go_wp2
  exact bodyPost_ret (v := .agg #[.int .i64 a, .int .i64 b, .int .i64 c]) (by simp [results, Tryd.results34, go_sem]) rfl ⟨rfl, (((Below.refl _ _).alloc (Nat.le_refl _) _).alloc (by simp) _).alloc (by simp; omega) _⟩

set_option maxHeartbeats 400000 in
theorem eqLoop_any (a b c a' b' c' : Int) (w : World) :
    Calls Tryd.prog 39 #[.agg #[.int .i64 a, .int .i64 b, .int .i64 c], .agg #[.int .i64 a', .int .i64 b', .int .i64 c']] w fun e w' => e = .returned (.bool (sameR ⟨a, b, c⟩ ⟨a', b', c'⟩)) ∧ Below w.heap.size w w' := by
  have hb : Below w.heap.size w ((w.alloc (.cells #[.int .i64 a, .int .i64 b, .int .i64 c] 64)).alloc (.cells #[.int .i64 a', .int .i64 b', .int .i64 c'] 64)) := ((Below.refl _ _).alloc (Nat.le_refl _) _).alloc (by simp) _
  go_enter Tryd.func39, Tryd.ntmps39
  go_wp2
  all_goals go_ret
  all_goals exact ⟨ret_bool (by simp_all [sameR]), hb⟩

def ToLp (w : World) (n : Nat) (rs : List R3) (e : Ending) (w' : World) : Prop :=
  ∃ A, e = .returned (.slice A n n) ∧ Own w' w.heap.size 64 3 A n n (cells3 rs) ∧ Below w.heap.size w w'

set_option maxHeartbeats 1000000 in
theorem toLp (A : Option Addr) (n c : Nat) (rs : List R3) (w : World) (hx : S3 w A n rs) (hn : n ≤ 1048576) :
    Calls Tryd.prog 9 #[.slice A n c] w (ToLp w n rs) := by
  have HL := Lib.hid hx.len
  have hxl : n ≤ rs.length := by have := hx.len; omega
  have hxl' : rs.length ≤ n := by have := hx.len; omega
  go_enter Tryd.func9, Tryd.ntmps9
  go_wp2_with (at_make; refine wpList_make_Own rfl (.tmp 6) (.tmp 6) rfl elLp (n := n) (lo := w.heap.size) rfl rfl (by omega) (by unfold maxLen; omega) (Nat.le_refl _) ?_; intro w2 ho2 hb2 hs2)
  rw [made_cells3 n rs HL.out] at ho2
  have HS := Lib.hid hs2
  clear hs2
  go_loopw [4] (fun i wr => ∃ k : Nat, k ≤ n ∧ i = .int .i64 k ∧ Own wr w.heap.size 64 3 (some ⟨w.heap.size, 0, none⟩) n n (cells3 (copied3 rs k)) ∧ Below w.heap.size w wr) (fun i _ => n - (intOf i).toNat)
  case atStart => exact ⟨0, by omega, rfl, ho2, hb2⟩
  case round =>
    obtain ⟨k, hk, rfl, ho, hb⟩ := hrel
    by_cases hlt : k < n
    · obtain ⟨r, b, off, hr, _, rfl, hbl, q0, q1, q2⟩ := (hx.below hb).pick hlt
      go_wp2_with fail
      refine (toLoop_any _ _ _ _).mono ?_
      rintro e w3 ⟨rfl, hb3⟩
      have ho3 := ho.below hb3
      have hll : n * 3 ≤ (cells3 (copied3 rs k)).length := by rw [length_cells3, length_copied3 _ _ (by omega)]; omega
      obtain ⟨b0, off0, he, hlo, hlt0, hc0, hf0⟩ := ho3.at_ (k := k * 3) (by omega)
      obtain ⟨b1, off1, he1, _, _, hc1, hf1⟩ := ho3.at_ (k := k * 3 + 1) (by omega)
      obtain ⟨b2, off2, he2, _, _, hc2, hf2⟩ := ho3.at_ (k := k * 3 + 2) (by omega)
      simp only [Option.some.injEq, Addr.mk.injEq, and_true] at he he1 he2
      obtain ⟨rfl, rfl⟩ := he
      obtain ⟨rfl, rfl⟩ := he1
      obtain ⟨rfl, rfl⟩ := he2
      have ho4 := ((ho3.set_ (k := k * 3) (by omega) (.int .i64 r.a)).set_ (k := k * 3 + 1) (by rw [List.length_set]; omega) (.int .i64 r.b)).set_ (k := k * 3 + 2) (by rw [List.length_set, List.length_set]; omega) (.int .i64 r.c)
      rw [cells3_set _ _ r (by rw [length_copied3 _ _ (by omega)]; omega), copied3_next _ _ _ hr.out] at ho4
      simp only [Nat.zero_add] at hc0 hc1 hc2 hf0 hf1 hf2 ho4
      have hb4 := (((hb.trans (hb3.mono hb.size)).setCell (p := ⟨w.heap.size, k * 3, none⟩) (Nat.le_refl _) (.int .i64 r.a)).setCell (p := ⟨w.heap.size, k * 3 + 1, none⟩) (Nat.le_refl _) (.int .i64 r.b)).setCell (p := ⟨w.heap.size, k * 3 + 2, none⟩) (Nat.le_refl _) (.int .i64 r.c)
      clear q0 q1 q2
      go_wp2_with fail
      exact ⟨⟨k + 1, by omega, by go_num, ho4, hb4⟩, by simp [intOf]; omega⟩
    · go_wp2
      go_ret
      have hoo := ho
      rw [copied3_end rs (by omega)] at hoo
      exact ⟨_, rfl, hoo, hb⟩

set_option maxHeartbeats 1000000 in
theorem eqLp (A B : Option Addr) (n m c d : Nat) (xs ys : List R3) (w : World) (hx : S3 w A n xs) (hy : S3 w B m ys) (hn : n ≤ 9223372036854775807) :
    Calls Tryd.prog 13 #[.slice A n c, .slice B m d] w fun e w' => e = .returned (.bool (same3 xs ys)) ∧ Below w.heap.size w w' := by
  by_cases hnm : n = m
  · subst hnm
    go_enter Tryd.func13, Tryd.ntmps13
    go_wp2
    go_loopw [5] (fun i wr => ∃ k : Nat, k ≤ n ∧ i = .int .i64 k ∧ Hid (xs.take k = ys.take k) ∧ Below w.heap.size w wr) (fun i _ => n - (intOf i).toNat)
    case atStart => exact ⟨0, by omega, rfl, rfl, Below.refl _ _⟩
    case round =>
      obtain ⟨k, hk, rfl, he, hb⟩ := hrel
      by_cases hlt : k < n
      · obtain ⟨x, b, off, hX, _, rfl, hbl, q0, q1, q2⟩ := (hx.below hb).pick hlt
        obtain ⟨y, b', off', hY, _, rfl, hbl', q0', q1', q2'⟩ := (hy.below hb).pick hlt
        go_upto_region 6 with fail
        go_cut [26] (fun s26 wx => s26 = .bool (!sameR x y) ∧ Below w.heap.size w wx)
        case first =>
          go_region_held3 (fun w' => w'.cell? ⟨b, off + k * 3, none⟩ = some (.int .i64 x.a) ∧ w'.cell? ⟨b, off + k * 3 + 1, none⟩ = some (.int .i64 x.b) ∧ w'.cell? ⟨b, off + k * 3 + 2, none⟩ = some (.int .i64 x.c) ∧
              w'.cell? ⟨b', off' + k * 3, none⟩ = some (.int .i64 y.a) ∧ w'.cell? ⟨b', off' + k * 3 + 1, none⟩ = some (.int .i64 y.b) ∧ w'.cell? ⟨b', off' + k * 3 + 2, none⟩ = some (.int .i64 y.c))
            (first
              | (go_keep; done)
              | (exact ⟨(hb2.cell (p := ⟨b, off + k * 3, none⟩) hbl).trans q0, (hb2.cell (p := ⟨b, off + k * 3 + 1, none⟩) hbl).trans q1, (hb2.cell (p := ⟨b, off + k * 3 + 2, none⟩) hbl).trans q2, (hb2.cell (p := ⟨b', off' + k * 3, none⟩) hbl').trans q0', (hb2.cell (p := ⟨b', off' + k * 3 + 1, none⟩) hbl').trans q1', (hb2.cell (p := ⟨b', off' + k * 3 + 2, none⟩) hbl').trans q2'⟩))
            (first
              | (go_at_call 39; refine (eqLoop_any _ _ _ _ _ _ _).mono ?_; rintro e w2 ⟨rfl, hb2'⟩; have hb2 : Below wr.heap.size wr w2 := below_undrew hb2'))
          go_wp2_with fail
          go_meet
          exact ⟨rfl, hb.trans (hb2.mono hb.size)⟩
        case rest =>
          obtain ⟨rfl, hb3⟩ := hcut
          clear q0 q1 q2 q0' q1' q2'
          go_wp2_with fail
          · go_ret
            exact ⟨ret_bool (same3_ne hX.out hY.out (by assumption)), hb3⟩
          · exact ⟨⟨k + 1, by omega, by go_num, same3_next hX.out hY.out he.out (by assumption), hb3⟩, by simp [intOf]; omega⟩
      · go_wp2
        go_ret
        exact ⟨ret_bool (same3_eq (by omega) hx.len hy.len he.out), hb⟩
  · have hne : ((n : Int) != (m : Int)) = true := by simp; omega
    go_enter Tryd.func13, Tryd.ntmps13
    go_wp2
    go_ret
    exact ⟨ret_bool (same3_len hnm hx.len hy.len), Below.refl _ _⟩

set_option maxHeartbeats 1000000 in
theorem markLp_m (T : List TypeId) (A : Option Addr) (n c : Nat) (m : Int) (w : World) (lo hi : Nat) (hx : Mk w lo hi 64 3 A n) (hT : 64 ∈ T) (h0 : 0 ≤ m) (h1 : m + n * 3 ≤ 9223372036854775807) :
    Calls Tryd.prog 14 #[.slice A n c, .int .i64 m] w (MarkP T w lo hi (n * 3) m) := by
  have HT := Lib.hid hT
  clear hT
  go_enter Tryd.func14, Tryd.ntmps14
  go_wp2
  go_loopw [1, 5] (fun q i wr => ∃ k : Nat, k ≤ n ∧ i = .int .i64 k ∧ q = .int .i64 (m + k * 3) ∧ Mk wr lo hi 64 3 A n ∧ MkF T lo hi w wr) (fun _ i _ => n - (intOf i).toNat)
  case atStart => exact ⟨0, by omega, rfl, by simp, hx, MkF.refl _ _ _ _⟩
  case round =>
    obtain ⟨k, hk, rfl, rfl, ho, ht⟩ := hrel
    by_cases hlt : k < n
    · obtain ⟨b, off, cur, v, rfl, hlo, hhi, hg, hc, hf⟩ := ho.at_ (k := k * 3) (by omega)
      obtain ⟨b1, off1, _, v1, he1, _, _, _, hc1, hf1⟩ := ho.at_ (k := k * 3 + 1) (by omega)
      obtain ⟨b2, off2, _, v2, he2, _, _, _, hc2, hf2⟩ := ho.at_ (k := k * 3 + 2) (by omega)
      simp only [Option.some.injEq, Addr.mk.injEq, and_true] at he1 he2
      obtain ⟨rfl, rfl⟩ := he1
      obtain ⟨rfl, rfl⟩ := he2
      have f1 := (MkF.refl T lo hi wr).setCell (i := off + k * 3) hg HT.out hlo hhi (.int .i64 (m + k * 3))
      have g1 := heap_setCell_same wr b (off + k * 3) cur _ (.int .i64 (m + k * 3)) hg
      have f2 := f1.setCell (i := off + k * 3 + 1) g1 HT.out hlo hhi (.int .i64 (m + k * 3 + 1))
      have g2 := heap_setCell_same _ b (off + k * 3 + 1) _ _ (.int .i64 (m + k * 3 + 1)) g1
      have f3 := f2.setCell (i := off + k * 3 + 2) g2 HT.out hlo hhi (.int .i64 (m + k * 3 + 1 + 1))
      have HG := Lib.hid hg
      clear hg g1 g2 f1 f2
      rw [← Nat.add_assoc] at hc1 hf1 hc2 hf2
      have i1 : m + (k : Int) * 3 + 1 ≤ 9223372036854775806 := by omega
      go_wp2
      exact ⟨⟨k + 1, by omega, by go_num, by go_num, ho.mkf f3, ht.trans f3⟩, by simp [intOf]; omega⟩
    · go_wp2
      go_ret
      obtain rfl : k = n := by omega
      exact ⟨ret_int (by omega), ht⟩
end Go.Proofs.YtacajmgokdgbgaaDoor

/-
  What the size helpers of the laws come to, in one form.
-/
namespace Go.Proofs.YtacajmgokdgbgaaDoor
open Go.RowKit
def SzP (w : World) (left tot : Int) (e : Ending) (w' : World) : Prop := ∃ z : Int, e = .returned (.int .i64 z) ∧ -1 ≤ z ∧ z ≤ left ∧ (0 ≤ z → z = left - tot) ∧ Below w.heap.size w w'
theorem szF_p {left : Int} {n : Nat} (h0 : 0 ≤ left) : -1 ≤ szF left n ∧ szF left n ≤ left ∧ (0 ≤ szF left n → szF left n = left - n) := by
  unfold szF; split <;> omega
end Go.Proofs.YtacajmgokdgbgaaDoor

/-
  Contracts of the laws' helpers over [][]int64: szInt64SS, toInt64SS, eqInt64SS, markInt64SS.
-/
namespace Go.Proofs.YtacajmgokdgbgaaDoor
open Go.RowKit

def ToII (w : World) (n : Nat) (xss : List (List Int)) (e : Ending) (w' : World) : Prop :=
  ∃ A us, e = .returned (.slice A n n) ∧ OII w' w.heap.size 23 2 A n n us ∧ nums us = xss ∧ (∀ u ∈ us, u.c = u.xs.length) ∧ Below w.heap.size w w'

theorem total_take {ts : List Sl} {t : Sl} {k : Nat} (hT : ts[k]? = some t) : total (ts.take (k + 1)) = total (ts.take k) + t.xs.length := by
  obtain ⟨h, rfl⟩ := List.getElem?_eq_some_iff.1 hT
  unfold total; rw [List.take_succ_eq_append_getElem h, List.map_append, List.sum_append]; simp
theorem total_take_le (ts : List Sl) (k : Nat) : total (ts.take k) ≤ total ts := by
  have e : total ts = total (ts.take k) + total (ts.drop k) := by unfold total; rw [← List.sum_append, ← List.map_append, List.take_append_drop]
  omega

end Go.Proofs.YtacajmgokdgbgaaDoor

/-
  What the size helper over [][]int64 comes to, in one form; totals of rows.
-/
namespace Go.Proofs.YtacajmgokdgbgaaDoor
open Go.RowKit
theorem szRows_tot : ∀ (rows : List Nat) (left : Int), 0 ≤ left → -1 ≤ szRows left rows ∧ szRows left rows ≤ left ∧ (0 ≤ szRows left rows → szRows left rows = left - rows.sum)
  | [], left, h => by simp [szRows]; omega
  | n :: r, left, h => by
    rw [szRows]
    split
    · omega
    · rename_i hn
      have h2 := szRows_tot r (left - n) (by omega)
      simp only [List.sum_cons]
      omega
theorem row_total {ts : List Sl} {t : Sl} (h : t ∈ ts) : t.xs.length ≤ total ts := by
  unfold total
  obtain ⟨a, b, rfl⟩ := List.append_of_mem h
  simp; omega
theorem total_of_nums (ts : List Sl) : total ts = ((nums ts).map List.length).sum := by simp [total, nums, Function.comp_def]
theorem total_same {ts us : List Sl} (h : nums us = nums ts) : total us = total ts := by rw [total_of_nums, total_of_nums, h]
theorem rows_le {ts us : List Sl} (h : nums us = nums ts) {b : Nat} (hb : ∀ t ∈ ts, t.xs.length ≤ b) : ∀ u ∈ us, u.xs.length ≤ b := by
  intro u hu
  have h1 : u.xs ∈ nums us := List.mem_map.2 ⟨u, hu, rfl⟩
  rw [h] at h1
  obtain ⟨t, ht, e⟩ := List.mem_map.1 h1
  rw [← e]; exact hb t ht
end Go.Proofs.YtacajmgokdgbgaaDoor

/-
  RunLoop's two contracts as the law's walk takes them; the length of what it answers.
-/
namespace Go.Proofs.YtacajmgokdgbgaaDoor
open Go.RowKit

theorem timesLs_len (f : Ls → Except Int Ls) (hf : ∀ s s', f s = .ok s' → s'.vs.length = s.vs.length) : ∀ (m : Nat) (s s' : Ls), timesLs f m s = .ok s' → s'.vs.length = s.vs.length := by
  intro m
  induction m with
  | zero => intro s s' h; cases h; rfl
  | succ m ih =>
    intro s s' h
    rw [timesLs] at h
    by_cases h0 : s.left = 0
    · rw [stepLs_err h0] at h; cases h
    · rw [stepLs_ok h0] at h
      cases h1 : f ⟨s.vs, s.left - 1⟩ with
      | error k => simp only [Except.bind, h1] at h; cases h
      | ok s1 =>
        simp only [Except.bind, h1] at h
        have h2 := hf _ _ h1
        have h3 := ih _ _ h
        exact h3.trans h2
theorem againLs_len (f : Ls → Except Int Ls) (a : Nat) (hf : ∀ s s', f s = .ok s' → s'.vs.length = s.vs.length) : ∀ (m : Nat) (s s' : Ls), againLs f a m s = .ok s' → s'.vs.length = s.vs.length := by
  intro m
  induction m with
  | zero => intro s s' h; cases h
  | succ m ih =>
    intro s s' h
    rw [againLs] at h
    split at h
    · cases h; rfl
    · cases h1 : f s with
      | error k => rw [h1] at h; cases h
      | ok s1 =>
        rw [h1] at h
        by_cases h0 : s1.left = 0
        · simp only [Except.bind, stepLs_err h0] at h; cases h
        · simp only [Except.bind, stepLs_ok h0] at h
          have h2 := hf _ _ h1
          have h3 := ih _ _ h
          exact h3.trans h2
theorem simpleLs_len {x : R3} {s s' : Ls} (h : simpleLs x s = .ok s') : s'.vs.length = s.vs.length := by
  unfold simpleLs at h
  split at h
  · cases h; simp
  · split at h
    · split at h
      · cases h
      · cases h; simp
    · cases h; simp
theorem runLp_len : ∀ (n : Nat) (l : List R3) (s s' : Ls), l.length ≤ n → runLp l s = .ok s' → s'.vs.length = s.vs.length := by
  intro n
  induction n with
  | zero =>
    intro l s s' hl h
    obtain rfl : l = [] := List.length_eq_zero_iff.1 (by omega)
    rw [runLp_nil] at h; cases h; rfl
  | succ n ih =>
    intro l s s' hl h
    match l with
    | [] => rw [runLp_nil] at h; cases h; rfl
    | x :: t =>
      rw [runLp_cons] at h
      simp only [List.length_cons] at hl
      by_cases h0 : s.left = 0
      · rw [stepLs_err h0] at h; cases h
      · rw [stepLs_ok h0] at h
        simp only [Except.bind] at h
        have ht : (t.take x.c.toNat).length ≤ n := by rw [List.length_take]; omega
        have hd : (t.drop x.c.toNat).length ≤ n := by rw [List.length_drop]; omega
        split at h
        · cases h1 : timesLs (fun s => runLp (t.take x.c.toNat) s) (s.vs.getD x.b.toNat 0).toNat ⟨s.vs, s.left - 1⟩ with
          | error k => simp only [h1] at h; cases h
          | ok s1 =>
            simp only [h1] at h
            have h2 := timesLs_len _ (fun s s' h => ih _ s s' ht h) _ _ _ h1
            have h3 := ih _ _ _ hd h
            exact h3.trans h2
        · split at h
          · cases h1 : againLs (fun s => runLp (t.take x.c.toNat) s) x.b.toNat (s.left - 1 + 1) ⟨s.vs, s.left - 1⟩ with
            | error k => simp only [h1] at h; cases h
            | ok s1 =>
              simp only [h1] at h
              have h2 := againLs_len _ _ (fun s s' h => ih _ s s' ht h) _ _ _ h1
              have h3 := ih _ _ _ hd h
              exact h3.trans h2
          · cases h1 : simpleLs x ⟨s.vs, s.left - 1⟩ with
            | error k => simp only [h1] at h; cases h
            | ok s1 =>
              simp only [h1] at h
              have h2 := simpleLs_len h1
              have h3 := ih _ _ _ (by omega) h
              exact h3.trans h2
theorem runLoopF_len (rs : List R3) (xs : List Int) (b : Int) : (runLoopF rs xs b).1.length ≤ 1048576 := by
  unfold runLoopF
  split
  · exact Nat.zero_le _
  · split
    · exact Nat.zero_le _
    · rename_i h
      cases hr : runLp rs ⟨padL xs, b.toNat⟩ with
      | error k => exact Nat.zero_le _
      | ok s =>
        have h1 := runLp_len _ rs _ _ (Nat.le_refl _) hr
        have h2 : (padL xs).length = 16 := padL_len (by omega)
        show s.vs.length ≤ _
        rw [h1]; dsimp only; omega
theorem rlS_any (B : Option Addr) (n cL : Nat) (rs : List R3) (C : Option Addr) (m d : Nat) (xs : List Int) (b : Int) (w : World) (hx : S3 w B n rs) (hy : SI w C m xs) (hn : n ≤ 1048576) (hm : m ≤ 1048576) :
    Calls Tryd.prog 8 #[.slice B n cL, .slice C m d, .int .i64 b] w (NewI3 w (runLoopF rs xs b)) := specRunLoop_any B n cL rs C m d xs b w hx hn hy hm
theorem rlI_any (a0 a1 : Addr) (B : Option Addr) (n cL : Nat) (rs : List R3) (C : Option Addr) (m d : Nat) (xs : List Int) (b : Int) (w : World) (hx : S3 w B n rs) (hy : SI w C m xs) (hn : n ≤ 1048576) (hm : m ≤ 1048576) (hc : n ≤ cL) (he : ErrsW w a0 a1) :
    Calls Tryd.prog 11 #[.slice B n cL, .slice C m d, .int .i64 b] w (NewI3 w (runLoopF rs xs b)) := runLoopMain_any a0 a1 B n cL rs C m d xs b w he hx hn hc hy hm
theorem szLp_p (A : Option Addr) (n c : Nat) (left : Int) (w : World) (hn : n ≤ 9223372036854775807) (h0 : 0 ≤ left) (h1 : left ≤ 1048576) :
    Calls Tryd.prog 7 #[.slice A n c, .int .i64 left] w (SzP w left (n : Int)) :=
  (szLp A n c left w hn h0 h1).mono fun _e _w' ⟨he, hw⟩ => by
    refine ⟨_, he, ?_, ?_, ?_, hw ▸ Below.refl _ _⟩ <;> unfold szF <;> split <;> omega
end Go.Proofs.YtacajmgokdgbgaaDoor
