/-
  Contract of a step of a formula tape in memory.
-/
import Derived.Test.YtbpofkggoolmpaaPbFmAll13
import Derived.Test.YtbpofkggoolmpaaPbFmAll14
import Derived.Test.YtbpofkggoolmpaaPbFmAll15
namespace Go.Proofs.Ytbpofkggoolmpaa
open Go.RowKit

theorem fmB_sz {sy st : Int} {f : Fm} (h : fmB sy st f = true) : FmSz f ∧ (∀ x ∈ f.O, -1000 ≤ x ∧ x ≤ 1000) ∧ (∀ y ∈ f.W, ∀ x ∈ y, 0 ≤ x ∧ x ≤ sy - 1) ∧ (∀ y ∈ f.R, 1 ≤ y.length ∧ y.length ≤ 20 ∧ ∀ x ∈ y, 0 ≤ x ∧ x ≤ sy - 1) := by
  obtain ⟨p1, p2, p3, p4, p5, p6, p7, p8, p9, p10⟩ := fmB_parts h
  unfold fmB at h
  simp only [Bool.and_eq_true] at h
  obtain ⟨⟨⟨⟨⟨_, hw⟩, hr⟩, ho⟩, _⟩, _⟩ := h
  rw [List.all_eq_true] at hw hr
  have w1 : ∀ y ∈ f.W, y.length ≤ 100 ∧ ∀ x ∈ y, 0 ≤ x ∧ x ≤ sy - 1 := fun y hy => by
    have := hw y hy
    unfold wallB allIn at this
    simp only [Bool.and_eq_true, decide_eq_true_eq, List.all_eq_true, inB_iff] at this
    exact ⟨by omega, this.2⟩
  have r1 : ∀ y ∈ f.R, 1 ≤ y.length ∧ y.length ≤ 20 ∧ ∀ x ∈ y, 0 ≤ x ∧ x ≤ sy - 1 := fun y hy => by
    have := hr y hy
    unfold repB allIn at this
    simp only [Bool.and_eq_true, List.all_eq_true, inB_iff] at this
    exact ⟨by omega, by omega, this.2⟩
  refine ⟨⟨p1, p2, p3, p4, p5, p6, fun y hy => by have := (w1 y hy).1; omega, fun y hy => by have := (r1 y hy).2.1; omega, p7, ?_⟩, ?_, fun y hy => (w1 y hy).2, r1⟩
  · have : (rowAt f.W f.h).length ≤ 100 := by
      unfold rowAt
      rw [List.getD_eq_getElem?_getD]
      cases e : f.W[f.h.toNat]? with
      | none => simp
      | some y => exact (w1 y (List.mem_of_getElem? e)).1
    omega
  · unfold allIn at ho
    simp only [List.all_eq_true, inB_iff] at ho
    exact ho
/-- A formula tape whose lists are short enough to be tested. -/
def FmOk (f : Fm) : Prop := f.W.length ≤ 1048576 ∧ f.R.length ≤ 1048576 ∧ f.O.length ≤ 1048576 ∧ (∀ x ∈ f.W, x.length ≤ 1048576) ∧ (∀ x ∈ f.R, x.length ≤ 1048576)
theorem rowAt_le {k : Nat} {M : List (List Int)} (h : ∀ x ∈ M, x.length ≤ k) (i : Int) : (rowAt M i).length ≤ k := by
  unfold rowAt
  rw [List.getD_eq_getElem?_getD]
  cases e : M[i.toNat]? with
  | none => simp
  | some y => exact h y (List.mem_of_getElem? e)
theorem set_le {k : Nat} {M : List (List Int)} {y : List Int} (h : ∀ x ∈ M, x.length ≤ k) (hy : y.length ≤ k) (i : Nat) : ∀ x ∈ M.set i y, x.length ≤ k := fun x hx => (List.mem_or_eq_of_mem_set hx).elim (h x) (fun e => by rw [e]; exact hy)
theorem FmSz.widen_ok {f : Fm} (h : FmSz f) : FmOk (widenF f) := by
  obtain ⟨p1, p2, p3, p4, p5, p6, p7, p8, p9, p10⟩ := h
  have h7 : ∀ x ∈ f.W, x.length ≤ 1048576 := fun x hx => Nat.le_trans (p7 x hx) (by decide)
  have h8 : ∀ x ∈ f.R, x.length ≤ 1048576 := fun x hx => Nat.le_trans (p8 x hx) (by decide)
  have r0 := rowAt_le p7 0
  have rh := rowAt_le p7 f.h
  unfold widenF FmOk
  split
  · refine ⟨?_, ?_, ?_, set_le h7 ?_ _, h8⟩
    · rw [List.length_set]; omega
    · show f.R.length ≤ _; omega
    · show f.O.length ≤ _; omega
    · simp; omega
  · split
    · refine ⟨?_, ?_, ?_, set_le h7 ?_ _, h8⟩
      · rw [List.length_set]; omega
      · show f.R.length ≤ _; omega
      · show f.O.length ≤ _; omega
      · simp; omega
    · exact ⟨by omega, by omega, by omega, h7, h8⟩
theorem FmSz.wall_ok {f : Fm} (h : FmSz f) (r : R3) (hb : -1 ≤ f.a + r.b ∧ f.a + r.b ≤ 1000) : FmOk (wallF f r) := by
  unfold wallF
  refine FmSz.widen_ok ?_
  obtain ⟨p1, p2, p3, p4, p5, p6, p7, p8, p9, p10⟩ := h
  refine ⟨p1, p2, by rw [List.length_set]; exact p3, p4, p5, p6, set_le p7 ?_ _, p8, hb.1, hb.2⟩
  rw [List.length_set]
  exact rowAt_le p7 _
theorem FmSz.pass_ok {f : Fm} (h : FmSz f) (i : Nat) (side : Int) (w : List Int) (hi : i < f.R.length) (hw : w.length ≤ 1000) (_hs : side = 1 ∨ side = -1) : FmOk (passF f (i : Int) side w) := by
  unfold passF
  refine FmSz.widen_ok ?_
  obtain ⟨p1, p2, p3, p4, p5, p6, p7, p8, p9, p10⟩ := h
  have hl := rowAt_le p7 (i : Int)
  refine ⟨?_, ?_, ?_, ?_, ?_, ?_, p7, set_le p8 hw _, ?_, ?_⟩
  · dsimp only; split <;> omega
  · dsimp only; rw [List.length_set]; split <;> omega
  · dsimp only; rw [List.length_set]; exact p3
  · dsimp only; rw [List.length_set]; exact p4
  · dsimp only; rw [List.length_set]; exact p5
  · dsimp only; rw [List.length_set]; exact p6
  · dsimp only; split <;> omega
  · dsimp only; split <;> omega
theorem FmSz.unroll_ok {f : Fm} (h : FmSz f) (i side : Int) : FmOk (unrollF f i side) := by
  obtain ⟨p1, p2, p3, p4, p5, p6, p7, p8, p9, p10⟩ := h
  have h7 : ∀ x ∈ f.W, x.length ≤ 1048576 := fun x hx => Nat.le_trans (p7 x hx) (by decide)
  have h8 : ∀ x ∈ f.R, x.length ≤ 1048576 := fun x hx => Nat.le_trans (p8 x hx) (by decide)
  have r0 := rowAt_le p7 i
  have r1 := rowAt_le p7 (i + 1)
  have r2 := rowAt_le p8 i
  unfold unrollF FmOk
  split
  · refine ⟨?_, ?_, ?_, set_le h7 ?_ _, h8⟩
    · rw [List.length_set]; omega
    · show f.R.length ≤ _; omega
    · rw [List.length_set]; omega
    · simp; omega
  · refine ⟨?_, ?_, ?_, set_le h7 ?_ _, h8⟩
    · rw [List.length_set]; omega
    · show f.R.length ≤ _; omega
    · rw [List.length_set]; omega
    · simp; omega
theorem onF_wall {sy st : Int} {f : Fm} (h : fmB sy st f = true) (ho : onB f = true) : onF f = (0, 0) := by
  rw [onB_eq h] at ho
  simp only [Bool.not_eq_true', Bool.or_eq_false_iff, decide_eq_false_iff_not] at ho
  unfold onF
  rw [if_neg (by omega), if_neg ho.2]
/-- Where the head is on a repeater. -/
theorem onF_rep {sy st : Int} {f : Fm} (h : fmB sy st f = true) (ho : onB f = false) : ∃ i : Nat, i < f.R.length ∧ ((f.a = -1 ∧ onF f = ((i : Int), -1) ∧ (i : Int) = f.h - 1) ∨ (¬ f.a = -1 ∧ onF f = ((i : Int), 1) ∧ (i : Int) = f.h)) := by
  obtain ⟨p1, p2, p3, p4, p5, p6, p7, p8, p9, p10⟩ := fmB_parts h
  have ho2 := ho
  rw [onB_eq h] at ho
  simp only [Bool.not_eq_false', Bool.or_eq_true, decide_eq_true_eq] at ho
  have hat : atB f = true := by unfold fmB at h; simp only [Bool.and_eq_true] at h; exact h.2
  unfold atB at hat
  unfold onB at ho2
  rw [ho2] at hat
  simp only [Bool.false_or, Bool.or_eq_true, Bool.and_eq_true, decide_eq_true_eq] at hat
  unfold onF
  by_cases ha : f.a = -1
  · have hh : 0 < f.h := by
      rcases hat with h1 | h1
      · omega
      · exact h1.2
    refine ⟨(f.h - 1).toNat, by omega, .inl ⟨ha, ?_, by omega⟩⟩
    rw [if_pos ha, show ((f.h - 1).toNat : Int) = f.h - 1 by omega]
  · have hl : f.a = (rowAt f.W f.h).length := by omega
    have hh : f.h < f.R.length := by
      rcases hat with h1 | h1
      · exact h1.2
      · omega
    refine ⟨f.h.toNat, by omega, .inr ⟨ha, ?_, by omega⟩⟩
    rw [if_neg ha, if_pos hl, show (f.h.toNat : Int) = f.h by omega]
theorem shiftGo_len {sy : Int} {rs : List R3} {q side : Int} : ∀ (n : Nat) (xs : List Int) (at_ now : Int) (out : List Int), shiftGo sy rs q side n xs at_ now = some out → out.length = xs.length
  | 0, _, _, _, _, h => by simp [shiftGo] at h
  | n + 1, xs, at_, now, out, h => by
    simp only [shiftGo] at h
    split at h
    · split at h
      · have := shiftGo_len n _ _ _ _ h
        rw [this, List.length_set]
      · split at h
        · rw [← Option.some.inj h, List.length_set]
        · cases h
    · cases h
theorem shiftP_open {w w' : World} {r : Option (List Int)} {e : Ending} (h : ShiftP w r e w') : ∃ (E : Option Addr) (en ec : Nat) (nn code : Int), e = .returned (.tuple #[.slice E en ec, .int .i64 nn, .int .i64 code]) ∧ Below w.heap.size w w' ∧ ((code = 0 ∧ ∃ out, r = some out ∧ en = out.length ∧ Own w' w.heap.size 2 1 E en ec (ints out)) ∨ (¬ code = 0 ∧ r = none)) := by
  rcases h with ⟨out, A, c, n, h1, h2, h3, h4⟩ | ⟨code, h1, h2, h3, h4⟩
  · exact ⟨A, out.length, c, n, 0, h2, h4, .inl ⟨rfl, out, h1, rfl, h3⟩⟩
  · exact ⟨none, 0, 0, 0, code, h3, h4, .inr ⟨h2, h1⟩⟩
theorem moveF_rep {sy : Int} {rs : List R3} {f : Fm} {i : Nat} (ho : onB f = false) (h : (f.a = -1 ∧ onF f = ((i : Int), -1) ∧ (i : Int) = f.h - 1) ∨ (¬ f.a = -1 ∧ onF f = ((i : Int), 1) ∧ (i : Int) = f.h)) :
    ∃ sd : Int, (sd = 1 ∨ sd = -1) ∧ onF f = ((i : Int), sd) ∧ (∀ w, shiftF sy rs f.q (rowAt f.R (i : Int)) sd = some w → moveF sy rs f = some (passF f (i : Int) sd w, 1)) ∧ (shiftF sy rs f.q (rowAt f.R (i : Int)) sd = none → moveF sy rs f = some (unrollF f (i : Int) sd, 2)) := by
  rcases h with ⟨h1, h2, h3⟩ | ⟨h1, h2, h3⟩
  · refine ⟨-1, .inr rfl, h2, fun w hw => ?_, fun hw => ?_⟩ <;> (unfold moveF; rw [ho]; simp only [if_pos h1, ← h3, hw]; rfl)
  · refine ⟨1, .inl rfl, h2, fun w hw => ?_, fun hw => ?_⟩ <;> (unfold moveF; rw [ho]; simp only [if_neg h1, ← h3, hw]; rfl)
def StepFP (w : World) (lo g : Nat) (r : Fm × Int × Int) (e : Ending) (w' : World) : Prop :=
  ∃ kd ii : Int, e = .returned (.tuple #[.int .i64 kd, .int .i64 ii, .int .i64 r.2.2]) ∧ (r.2.2 = 0 → kd = r.2.1 ∧ FmBox w' lo g r.1) ∧ Below lo w w' ∧ FrF w w'

set_option maxRecDepth 100000 in
set_option maxHeartbeats 8000000 in
theorem fmStep_any (sy st : Int) (A0 : Option Addr) (n0 k0 : Nat) (rs : List R3) (g lo : Nat) (f : Fm) (w : World) (hr : S3 w A0 n0 rs) (hm : machB sy st rs = true) (hF : FmBox w lo g f) (hf : fmB sy st f = true) :
    Calls Try.prog 93 #[.pointer (some ⟨g, 0, none⟩), .agg #[.int .i64 sy, .int .i64 st, .slice A0 n0 k0]] w (StepFP w lo g (nextFm sy st rs f)) := by
  obtain ⟨hsz, hoff, hws, hrs⟩ := fmB_sz hf
  obtain ⟨pq0, pq1⟩ := (fmB_parts hf).2.2.2.2.2.2.2.2
  obtain ⟨s1, s2, s3, s4⟩ := machB_bounds hm
  obtain ⟨res, hres⟩ : ∃ res, res = nextFm sy st rs f := ⟨_, rfl⟩
  rw [← hres]
  have hlw : lo ≤ w.heap.size := by obtain ⟨_, _, _, _, _, _, _, _, hb, _, hl⟩ := hF; have := hb.lt; omega
  have HRES : Hid (res = match moveF sy rs f with | none => (Fm.zero, 0, 6) | some (g, kd) => if fmB sy st g then (g, kd, 0) else (Fm.zero, 0, 5)) := Lib.hid hres
  clear hres
  obtain ⟨W, hW_⟩ : ∃ W, W = w.alloc (.cells #[.int .i64 sy, .int .i64 st, .slice A0 n0 k0] 36) := ⟨_, rfl⟩
  have bM : Blk W w.heap.size 36 #[.int .i64 sy, .int .i64 st, .slice A0 n0 k0] := by rw [hW_]; exact Blk.new w _ _
  have y0 : Below w.heap.size w W := by rw [hW_]; exact (Below.refl _ _).alloc (Nat.le_refl _) _
  have HW := Lib.hid hW_
  clear hW_
  have hFW := hF.below y0
  have frW : FrF w W := FrF.below y0
  have hlW : lo ≤ W.heap.size := Nat.le_trans hlw y0.size
  have HON := Lib.hid (onRepeater_any g lo f W hFW hsz)
  cases ho : onB f
  rotate_left
  · rw [onF_wall hf ho] at HON
    have HSW := Lib.hid (fun (W1 : World) (z : Below W.heap.size W W1) => stepWall_any sy st A0 n0 k0 rs g lo f W1 ((hr.below y0).below z) hm (hFW.below z) hsz pq0 pq1 ho hws)
    have HMV0 : Hid (moveF sy rs f = if isRuleB (hereR sy rs f) then some (wallF f (hereR sy rs f), 0) else none) := Lib.hid (by unfold moveF; rw [if_pos ho]; rfl)
    have HOK0 : Hid (isRuleB (hereR sy rs f) = true → FmOk (wallF f (hereR sy rs f))) := Lib.hid (fun hi => FmSz.wall_ok hsz _ (by
      have hlen := ho
      unfold onB at hlen
      rw [inB_iff] at hlen
      have hx : ∀ x ∈ rowAt f.W f.h, 0 ≤ x ∧ x ≤ sy - 1 := by
        unfold rowAt
        rw [List.getD_eq_getElem?_getD]
        cases e : f.W[f.h.toNat]? with
        | none => simp
        | some y => exact hws y (List.mem_of_getElem? e)
      have hxm : (rowAt f.W f.h).getD f.a.toNat 0 ∈ rowAt f.W f.h := by
        rw [List.getD_eq_getElem?_getD, List.getElem?_eq_getElem (by omega)]
        exact List.getElem_mem _
      obtain ⟨_, _, _, _, _, _, hv⟩ := rule_parts hm pq0 pq1 (hx _ hxm).1 (hx _ hxm).2
      have hv : validRuleB sy st (hereR sy rs f) = true := hv
      unfold validRuleB at hv
      rw [hi] at hv
      simp only [Bool.not_true, Bool.false_or, Bool.and_eq_true, Bool.or_eq_true, beq_iff_eq, inB_iff] at hv
      have hl := rowAt_le hsz.2.2.2.2.2.2.1 f.h
      omega))
    clear hr hm hf hsz hoff hws hrs hF hFW ho
    go_enter Try.func93, Try.ntmps93
    go_upto_region 1 with fail
    rw [← HW.out]
    go_wp2_with fail
    refine HON.out.mono ?_
    rintro e W1 ⟨rfl, z1⟩
    have HSW1 := Lib.hid (HSW.out W1 z1)
    have bM1 := bM.below' z1
    have m0 : W1.cell? ⟨w.heap.size, 0, none⟩ = some (.int .i64 sy) := bM1.cell 0
    have m1 : W1.cell? ⟨w.heap.size, 1, none⟩ = some (.int .i64 st) := bM1.cell 1
    have m2 : W1.cell? ⟨w.heap.size, 2, none⟩ = some (.slice A0 n0 k0) := bM1.cell 2
    clear HSW HON
    go_wp2_with fail
    refine HSW1.out.mono ?_
    rintro e W9 (⟨hy, rfl, hF9, hz91, fr91⟩ | ⟨hn, rfl, z9⟩)
    · have hz9 : Below lo W W9 := (z1.mono hlW).trans hz91
      have fr9 : FrF W W9 := (FrF.below z1).trans fr91
      have HOK := Lib.hid (HOK0.out hy)
      have HMV : Hid (moveF sy rs f = some (wallF f (hereR sy rs f), 0)) := Lib.hid (by rw [HMV0.out, hy]; rfl)
      clear HOK0 HMV0 hy hz91 fr91 m0 m1 m2
      generalize wallF f (hereR sy rs f) = gf at *
      obtain ⟨A', c', ts', B', d', us', C', k', hb', ⟨hO', eW', eR'⟩, hl'⟩ := id hF9
      obtain ⟨q', h', a', FW', FR', os'⟩ := gf
      dsimp only at hb' hO' eW' eR'
      subst eW' eR'
      obtain ⟨ok1, ok2, ok3, ok4, ok5⟩ := HOK.out
      dsimp only at ok1 ok2 ok3 ok4 ok5
      rw [nums_len] at ok1 ok2
      have OK4 : Hid (∀ t ∈ ts', t.xs.length ≤ 1048576) := Lib.hid (fun t ht => ok4 _ (List.mem_map.2 ⟨t, ht, rfl⟩))
      have OK5 : Hid (∀ t ∈ us', t.xs.length ≤ 1048576) := Lib.hid (fun t ht => ok5 _ (List.mem_map.2 ⟨t, ht, rfl⟩))
      have HF9 := Lib.hid hF9
      have HO9 := Lib.hid hO'
      have hM9 : Blk W9 w.heap.size 36 #[.int .i64 sy, .int .i64 st, .slice A0 n0 k0] := fr9 _ _ _ bM (by decide) (by decide) (by decide)
      clear ok4 ok5 hF9 hO'
      have hp : Below W9.heap.size W9 W9.drew := below_drewN (Below.refl _ _) 1
      cases hv : fmB sy st ⟨q', h', a', nums ts', nums us', os'⟩
      · have HN : Hid (res = (Fm.zero, 0, 5)) := Lib.hid (by rw [HRES.out, HMV.out]; dsimp only; rw [hv]; rfl)
        have HV := Lib.hid hv
        clear hv HMV
        go_upto_region 12 with fail
        refine wp_region_noPanic ?_
        refine wp_region_held_drew (S := (fun w' => w'.cell? ⟨w.heap.size, 0, none⟩ = some (.int .i64 sy) ∧ w'.cell? ⟨w.heap.size, 1, none⟩ = some (.int .i64 st) ∧ w'.cell? ⟨w.heap.size, 2, none⟩ = some (.slice A0 n0 k0) ∧ w'.cell? ⟨g, 0, none⟩ = some (.int .i64 q') ∧ w'.cell? ⟨g, 1, none⟩ = some (.int .i64 h') ∧ w'.cell? ⟨g, 2, none⟩ = some (.int .i64 a') ∧ w'.cell? ⟨g, 3, none⟩ = some (.slice A' ts'.length c') ∧ w'.cell? ⟨g, 4, none⟩ = some (.slice B' us'.length d') ∧ w'.cell? ⟨g, 5, none⟩ = some (.slice C' os'.length k'))) (by kernel_rfl) ?_ (fun hHeld => ?_)
        · exact ⟨(hM9.below' hp).cell 0, (hM9.below' hp).cell 1, (hM9.below' hp).cell 2, (hb'.below' hp).cell 0, (hb'.below' hp).cell 1, (hb'.below' hp).cell 2, (hb'.below' hp).cell 3, (hb'.below' hp).cell 4, (hb'.below' hp).cell 5⟩
        generalize W9.drew = Wx at *
        refine wpAnyH_take (i := 0) (v := ?_) rfl (by kernel_rfl) (by kernel_rfl) (by kernel_rfl) (fun _ _ _ h => h) (Or.inl ⟨by rfl, ?_⟩) (by assumption) ?_
        rotate_left
        · intro w hSw
          try dsimp only at hSw
          obtain ⟨hs0_, hs1_, hs2_, hs3_, hs4_, hs5_, hs6_, hs7_, hs8_⟩ := hSw
          go_simp
          try with_reducible rfl
        try simp only [Act.put, List.setIfInBounds_toArray]
        refine wpAnyH_take (i := 1) (v := ?_) rfl (by kernel_rfl) (by kernel_rfl) (by kernel_rfl) (fun _ _ _ h => h) (Or.inl ⟨by rfl, ?_⟩) (by assumption) ?_
        rotate_left
        · intro w hSw
          try dsimp only at hSw
          obtain ⟨hs0_, hs1_, hs2_, hs3_, hs4_, hs5_, hs6_, hs7_, hs8_⟩ := hSw
          go_simp
          try with_reducible rfl
        try simp only [Act.put]
        refine wpAnyH_take (i := 2) (v := ?_) rfl (by kernel_rfl) (by kernel_rfl) (by kernel_rfl) (fun _ _ _ h => h) (Or.inl ⟨by rfl, ?_⟩) (by assumption) ?_
        rotate_left
        · intro w hSw
          try dsimp only at hSw
          obtain ⟨hs0_, hs1_, hs2_, hs3_, hs4_, hs5_, hs6_, hs7_, hs8_⟩ := hSw
          go_simp
          try with_reducible rfl
        try simp only [Act.put]
        refine wpAnyH_take (i := 3) (v := ?_) rfl (by kernel_rfl) (by kernel_rfl) (by kernel_rfl) (fun _ _ _ h => h) (Or.inl ⟨by rfl, ?_⟩) (by assumption) ?_
        rotate_left
        · intro w hSw
          try dsimp only at hSw
          obtain ⟨hs0_, hs1_, hs2_, hs3_, hs4_, hs5_, hs6_, hs7_, hs8_⟩ := hSw
          go_simp
          try with_reducible rfl
        try simp only [Act.put]
        try simp only [List.getElem_toArray, List.getElem_cons_zero, List.getElem_cons_succ, List.setIfInBounds_toArray, List.set_cons_zero, List.set_cons_succ]
        refine wpAnyH_ready (rs := [4]) (by kernel_rfl) (by simp) ?_
        refine AllReadyH.cons rfl (fun K hK => ?_) ?_
        · go_simp
          refine (formulaOf_is HV.out _ (HO9.out.1.sii.below hp) (HO9.out.2.1.sii.below hp) (HO9.out.2.2.1.asI.below hp) ok1 ok2 ok3 OK4.out OK5.out s1 s2 s3 s4).mono ?_
          rintro e W10 ⟨rfl, z10⟩
          have hp3 := hp.trans (z10.mono hp.size)
          refine hK.out _ _ ?_ (fun hHeld => ?_)
          · exact ⟨(hM9.below' hp3).cell 0, (hM9.below' hp3).cell 1, (hM9.below' hp3).cell 2, (hb'.below' hp3).cell 0, (hb'.below' hp3).cell 1, (hb'.below' hp3).cell 2, (hb'.below' hp3).cell 3, (hb'.below' hp3).cell 4, (hb'.below' hp3).cell 5⟩
          clear hK K
          try simp only [Act.put, List.setIfInBounds_toArray, List.set_cons_zero, List.set_cons_succ]
          try simp only [putAll, markAll, dstAt, Act.put, List.getElem_toArray, List.getElem?_toArray, List.getElem_cons_zero, List.getElem_cons_succ, List.getElem?_cons_zero, List.getElem?_cons_succ, Option.bind_some, List.setIfInBounds_toArray, List.set_cons_zero, List.set_cons_succ]
          refine wpAnyH_ready (rs := [5]) (by kernel_rfl) (by simp) ?_
          refine AllReadyH.cons rfl (fun K hK => ?_) ?_
          · go_simp
            refine hK.out _ _ ?_ (fun hHeld => ?_)
            · exact ⟨(hM9.below' hp3).cell 0, (hM9.below' hp3).cell 1, (hM9.below' hp3).cell 2, (hb'.below' hp3).cell 0, (hb'.below' hp3).cell 1, (hb'.below' hp3).cell 2, (hb'.below' hp3).cell 3, (hb'.below' hp3).cell 4, (hb'.below' hp3).cell 5⟩
            clear hK K
            try simp only [Act.put, List.setIfInBounds_toArray, List.set_cons_zero, List.set_cons_succ]
            refine wpAnyH_done (by kernel_rfl) ?_ _
            refine NoPanic.normal ?_
            go_wp2_with fail
            exact bodyPost_ret (v := .tuple #[.int .i64 0, .int .i64 0, .int .i64 5]) (by simp [results, Try.results93, go_sem]) rfl ⟨0, 0, by rw [HN.out], fun hh => by rw [HN.out] at hh; exact absurd hh (by decide), (y0.mono hlw).trans (hz9.trans (hp3.mono (Nat.le_trans hlW hz9.size))), frW.trans (fr9.trans (FrF.below hp3))⟩
          exact AllReadyH.nil
        exact AllReadyH.nil
      · have HN : Hid (res = (⟨q', h', a', nums ts', nums us', os'⟩, 0, 0)) := Lib.hid (by rw [HRES.out, HMV.out]; dsimp only; rw [hv]; rfl)
        have HV := Lib.hid hv
        clear hv HMV
        go_upto_region 12 with fail
        refine wp_region_noPanic ?_
        refine wp_region_held_drew (S := (fun w' => w'.cell? ⟨w.heap.size, 0, none⟩ = some (.int .i64 sy) ∧ w'.cell? ⟨w.heap.size, 1, none⟩ = some (.int .i64 st) ∧ w'.cell? ⟨w.heap.size, 2, none⟩ = some (.slice A0 n0 k0) ∧ w'.cell? ⟨g, 0, none⟩ = some (.int .i64 q') ∧ w'.cell? ⟨g, 1, none⟩ = some (.int .i64 h') ∧ w'.cell? ⟨g, 2, none⟩ = some (.int .i64 a') ∧ w'.cell? ⟨g, 3, none⟩ = some (.slice A' ts'.length c') ∧ w'.cell? ⟨g, 4, none⟩ = some (.slice B' us'.length d') ∧ w'.cell? ⟨g, 5, none⟩ = some (.slice C' os'.length k'))) (by kernel_rfl) ?_ (fun hHeld => ?_)
        · exact ⟨(hM9.below' hp).cell 0, (hM9.below' hp).cell 1, (hM9.below' hp).cell 2, (hb'.below' hp).cell 0, (hb'.below' hp).cell 1, (hb'.below' hp).cell 2, (hb'.below' hp).cell 3, (hb'.below' hp).cell 4, (hb'.below' hp).cell 5⟩
        generalize W9.drew = Wx at *
        refine wpAnyH_take (i := 0) (v := ?_) rfl (by kernel_rfl) (by kernel_rfl) (by kernel_rfl) (fun _ _ _ h => h) (Or.inl ⟨by rfl, ?_⟩) (by assumption) ?_
        rotate_left
        · intro w hSw
          try dsimp only at hSw
          obtain ⟨hs0_, hs1_, hs2_, hs3_, hs4_, hs5_, hs6_, hs7_, hs8_⟩ := hSw
          go_simp
          try with_reducible rfl
        try simp only [Act.put, List.setIfInBounds_toArray]
        refine wpAnyH_take (i := 1) (v := ?_) rfl (by kernel_rfl) (by kernel_rfl) (by kernel_rfl) (fun _ _ _ h => h) (Or.inl ⟨by rfl, ?_⟩) (by assumption) ?_
        rotate_left
        · intro w hSw
          try dsimp only at hSw
          obtain ⟨hs0_, hs1_, hs2_, hs3_, hs4_, hs5_, hs6_, hs7_, hs8_⟩ := hSw
          go_simp
          try with_reducible rfl
        try simp only [Act.put]
        refine wpAnyH_take (i := 2) (v := ?_) rfl (by kernel_rfl) (by kernel_rfl) (by kernel_rfl) (fun _ _ _ h => h) (Or.inl ⟨by rfl, ?_⟩) (by assumption) ?_
        rotate_left
        · intro w hSw
          try dsimp only at hSw
          obtain ⟨hs0_, hs1_, hs2_, hs3_, hs4_, hs5_, hs6_, hs7_, hs8_⟩ := hSw
          go_simp
          try with_reducible rfl
        try simp only [Act.put]
        refine wpAnyH_take (i := 3) (v := ?_) rfl (by kernel_rfl) (by kernel_rfl) (by kernel_rfl) (fun _ _ _ h => h) (Or.inl ⟨by rfl, ?_⟩) (by assumption) ?_
        rotate_left
        · intro w hSw
          try dsimp only at hSw
          obtain ⟨hs0_, hs1_, hs2_, hs3_, hs4_, hs5_, hs6_, hs7_, hs8_⟩ := hSw
          go_simp
          try with_reducible rfl
        try simp only [Act.put]
        try simp only [List.getElem_toArray, List.getElem_cons_zero, List.getElem_cons_succ, List.setIfInBounds_toArray, List.set_cons_zero, List.set_cons_succ]
        refine wpAnyH_ready (rs := [4]) (by kernel_rfl) (by simp) ?_
        refine AllReadyH.cons rfl (fun K hK => ?_) ?_
        · go_simp
          refine (formulaOf_is HV.out _ (HO9.out.1.sii.below hp) (HO9.out.2.1.sii.below hp) (HO9.out.2.2.1.asI.below hp) ok1 ok2 ok3 OK4.out OK5.out s1 s2 s3 s4).mono ?_
          rintro e W10 ⟨rfl, z10⟩
          have hp3 := hp.trans (z10.mono hp.size)
          refine hK.out _ _ ?_ (fun hHeld => ?_)
          · exact ⟨(hM9.below' hp3).cell 0, (hM9.below' hp3).cell 1, (hM9.below' hp3).cell 2, (hb'.below' hp3).cell 0, (hb'.below' hp3).cell 1, (hb'.below' hp3).cell 2, (hb'.below' hp3).cell 3, (hb'.below' hp3).cell 4, (hb'.below' hp3).cell 5⟩
          clear hK K
          try simp only [Act.put, List.setIfInBounds_toArray, List.set_cons_zero, List.set_cons_succ]
          try simp only [putAll, markAll, dstAt, Act.put, List.getElem_toArray, List.getElem?_toArray, List.getElem_cons_zero, List.getElem_cons_succ, List.getElem?_cons_zero, List.getElem?_cons_succ, Option.bind_some, List.setIfInBounds_toArray, List.set_cons_zero, List.set_cons_succ]
          refine wpAnyH_ready (rs := [5]) (by kernel_rfl) (by simp) ?_
          refine AllReadyH.cons rfl (fun K hK => ?_) ?_
          · go_simp
            refine hK.out _ _ ?_ (fun hHeld => ?_)
            · exact ⟨(hM9.below' hp3).cell 0, (hM9.below' hp3).cell 1, (hM9.below' hp3).cell 2, (hb'.below' hp3).cell 0, (hb'.below' hp3).cell 1, (hb'.below' hp3).cell 2, (hb'.below' hp3).cell 3, (hb'.below' hp3).cell 4, (hb'.below' hp3).cell 5⟩
            clear hK K
            try simp only [Act.put, List.setIfInBounds_toArray, List.set_cons_zero, List.set_cons_succ]
            refine wpAnyH_done (by kernel_rfl) ?_ _
            refine NoPanic.normal ?_
            go_wp2_with fail
            exact bodyPost_ret (v := .tuple #[.int .i64 0, .int .i64 0, .int .i64 0]) (by simp [results, Try.results93, go_sem]) rfl ⟨0, 0, by rw [HN.out], fun _ => ⟨by rw [HN.out], by rw [HN.out]; exact HF9.out.below hp3⟩, (y0.mono hlw).trans (hz9.trans (hp3.mono (Nat.le_trans hlW hz9.size))), frW.trans (fr9.trans (FrF.below hp3))⟩
          exact AllReadyH.nil
        exact AllReadyH.nil
    · have HN : Hid (res = (Fm.zero, 0, 6)) := Lib.hid (by rw [HRES.out, HMV0.out, hn]; rfl)
      clear hn HMV0 HOK0
      have hz9 : Below W.heap.size W W9 := z1.trans (z9.mono z1.size)
      go_wp2_with fail
      exact bodyPost_ret (v := .tuple #[.int .i64 0, .int .i64 0, .int .i64 6]) (by simp [results, Try.results93, go_sem]) rfl ⟨0, 0, by rw [HN.out], fun hh => by rw [HN.out] at hh; exact absurd hh (by decide), (y0.trans (hz9.mono y0.size)).mono hlw, frW.trans (FrF.below hz9)⟩
  · obtain ⟨i, hi, hcase⟩ := onF_rep hf ho
    obtain ⟨sd, hsd, hon, hmp, hmu⟩ := moveF_rep (sy := sy) (rs := rs) ho hcase
    rw [hon] at HON
    have hs0 : ¬ sd = 0 := by omega
    have hi3 : i ≤ 2 := by have := hsz.2.2.2.2.2.1; omega
    obtain ⟨A1, c1, ts1, B1, d1, us1, C1, k1, hb1, ⟨hO1, eW1, eR1⟩, hl1⟩ := id hFW
    have hi2 : i < us1.length := by rw [← eR1, nums_len] at hi; exact hi
    obtain ⟨u, bB, offB, hU, hum, rfl, hblB, hcB, hrowB⟩ := hO1.2.1.sii.pick (k := i) hi2
    have hrR : rowAt f.R (i : Int) = u.xs := by rw [← eR1]; exact rowAt_eq hU.out
    rw [hrR] at hmp hmu
    obtain ⟨hu1, hu2, hu3⟩ := hrs u.xs (by rw [← eR1]; exact List.mem_map.2 ⟨u, hum, rfl⟩)
    have HSH := Lib.hid (fun (W1 : World) (z : Below W.heap.size W W1) => shiftOver_any sy st A0 n0 k0 rs f.q u.A u.xs.length u.c u.xs sd W1 ((hr.below y0).below z) (hrowB.below z) hm pq0 pq1 hu3 (by omega) hu1 hsd)
    have HPS := Lib.hid (fun (E : Option Addr) (en ec kk : Nat) (xs : List Int) (W2 : World) (z : Below W.heap.size W W2) (hE : Own W2 kk 2 1 E en ec (ints xs)) (hk : W.heap.size ≤ kk) (hel : en ≤ 1000) => passRepeater_any g lo f i sd E en ec kk xs W W2 hFW hsz hi hsd z hE hk hel)
    have HUN := Lib.hid (fun (W2 : World) (z : Below W.heap.size W W2) => unroll_any g lo f i sd W2 (hFW.below z) hsz hi hsd hoff)
    have HOKP := Lib.hid (fun (xs : List Int) (hx : xs.length ≤ 1000) => FmSz.pass_ok hsz i sd xs hi hx hsd)
    have HOKU := Lib.hid (FmSz.unroll_ok hsz (i : Int) sd)
    have HMP := Lib.hid hmp
    have HMU := Lib.hid hmu
    have HSL : Hid (∀ out, shiftF sy rs f.q u.xs sd = some out → out.length ≤ 20) := Lib.hid (fun out h => by have := shiftGo_len _ _ _ _ _ h; omega)
    have KS : Hid (∀ W', Below W.heap.size W W' → W'.cell? ⟨w.heap.size, 0, none⟩ = some (.int .i64 sy) ∧ W'.cell? ⟨w.heap.size, 1, none⟩ = some (.int .i64 st) ∧ W'.cell? ⟨w.heap.size, 2, none⟩ = some (.slice A0 n0 k0) ∧ W'.cell? ⟨g, 0, none⟩ = some (.int .i64 f.q) ∧ W'.cell? ⟨g, 4, none⟩ = some (.slice (some ⟨bB, offB, none⟩) us1.length d1) ∧ W'.cell? ⟨bB, offB + i, none⟩ = some (.slice u.A u.xs.length u.c)) := Lib.hid (fun W' z => ⟨(bM.below' z).cell 0, (bM.below' z).cell 1, (bM.below' z).cell 2, (hb1.below' z).cell 0, (hb1.below' z).cell 4, (z.cell (p := ⟨bB, offB + i, none⟩) hblB).trans hcB⟩)
    have i1 : (0 : Int) ≤ (i : Int) := by omega
    have i2 : (i : Int) < (us1.length : Int) := by omega
    clear hr hm hf hsz hoff hws hrs hF hFW ho hcase hon hmp hmu hrR hU hum hcB hrowB hO1 eW1 eR1 hb1 hl1 hu3
    go_enter Try.func93, Try.ntmps93
    go_upto_region 1 with fail
    rw [← HW.out]
    go_wp2_with fail
    refine HON.out.mono ?_
    rintro e W1 ⟨rfl, z1⟩
    clear HON
    go_upto_region 6 with fail
    have hp : Below W.heap.size W W1.drew := z1.trans ((below_drewN (Below.refl W1.heap.size W1) 1).mono z1.size)
    refine wp_region_noPanic ?_
    refine wp_region_held_drew (S := (fun w' => w'.cell? ⟨w.heap.size, 0, none⟩ = some (.int .i64 sy) ∧ w'.cell? ⟨w.heap.size, 1, none⟩ = some (.int .i64 st) ∧ w'.cell? ⟨w.heap.size, 2, none⟩ = some (.slice A0 n0 k0) ∧ w'.cell? ⟨g, 0, none⟩ = some (.int .i64 f.q) ∧ w'.cell? ⟨g, 4, none⟩ = some (.slice (some ⟨bB, offB, none⟩) us1.length d1) ∧ w'.cell? ⟨bB, offB + i, none⟩ = some (.slice u.A u.xs.length u.c))) (by kernel_rfl) ?_ (fun hHeld => ?_)
    · exact KS.out _ hp
    generalize W1.drew = Wx at *
    refine wpAnyH_take (i := 0) (v := ?_) rfl (by kernel_rfl) (by kernel_rfl) (by kernel_rfl) (fun _ _ _ h => h) (Or.inl ⟨by rfl, ?_⟩) (by assumption) ?_
    rotate_left
    · intro w hSw
      try dsimp only at hSw
      obtain ⟨hs0_, hs1_, hs2_, hs3_, hs4_, hs5_⟩ := hSw
      go_simp
      try with_reducible rfl
    try simp only [Act.put, List.setIfInBounds_toArray]
    refine wpAnyH_take (i := 1) (v := ?_) rfl (by kernel_rfl) (by kernel_rfl) (by kernel_rfl) (fun _ _ _ h => h) (Or.inl ⟨by rfl, ?_⟩) (by assumption) ?_
    rotate_left
    · intro w hSw
      try dsimp only at hSw
      obtain ⟨hs0_, hs1_, hs2_, hs3_, hs4_, hs5_⟩ := hSw
      go_simp
      try with_reducible rfl
    try simp only [Act.put]
    refine wpAnyH_take (i := 2) (v := ?_) rfl (by kernel_rfl) (by kernel_rfl) (by kernel_rfl) (fun _ _ _ h => h) (Or.inl ⟨by rfl, ?_⟩) (by assumption) ?_
    rotate_left
    · intro w hSw
      try dsimp only at hSw
      obtain ⟨hs0_, hs1_, hs2_, hs3_, hs4_, hs5_⟩ := hSw
      go_simp
      try with_reducible rfl
    try simp only [Act.put]
    refine wpAnyH_take (i := 3) (v := ?_) rfl (by kernel_rfl) (by kernel_rfl) (by kernel_rfl) (fun _ _ _ h => h) (Or.inl ⟨by rfl, ?_⟩) (by assumption) ?_
    rotate_left
    · intro w hSw
      try dsimp only at hSw
      obtain ⟨hs0_, hs1_, hs2_, hs3_, hs4_, hs5_⟩ := hSw
      go_simp
      try with_reducible rfl
    try simp only [Act.put]
    refine wpAnyH_take (i := 4) (v := ?_) rfl (by kernel_rfl) (by kernel_rfl) (by kernel_rfl) (fun _ _ _ h => h) (Or.inl ⟨by rfl, ?_⟩) (by assumption) ?_
    rotate_left
    · intro w hSw
      try dsimp only at hSw
      obtain ⟨hs0_, hs1_, hs2_, hs3_, hs4_, hs5_⟩ := hSw
      go_simp
      try with_reducible rfl
    try simp only [Act.put]
    refine wpAnyH_take (i := 5) (v := ?_) rfl (by kernel_rfl) (by kernel_rfl) (by kernel_rfl) (fun _ _ _ h => h) (Or.inl ⟨by rfl, ?_⟩) (by assumption) ?_
    rotate_left
    · intro w hSw
      try dsimp only at hSw
      obtain ⟨hs0_, hs1_, hs2_, hs3_, hs4_, hs5_⟩ := hSw
      go_simp
      try with_reducible rfl
    try simp only [Act.put]
    refine wpAnyH_take (i := 6) (v := ?_) rfl (by kernel_rfl) (by kernel_rfl) (by kernel_rfl) (fun _ _ _ h => h) (Or.inl ⟨by rfl, ?_⟩) (by assumption) ?_
    rotate_left
    · intro w hSw
      try dsimp only at hSw
      obtain ⟨hs0_, hs1_, hs2_, hs3_, hs4_, hs5_⟩ := hSw
      go_simp
      try with_reducible rfl
    try simp only [Act.put]
    refine wpAnyH_take (i := 7) (v := ?_) rfl (by kernel_rfl) (by kernel_rfl) (by kernel_rfl) (fun _ _ _ h => h) (Or.inl ⟨by rfl, ?_⟩) (by assumption) ?_
    rotate_left
    · intro w hSw
      try dsimp only at hSw
      obtain ⟨hs0_, hs1_, hs2_, hs3_, hs4_, hs5_⟩ := hSw
      go_simp
      try with_reducible rfl
    try simp only [Act.put]
    refine wpAnyH_take (i := 8) (v := ?_) rfl (by kernel_rfl) (by kernel_rfl) (by kernel_rfl) (fun _ _ _ h => h) (Or.inl ⟨by rfl, ?_⟩) (by assumption) ?_
    rotate_left
    · intro w hSw
      try dsimp only at hSw
      obtain ⟨hs0_, hs1_, hs2_, hs3_, hs4_, hs5_⟩ := hSw
      go_simp
      try with_reducible rfl
    try simp only [Act.put]
    refine wpAnyH_take (i := 9) (v := ?_) rfl (by kernel_rfl) (by kernel_rfl) (by kernel_rfl) (fun _ _ _ h => h) (Or.inl ⟨by rfl, ?_⟩) (by assumption) ?_
    rotate_left
    · intro w hSw
      try dsimp only at hSw
      obtain ⟨hs0_, hs1_, hs2_, hs3_, hs4_, hs5_⟩ := hSw
      go_simp
      try with_reducible rfl
    try simp only [Act.put]
    refine wpAnyH_take (i := 10) (v := ?_) rfl (by kernel_rfl) (by kernel_rfl) (by kernel_rfl) (fun _ _ _ h => h) (Or.inl ⟨by rfl, ?_⟩) (by assumption) ?_
    rotate_left
    · intro w hSw
      try dsimp only at hSw
      obtain ⟨hs0_, hs1_, hs2_, hs3_, hs4_, hs5_⟩ := hSw
      go_simp
      try with_reducible rfl
    try simp only [Act.put]
    refine wpAnyH_take (i := 11) (v := ?_) rfl (by kernel_rfl) (by kernel_rfl) (by kernel_rfl) (fun _ _ _ h => h) (Or.inl ⟨by rfl, ?_⟩) (by assumption) ?_
    rotate_left
    · intro w hSw
      try dsimp only at hSw
      obtain ⟨hs0_, hs1_, hs2_, hs3_, hs4_, hs5_⟩ := hSw
      go_simp
      try with_reducible rfl
    try simp only [Act.put]
    refine wpAnyH_take (i := 12) (v := ?_) rfl (by kernel_rfl) (by kernel_rfl) (by kernel_rfl) (fun _ _ _ h => h) (Or.inl ⟨by rfl, ?_⟩) (by assumption) ?_
    rotate_left
    · intro w hSw
      try dsimp only at hSw
      obtain ⟨hs0_, hs1_, hs2_, hs3_, hs4_, hs5_⟩ := hSw
      go_simp
      try with_reducible rfl
    try simp only [Act.put]
    try simp only [List.getElem_toArray, List.getElem_cons_zero, List.getElem_cons_succ, List.setIfInBounds_toArray, List.set_cons_zero, List.set_cons_succ]
    refine wpAnyH_ready (rs := [13]) (by kernel_rfl) (by simp) ?_
    refine AllReadyH.cons rfl (fun K hK => ?_) ?_
    · go_simp
      refine (HSH.out _ hp).mono ?_
      rintro e W2 hS
      obtain ⟨E, en, ec, nn, code, rfl, z2, hcs⟩ := shiftP_open hS
      have HCS := Lib.hid hcs
      have hp2 := hp.trans (z2.mono hp.size)
      clear hS hcs
      refine hK.out _ _ ?_ (fun hHeld => ?_)
      · exact KS.out _ hp2
      clear hK K
      try simp only [Act.put, List.setIfInBounds_toArray, List.set_cons_zero, List.set_cons_succ]
      refine wpAnyH_take (i := 14) (v := ?_) rfl (by kernel_rfl) (by kernel_rfl) (by kernel_rfl) (fun _ _ _ h => h) (Or.inl ⟨by rfl, ?_⟩) (by assumption) ?_
      rotate_left
      · intro w hSw
        try dsimp only at hSw
        obtain ⟨hs0_, hs1_, hs2_, hs3_, hs4_, hs5_⟩ := hSw
        go_simp
        try with_reducible rfl
      try simp only [Act.put, List.setIfInBounds_toArray]
      refine wpAnyH_take (i := 15) (v := ?_) rfl (by kernel_rfl) (by kernel_rfl) (by kernel_rfl) (fun _ _ _ h => h) (Or.inl ⟨by rfl, ?_⟩) (by assumption) ?_
      rotate_left
      · intro w hSw
        try dsimp only at hSw
        obtain ⟨hs0_, hs1_, hs2_, hs3_, hs4_, hs5_⟩ := hSw
        go_simp
        try with_reducible rfl
      try simp only [Act.put]
      refine wpAnyH_take (i := 16) (v := ?_) rfl (by kernel_rfl) (by kernel_rfl) (by kernel_rfl) (fun _ _ _ h => h) (Or.inl ⟨by rfl, ?_⟩) (by assumption) ?_
      rotate_left
      · intro w hSw
        try dsimp only at hSw
        obtain ⟨hs0_, hs1_, hs2_, hs3_, hs4_, hs5_⟩ := hSw
        go_simp
        try with_reducible rfl
      try simp only [Act.put]
      refine wpAnyH_take (i := 17) (v := ?_) rfl (by kernel_rfl) (by kernel_rfl) (by kernel_rfl) (fun _ _ _ h => h) (Or.inl ⟨by rfl, ?_⟩) (by assumption) ?_
      rotate_left
      · intro w hSw
        try dsimp only at hSw
        obtain ⟨hs0_, hs1_, hs2_, hs3_, hs4_, hs5_⟩ := hSw
        go_simp
        try with_reducible rfl
      try simp only [Act.put]
      refine wpAnyH_take (i := 18) (v := ?_) rfl (by kernel_rfl) (by kernel_rfl) (by kernel_rfl) (fun _ _ _ h => h) (Or.inl ⟨by rfl, ?_⟩) (by assumption) ?_
      rotate_left
      · intro w hSw
        try dsimp only at hSw
        obtain ⟨hs0_, hs1_, hs2_, hs3_, hs4_, hs5_⟩ := hSw
        go_simp
        try with_reducible rfl
      try simp only [Act.put]
      refine wpAnyH_take (i := 19) (v := ?_) rfl (by kernel_rfl) (by kernel_rfl) (by kernel_rfl) (fun _ _ _ h => h) (Or.inl ⟨by rfl, ?_⟩) (by assumption) ?_
      rotate_left
      · intro w hSw
        try dsimp only at hSw
        obtain ⟨hs0_, hs1_, hs2_, hs3_, hs4_, hs5_⟩ := hSw
        go_simp
        try with_reducible rfl
      try simp only [Act.put]
      try simp only [List.getElem_toArray, List.getElem_cons_zero, List.getElem_cons_succ, List.setIfInBounds_toArray, List.set_cons_zero, List.set_cons_succ]
      refine wpAnyH_ready (rs := [20]) (by kernel_rfl) (by simp) ?_
      refine AllReadyH.cons rfl (fun K hK => ?_) ?_
      · go_simp
        refine hK.out _ _ ?_ (fun hHeld => ?_)
        · exact KS.out _ hp2
        clear hK K
        try simp only [Act.put, List.setIfInBounds_toArray, List.set_cons_zero, List.set_cons_succ]
        refine wpAnyH_done (by kernel_rfl) ?_ _
        refine NoPanic.normal ?_
        rcases HCS.out with ⟨rfl, out, hso, rfl, oE⟩ | ⟨hne, hno⟩
        · have hol := HSL.out out hso
          have HMV := Lib.hid (HMP.out out hso)
          have HOK := Lib.hid (HOKP.out out (by omega))
          have HPC := Lib.hid (HPS.out E out.length ec _ out W2 hp2 oE hp.size (by omega))
          clear hso oE HCS HPS HUN HOKP HOKU HMP HMU HSL HSH KS
          generalize passF f (i : Int) sd out = gf at *
          go_wp2_with fail
          refine HPC.out.mono ?_
          rintro e W9 ⟨⟨uu, rfl⟩, hF9, hz91, fr91⟩
          have hz9 : Below lo W W9 := (hp2.mono hlW).trans hz91
          have fr9 : FrF W W9 := (FrF.below hp2).trans fr91
          clear HPC hz91 fr91
          obtain ⟨A', c', ts', B', d', us', C', k', hb', ⟨hO', eW', eR'⟩, hl'⟩ := id hF9
          obtain ⟨q', h', a', FW', FR', os'⟩ := gf
          dsimp only at hb' hO' eW' eR'
          subst eW' eR'
          obtain ⟨ok1, ok2, ok3, ok4, ok5⟩ := HOK.out
          dsimp only at ok1 ok2 ok3 ok4 ok5
          rw [nums_len] at ok1 ok2
          have OK4 : Hid (∀ t ∈ ts', t.xs.length ≤ 1048576) := Lib.hid (fun t ht => ok4 _ (List.mem_map.2 ⟨t, ht, rfl⟩))
          have OK5 : Hid (∀ t ∈ us', t.xs.length ≤ 1048576) := Lib.hid (fun t ht => ok5 _ (List.mem_map.2 ⟨t, ht, rfl⟩))
          have HF9 := Lib.hid hF9
          have HO9 := Lib.hid hO'
          have hM9 : Blk W9 w.heap.size 36 #[.int .i64 sy, .int .i64 st, .slice A0 n0 k0] := fr9 _ _ _ bM (by decide) (by decide) (by decide)
          clear ok4 ok5 hF9 hO'
          have hp : Below W9.heap.size W9 W9.drew := below_drewN (Below.refl _ _) 1
          cases hv : fmB sy st ⟨q', h', a', nums ts', nums us', os'⟩
          · have HN : Hid (res = (Fm.zero, 0, 5)) := Lib.hid (by rw [HRES.out, HMV.out]; dsimp only; rw [hv]; rfl)
            have HV := Lib.hid hv
            clear hv HMV
            go_upto_region 12 with fail
            refine wp_region_noPanic ?_
            refine wp_region_held_drew (S := (fun w' => w'.cell? ⟨w.heap.size, 0, none⟩ = some (.int .i64 sy) ∧ w'.cell? ⟨w.heap.size, 1, none⟩ = some (.int .i64 st) ∧ w'.cell? ⟨w.heap.size, 2, none⟩ = some (.slice A0 n0 k0) ∧ w'.cell? ⟨g, 0, none⟩ = some (.int .i64 q') ∧ w'.cell? ⟨g, 1, none⟩ = some (.int .i64 h') ∧ w'.cell? ⟨g, 2, none⟩ = some (.int .i64 a') ∧ w'.cell? ⟨g, 3, none⟩ = some (.slice A' ts'.length c') ∧ w'.cell? ⟨g, 4, none⟩ = some (.slice B' us'.length d') ∧ w'.cell? ⟨g, 5, none⟩ = some (.slice C' os'.length k'))) (by kernel_rfl) ?_ (fun hHeld => ?_)
            · exact ⟨(hM9.below' hp).cell 0, (hM9.below' hp).cell 1, (hM9.below' hp).cell 2, (hb'.below' hp).cell 0, (hb'.below' hp).cell 1, (hb'.below' hp).cell 2, (hb'.below' hp).cell 3, (hb'.below' hp).cell 4, (hb'.below' hp).cell 5⟩
            generalize W9.drew = Wx at *
            refine wpAnyH_take (i := 0) (v := ?_) rfl (by kernel_rfl) (by kernel_rfl) (by kernel_rfl) (fun _ _ _ h => h) (Or.inl ⟨by rfl, ?_⟩) (by assumption) ?_
            rotate_left
            · intro w hSw
              try dsimp only at hSw
              obtain ⟨hs0_, hs1_, hs2_, hs3_, hs4_, hs5_, hs6_, hs7_, hs8_⟩ := hSw
              go_simp
              try with_reducible rfl
            try simp only [Act.put, List.setIfInBounds_toArray]
            refine wpAnyH_take (i := 1) (v := ?_) rfl (by kernel_rfl) (by kernel_rfl) (by kernel_rfl) (fun _ _ _ h => h) (Or.inl ⟨by rfl, ?_⟩) (by assumption) ?_
            rotate_left
            · intro w hSw
              try dsimp only at hSw
              obtain ⟨hs0_, hs1_, hs2_, hs3_, hs4_, hs5_, hs6_, hs7_, hs8_⟩ := hSw
              go_simp
              try with_reducible rfl
            try simp only [Act.put]
            refine wpAnyH_take (i := 2) (v := ?_) rfl (by kernel_rfl) (by kernel_rfl) (by kernel_rfl) (fun _ _ _ h => h) (Or.inl ⟨by rfl, ?_⟩) (by assumption) ?_
            rotate_left
            · intro w hSw
              try dsimp only at hSw
              obtain ⟨hs0_, hs1_, hs2_, hs3_, hs4_, hs5_, hs6_, hs7_, hs8_⟩ := hSw
              go_simp
              try with_reducible rfl
            try simp only [Act.put]
            refine wpAnyH_take (i := 3) (v := ?_) rfl (by kernel_rfl) (by kernel_rfl) (by kernel_rfl) (fun _ _ _ h => h) (Or.inl ⟨by rfl, ?_⟩) (by assumption) ?_
            rotate_left
            · intro w hSw
              try dsimp only at hSw
              obtain ⟨hs0_, hs1_, hs2_, hs3_, hs4_, hs5_, hs6_, hs7_, hs8_⟩ := hSw
              go_simp
              try with_reducible rfl
            try simp only [Act.put]
            try simp only [List.getElem_toArray, List.getElem_cons_zero, List.getElem_cons_succ, List.setIfInBounds_toArray, List.set_cons_zero, List.set_cons_succ]
            refine wpAnyH_ready (rs := [4]) (by kernel_rfl) (by simp) ?_
            refine AllReadyH.cons rfl (fun K hK => ?_) ?_
            · go_simp
              refine (formulaOf_is HV.out _ (HO9.out.1.sii.below hp) (HO9.out.2.1.sii.below hp) (HO9.out.2.2.1.asI.below hp) ok1 ok2 ok3 OK4.out OK5.out s1 s2 s3 s4).mono ?_
              rintro e W10 ⟨rfl, z10⟩
              have hp3 := hp.trans (z10.mono hp.size)
              refine hK.out _ _ ?_ (fun hHeld => ?_)
              · exact ⟨(hM9.below' hp3).cell 0, (hM9.below' hp3).cell 1, (hM9.below' hp3).cell 2, (hb'.below' hp3).cell 0, (hb'.below' hp3).cell 1, (hb'.below' hp3).cell 2, (hb'.below' hp3).cell 3, (hb'.below' hp3).cell 4, (hb'.below' hp3).cell 5⟩
              clear hK K
              try simp only [Act.put, List.setIfInBounds_toArray, List.set_cons_zero, List.set_cons_succ]
              try simp only [putAll, markAll, dstAt, Act.put, List.getElem_toArray, List.getElem?_toArray, List.getElem_cons_zero, List.getElem_cons_succ, List.getElem?_cons_zero, List.getElem?_cons_succ, Option.bind_some, List.setIfInBounds_toArray, List.set_cons_zero, List.set_cons_succ]
              refine wpAnyH_ready (rs := [5]) (by kernel_rfl) (by simp) ?_
              refine AllReadyH.cons rfl (fun K hK => ?_) ?_
              · go_simp
                refine hK.out _ _ ?_ (fun hHeld => ?_)
                · exact ⟨(hM9.below' hp3).cell 0, (hM9.below' hp3).cell 1, (hM9.below' hp3).cell 2, (hb'.below' hp3).cell 0, (hb'.below' hp3).cell 1, (hb'.below' hp3).cell 2, (hb'.below' hp3).cell 3, (hb'.below' hp3).cell 4, (hb'.below' hp3).cell 5⟩
                clear hK K
                try simp only [Act.put, List.setIfInBounds_toArray, List.set_cons_zero, List.set_cons_succ]
                refine wpAnyH_done (by kernel_rfl) ?_ _
                refine NoPanic.normal ?_
                go_wp2_with fail
                exact bodyPost_ret (v := .tuple #[.int .i64 0, .int .i64 0, .int .i64 5]) (by simp [results, Try.results93, go_sem]) rfl ⟨0, 0, by rw [HN.out], fun hh => by rw [HN.out] at hh; exact absurd hh (by decide), (y0.mono hlw).trans (hz9.trans (hp3.mono (Nat.le_trans hlW hz9.size))), frW.trans (fr9.trans (FrF.below hp3))⟩
              exact AllReadyH.nil
            exact AllReadyH.nil
          · have HN : Hid (res = (⟨q', h', a', nums ts', nums us', os'⟩, 1, 0)) := Lib.hid (by rw [HRES.out, HMV.out]; dsimp only; rw [hv]; rfl)
            have HV := Lib.hid hv
            clear hv HMV
            go_upto_region 12 with fail
            refine wp_region_noPanic ?_
            refine wp_region_held_drew (S := (fun w' => w'.cell? ⟨w.heap.size, 0, none⟩ = some (.int .i64 sy) ∧ w'.cell? ⟨w.heap.size, 1, none⟩ = some (.int .i64 st) ∧ w'.cell? ⟨w.heap.size, 2, none⟩ = some (.slice A0 n0 k0) ∧ w'.cell? ⟨g, 0, none⟩ = some (.int .i64 q') ∧ w'.cell? ⟨g, 1, none⟩ = some (.int .i64 h') ∧ w'.cell? ⟨g, 2, none⟩ = some (.int .i64 a') ∧ w'.cell? ⟨g, 3, none⟩ = some (.slice A' ts'.length c') ∧ w'.cell? ⟨g, 4, none⟩ = some (.slice B' us'.length d') ∧ w'.cell? ⟨g, 5, none⟩ = some (.slice C' os'.length k'))) (by kernel_rfl) ?_ (fun hHeld => ?_)
            · exact ⟨(hM9.below' hp).cell 0, (hM9.below' hp).cell 1, (hM9.below' hp).cell 2, (hb'.below' hp).cell 0, (hb'.below' hp).cell 1, (hb'.below' hp).cell 2, (hb'.below' hp).cell 3, (hb'.below' hp).cell 4, (hb'.below' hp).cell 5⟩
            generalize W9.drew = Wx at *
            refine wpAnyH_take (i := 0) (v := ?_) rfl (by kernel_rfl) (by kernel_rfl) (by kernel_rfl) (fun _ _ _ h => h) (Or.inl ⟨by rfl, ?_⟩) (by assumption) ?_
            rotate_left
            · intro w hSw
              try dsimp only at hSw
              obtain ⟨hs0_, hs1_, hs2_, hs3_, hs4_, hs5_, hs6_, hs7_, hs8_⟩ := hSw
              go_simp
              try with_reducible rfl
            try simp only [Act.put, List.setIfInBounds_toArray]
            refine wpAnyH_take (i := 1) (v := ?_) rfl (by kernel_rfl) (by kernel_rfl) (by kernel_rfl) (fun _ _ _ h => h) (Or.inl ⟨by rfl, ?_⟩) (by assumption) ?_
            rotate_left
            · intro w hSw
              try dsimp only at hSw
              obtain ⟨hs0_, hs1_, hs2_, hs3_, hs4_, hs5_, hs6_, hs7_, hs8_⟩ := hSw
              go_simp
              try with_reducible rfl
            try simp only [Act.put]
            refine wpAnyH_take (i := 2) (v := ?_) rfl (by kernel_rfl) (by kernel_rfl) (by kernel_rfl) (fun _ _ _ h => h) (Or.inl ⟨by rfl, ?_⟩) (by assumption) ?_
            rotate_left
            · intro w hSw
              try dsimp only at hSw
              obtain ⟨hs0_, hs1_, hs2_, hs3_, hs4_, hs5_, hs6_, hs7_, hs8_⟩ := hSw
              go_simp
              try with_reducible rfl
            try simp only [Act.put]
            refine wpAnyH_take (i := 3) (v := ?_) rfl (by kernel_rfl) (by kernel_rfl) (by kernel_rfl) (fun _ _ _ h => h) (Or.inl ⟨by rfl, ?_⟩) (by assumption) ?_
            rotate_left
            · intro w hSw
              try dsimp only at hSw
              obtain ⟨hs0_, hs1_, hs2_, hs3_, hs4_, hs5_, hs6_, hs7_, hs8_⟩ := hSw
              go_simp
              try with_reducible rfl
            try simp only [Act.put]
            try simp only [List.getElem_toArray, List.getElem_cons_zero, List.getElem_cons_succ, List.setIfInBounds_toArray, List.set_cons_zero, List.set_cons_succ]
            refine wpAnyH_ready (rs := [4]) (by kernel_rfl) (by simp) ?_
            refine AllReadyH.cons rfl (fun K hK => ?_) ?_
            · go_simp
              refine (formulaOf_is HV.out _ (HO9.out.1.sii.below hp) (HO9.out.2.1.sii.below hp) (HO9.out.2.2.1.asI.below hp) ok1 ok2 ok3 OK4.out OK5.out s1 s2 s3 s4).mono ?_
              rintro e W10 ⟨rfl, z10⟩
              have hp3 := hp.trans (z10.mono hp.size)
              refine hK.out _ _ ?_ (fun hHeld => ?_)
              · exact ⟨(hM9.below' hp3).cell 0, (hM9.below' hp3).cell 1, (hM9.below' hp3).cell 2, (hb'.below' hp3).cell 0, (hb'.below' hp3).cell 1, (hb'.below' hp3).cell 2, (hb'.below' hp3).cell 3, (hb'.below' hp3).cell 4, (hb'.below' hp3).cell 5⟩
              clear hK K
              try simp only [Act.put, List.setIfInBounds_toArray, List.set_cons_zero, List.set_cons_succ]
              try simp only [putAll, markAll, dstAt, Act.put, List.getElem_toArray, List.getElem?_toArray, List.getElem_cons_zero, List.getElem_cons_succ, List.getElem?_cons_zero, List.getElem?_cons_succ, Option.bind_some, List.setIfInBounds_toArray, List.set_cons_zero, List.set_cons_succ]
              refine wpAnyH_ready (rs := [5]) (by kernel_rfl) (by simp) ?_
              refine AllReadyH.cons rfl (fun K hK => ?_) ?_
              · go_simp
                refine hK.out _ _ ?_ (fun hHeld => ?_)
                · exact ⟨(hM9.below' hp3).cell 0, (hM9.below' hp3).cell 1, (hM9.below' hp3).cell 2, (hb'.below' hp3).cell 0, (hb'.below' hp3).cell 1, (hb'.below' hp3).cell 2, (hb'.below' hp3).cell 3, (hb'.below' hp3).cell 4, (hb'.below' hp3).cell 5⟩
                clear hK K
                try simp only [Act.put, List.setIfInBounds_toArray, List.set_cons_zero, List.set_cons_succ]
                refine wpAnyH_done (by kernel_rfl) ?_ _
                refine NoPanic.normal ?_
                go_wp2_with fail
                exact bodyPost_ret (v := .tuple #[.int .i64 1, .int .i64 (i : Int), .int .i64 0]) (by simp [results, Try.results93, go_sem]) rfl ⟨1, (i : Int), by rw [HN.out], fun _ => ⟨by rw [HN.out], by rw [HN.out]; exact HF9.out.below hp3⟩, (y0.mono hlw).trans (hz9.trans (hp3.mono (Nat.le_trans hlW hz9.size))), frW.trans (fr9.trans (FrF.below hp3))⟩
              exact AllReadyH.nil
            exact AllReadyH.nil
        · have HMV := Lib.hid (HMU.out hno)
          have HOK := HOKU
          have HPC := Lib.hid (HUN.out W2 hp2)
          clear hno HCS HPS HUN HOKP HOKU HMP HMU HSL HSH KS
          generalize unrollF f (i : Int) sd = gf at *
          go_wp2_with fail
          refine HPC.out.mono ?_
          rintro e W9 ⟨⟨uu, rfl⟩, hF9, hz91, fr91⟩
          have hz9 : Below lo W W9 := (hp2.mono hlW).trans hz91
          have fr9 : FrF W W9 := (FrF.below hp2).trans fr91
          clear HPC hz91 fr91
          obtain ⟨A', c', ts', B', d', us', C', k', hb', ⟨hO', eW', eR'⟩, hl'⟩ := id hF9
          obtain ⟨q', h', a', FW', FR', os'⟩ := gf
          dsimp only at hb' hO' eW' eR'
          subst eW' eR'
          obtain ⟨ok1, ok2, ok3, ok4, ok5⟩ := HOK.out
          dsimp only at ok1 ok2 ok3 ok4 ok5
          rw [nums_len] at ok1 ok2
          have OK4 : Hid (∀ t ∈ ts', t.xs.length ≤ 1048576) := Lib.hid (fun t ht => ok4 _ (List.mem_map.2 ⟨t, ht, rfl⟩))
          have OK5 : Hid (∀ t ∈ us', t.xs.length ≤ 1048576) := Lib.hid (fun t ht => ok5 _ (List.mem_map.2 ⟨t, ht, rfl⟩))
          have HF9 := Lib.hid hF9
          have HO9 := Lib.hid hO'
          have hM9 : Blk W9 w.heap.size 36 #[.int .i64 sy, .int .i64 st, .slice A0 n0 k0] := fr9 _ _ _ bM (by decide) (by decide) (by decide)
          clear ok4 ok5 hF9 hO'
          have hp : Below W9.heap.size W9 W9.drew := below_drewN (Below.refl _ _) 1
          cases hv : fmB sy st ⟨q', h', a', nums ts', nums us', os'⟩
          · have HN : Hid (res = (Fm.zero, 0, 5)) := Lib.hid (by rw [HRES.out, HMV.out]; dsimp only; rw [hv]; rfl)
            have HV := Lib.hid hv
            clear hv HMV
            go_upto_region 12 with fail
            refine wp_region_noPanic ?_
            refine wp_region_held_drew (S := (fun w' => w'.cell? ⟨w.heap.size, 0, none⟩ = some (.int .i64 sy) ∧ w'.cell? ⟨w.heap.size, 1, none⟩ = some (.int .i64 st) ∧ w'.cell? ⟨w.heap.size, 2, none⟩ = some (.slice A0 n0 k0) ∧ w'.cell? ⟨g, 0, none⟩ = some (.int .i64 q') ∧ w'.cell? ⟨g, 1, none⟩ = some (.int .i64 h') ∧ w'.cell? ⟨g, 2, none⟩ = some (.int .i64 a') ∧ w'.cell? ⟨g, 3, none⟩ = some (.slice A' ts'.length c') ∧ w'.cell? ⟨g, 4, none⟩ = some (.slice B' us'.length d') ∧ w'.cell? ⟨g, 5, none⟩ = some (.slice C' os'.length k'))) (by kernel_rfl) ?_ (fun hHeld => ?_)
            · exact ⟨(hM9.below' hp).cell 0, (hM9.below' hp).cell 1, (hM9.below' hp).cell 2, (hb'.below' hp).cell 0, (hb'.below' hp).cell 1, (hb'.below' hp).cell 2, (hb'.below' hp).cell 3, (hb'.below' hp).cell 4, (hb'.below' hp).cell 5⟩
            generalize W9.drew = Wx at *
            refine wpAnyH_take (i := 0) (v := ?_) rfl (by kernel_rfl) (by kernel_rfl) (by kernel_rfl) (fun _ _ _ h => h) (Or.inl ⟨by rfl, ?_⟩) (by assumption) ?_
            rotate_left
            · intro w hSw
              try dsimp only at hSw
              obtain ⟨hs0_, hs1_, hs2_, hs3_, hs4_, hs5_, hs6_, hs7_, hs8_⟩ := hSw
              go_simp
              try with_reducible rfl
            try simp only [Act.put, List.setIfInBounds_toArray]
            refine wpAnyH_take (i := 1) (v := ?_) rfl (by kernel_rfl) (by kernel_rfl) (by kernel_rfl) (fun _ _ _ h => h) (Or.inl ⟨by rfl, ?_⟩) (by assumption) ?_
            rotate_left
            · intro w hSw
              try dsimp only at hSw
              obtain ⟨hs0_, hs1_, hs2_, hs3_, hs4_, hs5_, hs6_, hs7_, hs8_⟩ := hSw
              go_simp
              try with_reducible rfl
            try simp only [Act.put]
            refine wpAnyH_take (i := 2) (v := ?_) rfl (by kernel_rfl) (by kernel_rfl) (by kernel_rfl) (fun _ _ _ h => h) (Or.inl ⟨by rfl, ?_⟩) (by assumption) ?_
            rotate_left
            · intro w hSw
              try dsimp only at hSw
              obtain ⟨hs0_, hs1_, hs2_, hs3_, hs4_, hs5_, hs6_, hs7_, hs8_⟩ := hSw
              go_simp
              try with_reducible rfl
            try simp only [Act.put]
            refine wpAnyH_take (i := 3) (v := ?_) rfl (by kernel_rfl) (by kernel_rfl) (by kernel_rfl) (fun _ _ _ h => h) (Or.inl ⟨by rfl, ?_⟩) (by assumption) ?_
            rotate_left
            · intro w hSw
              try dsimp only at hSw
              obtain ⟨hs0_, hs1_, hs2_, hs3_, hs4_, hs5_, hs6_, hs7_, hs8_⟩ := hSw
              go_simp
              try with_reducible rfl
            try simp only [Act.put]
            try simp only [List.getElem_toArray, List.getElem_cons_zero, List.getElem_cons_succ, List.setIfInBounds_toArray, List.set_cons_zero, List.set_cons_succ]
            refine wpAnyH_ready (rs := [4]) (by kernel_rfl) (by simp) ?_
            refine AllReadyH.cons rfl (fun K hK => ?_) ?_
            · go_simp
              refine (formulaOf_is HV.out _ (HO9.out.1.sii.below hp) (HO9.out.2.1.sii.below hp) (HO9.out.2.2.1.asI.below hp) ok1 ok2 ok3 OK4.out OK5.out s1 s2 s3 s4).mono ?_
              rintro e W10 ⟨rfl, z10⟩
              have hp3 := hp.trans (z10.mono hp.size)
              refine hK.out _ _ ?_ (fun hHeld => ?_)
              · exact ⟨(hM9.below' hp3).cell 0, (hM9.below' hp3).cell 1, (hM9.below' hp3).cell 2, (hb'.below' hp3).cell 0, (hb'.below' hp3).cell 1, (hb'.below' hp3).cell 2, (hb'.below' hp3).cell 3, (hb'.below' hp3).cell 4, (hb'.below' hp3).cell 5⟩
              clear hK K
              try simp only [Act.put, List.setIfInBounds_toArray, List.set_cons_zero, List.set_cons_succ]
              try simp only [putAll, markAll, dstAt, Act.put, List.getElem_toArray, List.getElem?_toArray, List.getElem_cons_zero, List.getElem_cons_succ, List.getElem?_cons_zero, List.getElem?_cons_succ, Option.bind_some, List.setIfInBounds_toArray, List.set_cons_zero, List.set_cons_succ]
              refine wpAnyH_ready (rs := [5]) (by kernel_rfl) (by simp) ?_
              refine AllReadyH.cons rfl (fun K hK => ?_) ?_
              · go_simp
                refine hK.out _ _ ?_ (fun hHeld => ?_)
                · exact ⟨(hM9.below' hp3).cell 0, (hM9.below' hp3).cell 1, (hM9.below' hp3).cell 2, (hb'.below' hp3).cell 0, (hb'.below' hp3).cell 1, (hb'.below' hp3).cell 2, (hb'.below' hp3).cell 3, (hb'.below' hp3).cell 4, (hb'.below' hp3).cell 5⟩
                clear hK K
                try simp only [Act.put, List.setIfInBounds_toArray, List.set_cons_zero, List.set_cons_succ]
                refine wpAnyH_done (by kernel_rfl) ?_ _
                refine NoPanic.normal ?_
                go_wp2_with fail
                exact bodyPost_ret (v := .tuple #[.int .i64 0, .int .i64 0, .int .i64 5]) (by simp [results, Try.results93, go_sem]) rfl ⟨0, 0, by rw [HN.out], fun hh => by rw [HN.out] at hh; exact absurd hh (by decide), (y0.mono hlw).trans (hz9.trans (hp3.mono (Nat.le_trans hlW hz9.size))), frW.trans (fr9.trans (FrF.below hp3))⟩
              exact AllReadyH.nil
            exact AllReadyH.nil
          · have HN : Hid (res = (⟨q', h', a', nums ts', nums us', os'⟩, 2, 0)) := Lib.hid (by rw [HRES.out, HMV.out]; dsimp only; rw [hv]; rfl)
            have HV := Lib.hid hv
            clear hv HMV
            go_upto_region 12 with fail
            refine wp_region_noPanic ?_
            refine wp_region_held_drew (S := (fun w' => w'.cell? ⟨w.heap.size, 0, none⟩ = some (.int .i64 sy) ∧ w'.cell? ⟨w.heap.size, 1, none⟩ = some (.int .i64 st) ∧ w'.cell? ⟨w.heap.size, 2, none⟩ = some (.slice A0 n0 k0) ∧ w'.cell? ⟨g, 0, none⟩ = some (.int .i64 q') ∧ w'.cell? ⟨g, 1, none⟩ = some (.int .i64 h') ∧ w'.cell? ⟨g, 2, none⟩ = some (.int .i64 a') ∧ w'.cell? ⟨g, 3, none⟩ = some (.slice A' ts'.length c') ∧ w'.cell? ⟨g, 4, none⟩ = some (.slice B' us'.length d') ∧ w'.cell? ⟨g, 5, none⟩ = some (.slice C' os'.length k'))) (by kernel_rfl) ?_ (fun hHeld => ?_)
            · exact ⟨(hM9.below' hp).cell 0, (hM9.below' hp).cell 1, (hM9.below' hp).cell 2, (hb'.below' hp).cell 0, (hb'.below' hp).cell 1, (hb'.below' hp).cell 2, (hb'.below' hp).cell 3, (hb'.below' hp).cell 4, (hb'.below' hp).cell 5⟩
            generalize W9.drew = Wx at *
            refine wpAnyH_take (i := 0) (v := ?_) rfl (by kernel_rfl) (by kernel_rfl) (by kernel_rfl) (fun _ _ _ h => h) (Or.inl ⟨by rfl, ?_⟩) (by assumption) ?_
            rotate_left
            · intro w hSw
              try dsimp only at hSw
              obtain ⟨hs0_, hs1_, hs2_, hs3_, hs4_, hs5_, hs6_, hs7_, hs8_⟩ := hSw
              go_simp
              try with_reducible rfl
            try simp only [Act.put, List.setIfInBounds_toArray]
            refine wpAnyH_take (i := 1) (v := ?_) rfl (by kernel_rfl) (by kernel_rfl) (by kernel_rfl) (fun _ _ _ h => h) (Or.inl ⟨by rfl, ?_⟩) (by assumption) ?_
            rotate_left
            · intro w hSw
              try dsimp only at hSw
              obtain ⟨hs0_, hs1_, hs2_, hs3_, hs4_, hs5_, hs6_, hs7_, hs8_⟩ := hSw
              go_simp
              try with_reducible rfl
            try simp only [Act.put]
            refine wpAnyH_take (i := 2) (v := ?_) rfl (by kernel_rfl) (by kernel_rfl) (by kernel_rfl) (fun _ _ _ h => h) (Or.inl ⟨by rfl, ?_⟩) (by assumption) ?_
            rotate_left
            · intro w hSw
              try dsimp only at hSw
              obtain ⟨hs0_, hs1_, hs2_, hs3_, hs4_, hs5_, hs6_, hs7_, hs8_⟩ := hSw
              go_simp
              try with_reducible rfl
            try simp only [Act.put]
            refine wpAnyH_take (i := 3) (v := ?_) rfl (by kernel_rfl) (by kernel_rfl) (by kernel_rfl) (fun _ _ _ h => h) (Or.inl ⟨by rfl, ?_⟩) (by assumption) ?_
            rotate_left
            · intro w hSw
              try dsimp only at hSw
              obtain ⟨hs0_, hs1_, hs2_, hs3_, hs4_, hs5_, hs6_, hs7_, hs8_⟩ := hSw
              go_simp
              try with_reducible rfl
            try simp only [Act.put]
            try simp only [List.getElem_toArray, List.getElem_cons_zero, List.getElem_cons_succ, List.setIfInBounds_toArray, List.set_cons_zero, List.set_cons_succ]
            refine wpAnyH_ready (rs := [4]) (by kernel_rfl) (by simp) ?_
            refine AllReadyH.cons rfl (fun K hK => ?_) ?_
            · go_simp
              refine (formulaOf_is HV.out _ (HO9.out.1.sii.below hp) (HO9.out.2.1.sii.below hp) (HO9.out.2.2.1.asI.below hp) ok1 ok2 ok3 OK4.out OK5.out s1 s2 s3 s4).mono ?_
              rintro e W10 ⟨rfl, z10⟩
              have hp3 := hp.trans (z10.mono hp.size)
              refine hK.out _ _ ?_ (fun hHeld => ?_)
              · exact ⟨(hM9.below' hp3).cell 0, (hM9.below' hp3).cell 1, (hM9.below' hp3).cell 2, (hb'.below' hp3).cell 0, (hb'.below' hp3).cell 1, (hb'.below' hp3).cell 2, (hb'.below' hp3).cell 3, (hb'.below' hp3).cell 4, (hb'.below' hp3).cell 5⟩
              clear hK K
              try simp only [Act.put, List.setIfInBounds_toArray, List.set_cons_zero, List.set_cons_succ]
              try simp only [putAll, markAll, dstAt, Act.put, List.getElem_toArray, List.getElem?_toArray, List.getElem_cons_zero, List.getElem_cons_succ, List.getElem?_cons_zero, List.getElem?_cons_succ, Option.bind_some, List.setIfInBounds_toArray, List.set_cons_zero, List.set_cons_succ]
              refine wpAnyH_ready (rs := [5]) (by kernel_rfl) (by simp) ?_
              refine AllReadyH.cons rfl (fun K hK => ?_) ?_
              · go_simp
                refine hK.out _ _ ?_ (fun hHeld => ?_)
                · exact ⟨(hM9.below' hp3).cell 0, (hM9.below' hp3).cell 1, (hM9.below' hp3).cell 2, (hb'.below' hp3).cell 0, (hb'.below' hp3).cell 1, (hb'.below' hp3).cell 2, (hb'.below' hp3).cell 3, (hb'.below' hp3).cell 4, (hb'.below' hp3).cell 5⟩
                clear hK K
                try simp only [Act.put, List.setIfInBounds_toArray, List.set_cons_zero, List.set_cons_succ]
                refine wpAnyH_done (by kernel_rfl) ?_ _
                refine NoPanic.normal ?_
                go_wp2_with fail
                exact bodyPost_ret (v := .tuple #[.int .i64 2, .int .i64 (i : Int), .int .i64 0]) (by simp [results, Try.results93, go_sem]) rfl ⟨2, (i : Int), by rw [HN.out], fun _ => ⟨by rw [HN.out], by rw [HN.out]; exact HF9.out.below hp3⟩, (y0.mono hlw).trans (hz9.trans (hp3.mono (Nat.le_trans hlW hz9.size))), frW.trans (fr9.trans (FrF.below hp3))⟩
              exact AllReadyH.nil
            exact AllReadyH.nil
      exact AllReadyH.nil
    exact AllReadyH.nil
end Go.Proofs.Ytbpofkggoolmpaa
