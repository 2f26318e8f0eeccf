/-
  The partial configurations at which a machine halts (the reference's l26Halting).
-/
import Derived.Test.YtokglpdlhacnaaaDoorPbBackAll1
import Derived.Test.YtokglpdlhacnaaaDoorPbBackAll2
import Derived.Test.YtokglpdlhacnaaaDoorPbBackAll7
import Derived.Test.YtokglpdlhacnaaaDoorPbBackAll8
import Derived.Test.YtokglpdlhacnaaaDoorPbBackAll9
namespace Go.Proofs.YtokglpdlhacnaaaDoor
open Go.RowKit

/-- What the first rules give. -/
def hpTo (sy : Int) (rs : List R3) (j : Nat) : List Pa := (freeTo rs j).map fun k => ⟨k / sy, 0, [k % sy]⟩
theorem hpTo_len {sy : Int} {rs : List R3} {j : Nat} : (hpTo sy rs j).length ≤ j := by unfold hpTo; rw [List.length_map]; exact freeTo_len _ _
theorem hpTo_no {sy : Int} {rs : List R3} {j : Nat} {r : R3} (h : rs[j]? = some r) (hr : isRuleB r = true) : hpTo sy rs (j + 1) = hpTo sy rs j := by unfold hpTo; rw [freeTo_no h hr]
theorem hpTo_yes {sy : Int} {rs : List R3} {j : Nat} {r : R3} (h : rs[j]? = some r) (hr : isRuleB r = false) : hpTo sy rs (j + 1) = hpTo sy rs j ++ [⟨(j : Int) / sy, 0, [(j : Int) % sy]⟩] := by unfold hpTo; rw [freeTo_yes h hr, List.map_append]; rfl
/-- A slice of partial configurations in new memory. -/
def NewPS (w : World) (l : List Pa) (e : Ending) (w' : World) : Prop :=
  ∃ A c ts, e = .returned (.slice A ts.length c) ∧ OPs w' w.heap.size A ts.length c ts ∧ pas ts = l ∧ Below w.heap.size w w'
set_option maxRecDepth 100000 in
set_option maxHeartbeats 8000000 in
theorem l26Halting_any (g : Nat) (sy st : Int) (B : Option Addr) (m k : Nat) (rs : List R3) (w : World) (hM : MachAt w g sy st B m k) (hr : S3 w B m rs) (hm : machB sy st rs = true) :
    Calls Tryd.prog 62 #[.pointer (some ⟨g, 0, none⟩)] w (NewPS w (hpF sy rs)) := by
  obtain ⟨p1, p2, p3, p4, p5, _⟩ := machB_parts hm
  have HRL := Lib.hid hr.len
  have hml : m ≤ 6000 := by have h5 : st * sy ≤ 1000 * 6 := Int.mul_le_mul p4 p2 (by omega) (by omega); have := HRL.out; omega
  clear p3 p4 p5
  obtain ⟨W1, hW_⟩ : ∃ W_, W_ = w.alloc (.cells #[] 58) := ⟨_, rfl⟩
  have c1 : Blk W1 w.heap.size 58 #[] := by rw [hW_]; exact Blk.new w _ _
  have z1 : Below w.heap.size w W1 := by rw [hW_]; exact (Below.refl _ _).alloc (Nat.le_refl _) _
  have HW1 := Lib.hid hW_
  clear hW_
  have o1 : OPs W1 w.heap.size (some ⟨w.heap.size, 0, none⟩) ([] : List Pm).length 0 [] := OPs.nil (by rw [HW1.out]; exact Own.lit0 w _ 3)
  have HMA := Lib.hid hM
  have HR := Lib.hid hr
  have HM := Lib.hid hm
  have HZ1 := Lib.hid z1
  clear hM hr hm c1 z1
  go_enter Tryd.func62, Tryd.ntmps62
  go_upto_region 2 with fail
  rw [← HW1.out]
  clear HW1
  go_wp2_with fail
  go_loopw [3, 4] (fun v i wr => ∃ (j : Nat) (A' : Option Addr) (c' : Nat) (ts : List Pm), j ≤ m ∧ i = .int .i64 (j : Int) ∧ v = .slice A' ts.length c' ∧ OPs wr w.heap.size A' ts.length c' ts ∧ Hid (pas ts = hpTo sy rs j) ∧ Hid (Below w.heap.size w wr)) (fun _ i _ => m - (intOf i).toNat)
  case atStart => exact ⟨0, _, 0, [], by omega, rfl, rfl, o1, Lib.hid rfl, HZ1⟩
  case round =>
    obtain ⟨j, A', c', ts, hj, rfl, rfl, hO, HP, HZ⟩ := hrel
    rename World => W0
    clear o1 HZ1
    have HTL : Hid (ts.length ≤ 6000) := Lib.hid (by have h1 := congrArg List.length HP.out; have h2 := hpTo_len (sy := sy) (rs := rs) (j := j); simp [pas] at h1; omega)
    obtain ⟨m0, m1, m2⟩ := HMA.out.below HZ.out
    by_cases hlt : j < m
    rotate_left
    · have i1 : ¬ (j : Int) < (m : Int) := by omega
      have HPE : Hid (pas ts = hpF sy rs) := Lib.hid (by rw [HP.out, show j = rs.length by rw [HRL.out]; omega]; rfl)
      go_wp2_with fail
      go_ret
      exact ⟨A', c', ts, rfl, hO, HPE.out, HZ.out⟩
    obtain ⟨r, b, off, hrj, hrm, rfl, _, r0, r1, r2⟩ := (HR.out.below HZ.out).pick hlt
    have hmv := rule_move HM.out hrm
    have i0 : (0 : Int) ≤ (j : Int) := by omega
    have i1 : (j : Int) < (m : Int) := by omega
    have k0 := cell_regrown m2
    have k1 := cell_regrown r0
    have k2 := cell_regrown r1
    have k3 := cell_regrown r2
    cases hR : isRuleB r with
    | true =>
      have hd := hmv hR
      have d0 : (r.b == 0) = false := by rw [beq_eq_false_iff_ne]; omega
      have HP2 : Hid (pas ts = hpTo sy rs (j + 1)) := Lib.hid (by rw [hpTo_no hrj.out hR]; exact HP.out)
      clear hR hmv hd
      go_upto_region 5 with fail
      refine wp_region_quiet_below (by kernel_rfl) (by kernel_rfl) ?_
      repeat (go_big_quiet_step ((go_at_call 93; exact Calls.regrown_of (l05None_any _))))
      refine wpQuiet_nil ?_
      intro _ hw'
      obtain ⟨⟨dq, osq⟩, hw''⟩ := hw'
      subst hw''
      have z2 := below_regrown W0 dq osq
      clear k0 k1 k2 k3
      generalize Go.Sort.grow (redrawn W0 dq) osq = W2 at *
      have HZ2 := Lib.hid (HZ.out.trans (z2.mono HZ.out.size))
      have hO2 := hO.below z2
      clear z2 hO
      go_wp2_with fail
      go_roundw
      case rel => exact ⟨j + 1, A', c', ts, by omega, by go_num, rfl, hO2, HP2, HZ2⟩
      case measure => simp [intOf]; omega
    | false =>
      have hz : r.a = 0 ∧ r.b = 0 ∧ r.c = -1 := by
        obtain ⟨ra, rb, rc⟩ := r
        unfold isRuleB at hR
        simpa using hR
      obtain ⟨hz0, hz1, hz2⟩ := hz
      rw [hz0] at r0 k1
      rw [hz1] at r1 k2
      rw [hz2] at r2 k3
      obtain ⟨D, hD⟩ : ∃ D : Int, D = (j : Int) / sy := ⟨_, rfl⟩
      obtain ⟨R, hR2⟩ : ∃ R : Int, R = (j : Int) % sy := ⟨_, rfl⟩
      have hD0 : 0 ≤ D ∧ D ≤ 6000 := by rw [hD]; exact ⟨Int.ediv_nonneg (by omega) (by omega), Int.ediv_le_of_le_mul (by omega) (by omega)⟩
      have HPX : Hid (pas (ts ++ [(⟨D, 0, some ⟨0, 0, none⟩, 1, [R]⟩ : Pm)]) = hpTo sy rs (j + 1)) := Lib.hid (by rw [hpTo_yes hrj.out hR, ← HP.out, hD, hR2]; simp [pas, Pm.pa])
      have HPX' : Hid (∀ ad, pas (ts ++ [(⟨D, 0, ad, 1, [R]⟩ : Pm)]) = hpTo sy rs (j + 1)) := Lib.hid (fun ad => by rw [← HPX.out]; simp [pas, Pm.pa])
      clear hR hmv hz0 hz1 hz2 HPX
      go_upto_region 5 with fail
      refine wp_region_quiet_below (by kernel_rfl) (by kernel_rfl) ?_
      repeat (go_big_quiet_step ((go_at_call 93; exact Calls.regrown_of (l05None_any _))))
      refine wpQuiet_nil ?_
      intro _ hw'
      obtain ⟨⟨dq, osq⟩, hw''⟩ := hw'
      subst hw''
      have z2 := below_regrown W0 dq osq
      clear k0 k1 k2 k3
      generalize Go.Sort.grow (redrawn W0 dq) osq = W2 at *
      have HZ2 := Lib.hid (HZ.out.trans (z2.mono HZ.out.size))
      have hO2 := hO.below z2
      have HCELL : Hid (∀ W', Below w.heap.size w W' → W'.cell? ⟨g, 0, none⟩ = some (.int .i64 sy)) := Lib.hid (fun W' h => (HMA.out.below h).1)
      have s0 : ¬ sy = 0 := by omega
      have q1 : (j : Int).tdiv sy = D := by rw [hD]; exact Int.tdiv_eq_ediv_of_nonneg (by omega)
      have q2 : (j : Int).tmod sy = R := by rw [hR2]; exact Int.tmod_eq_emod_of_nonneg (by omega)
      have q5 : IntKind.i64.wrap D = D := IntWalk.i64_in _ (by omega)
      clear z2 hO hD hR2 m0 m1 m2 r0 r1 r2
      go_upto_region 6 with fail
      have hp : Below w.heap.size w W2.drew := below_drewN HZ2.out 1
      have hO3 : OPs W2.drew w.heap.size A' ts.length c' ts := hO2.drewN 1
      have HS0 : Hid (W2.drew.heap.size = W2.heap.size) := Lib.hid rfl
      refine wp_region_held_drew (S := (fun w' => w'.cell? ⟨g, 0, none⟩ = some (.int .i64 sy))) (by kernel_rfl) ?_ (fun hHeld => ?_)
      · exact HCELL.out _ hp
      generalize W2.drew = Wd at *
      refine wpAnyH_take (i := 0) (v := ?_) rfl (by kernel_rfl) (by kernel_rfl) (by kernel_rfl) (fun _ _ _ h => h) (Or.inl ⟨by rfl, ?_⟩) (by assumption) ?_
      rotate_left
      · intro w hSw
        try dsimp only at hSw
        go_simp
        try with_reducible rfl
      try simp only [Act.put, List.setIfInBounds_toArray, List.set_cons_zero, List.set_cons_succ]
      refine wpAnyH_take (i := 1) (v := ?_) rfl (by kernel_rfl) (by kernel_rfl) (by kernel_rfl) (fun _ _ _ h => h) (Or.inl ⟨by rfl, ?_⟩) (by assumption) ?_
      rotate_left
      · intro w hSw
        try dsimp only at hSw
        go_simp
        try with_reducible rfl
      try simp only [Act.put, List.setIfInBounds_toArray, List.set_cons_zero, List.set_cons_succ]
      refine wpAnyH_take (i := 2) (v := ?_) rfl (by kernel_rfl) (by kernel_rfl) (by kernel_rfl) (fun _ _ _ h => h) (Or.inl ⟨by rfl, ?_⟩) (by assumption) ?_
      rotate_left
      · intro w hSw
        try dsimp only at hSw
        go_simp
        try with_reducible rfl
      try simp only [Act.put, List.setIfInBounds_toArray, List.set_cons_zero, List.set_cons_succ]
      refine wpAnyH_take (i := 3) (v := ?_) rfl (by kernel_rfl) (by kernel_rfl) (by kernel_rfl) (fun _ _ _ h => h) (Or.inl ⟨by rfl, ?_⟩) (by assumption) ?_
      rotate_left
      · intro w hSw
        try dsimp only at hSw
        go_simp
        try with_reducible rfl
      try simp only [Act.put, List.setIfInBounds_toArray, List.set_cons_zero, List.set_cons_succ]
      refine wpAnyH_take (i := 4) (v := ?_) rfl (by kernel_rfl) (by kernel_rfl) (by kernel_rfl) (fun _ _ _ h => h) (Or.inl ⟨by rfl, ?_⟩) (by assumption) ?_
      rotate_left
      · intro w hSw
        try dsimp only at hSw
        go_simp
        try with_reducible rfl
      try simp only [Act.put, List.setIfInBounds_toArray, List.set_cons_zero, List.set_cons_succ]
      refine wpAnyH_take (i := 5) (v := ?_) rfl (by kernel_rfl) (by kernel_rfl) (by kernel_rfl) (fun _ _ _ h => h) (Or.inl ⟨by rfl, ?_⟩) (by assumption) ?_
      rotate_left
      · intro w hSw
        try dsimp only at hSw
        go_simp
        try with_reducible rfl
      try simp only [Act.put, List.setIfInBounds_toArray, List.set_cons_zero, List.set_cons_succ]
      refine wpAnyH_take (i := 6) (v := ?_) rfl (by kernel_rfl) (by kernel_rfl) (by kernel_rfl) (fun _ _ _ h => h) (Or.inl ⟨by rfl, ?_⟩) (by assumption) ?_
      rotate_left
      · intro w hSw
        try dsimp only at hSw
        go_simp
        try with_reducible rfl
      try simp only [Act.put, List.setIfInBounds_toArray, List.set_cons_zero, List.set_cons_succ]
      refine wpAnyH_take (i := 7) (v := ?_) rfl (by kernel_rfl) (by kernel_rfl) (by kernel_rfl) (fun _ _ _ h => h) (Or.inl ⟨by rfl, ?_⟩) (by assumption) ?_
      rotate_left
      · intro w hSw
        try dsimp only at hSw
        go_simp
        try with_reducible rfl
      try simp only [Act.put, List.setIfInBounds_toArray, List.set_cons_zero, List.set_cons_succ]
      refine wpAnyH_take (i := 8) (v := ?_) rfl (by kernel_rfl) (by kernel_rfl) (by kernel_rfl) (fun _ _ _ h => h) (Or.inl ⟨by rfl, ?_⟩) (by assumption) ?_
      rotate_left
      · intro w hSw
        try dsimp only at hSw
        go_simp
        try with_reducible rfl
      try simp only [Act.put, List.setIfInBounds_toArray, List.set_cons_zero, List.set_cons_succ]
      refine wpAnyH_take (i := 9) (v := ?_) rfl (by kernel_rfl) (by kernel_rfl) (by kernel_rfl) (fun _ _ _ h => h) (Or.inl ⟨by rfl, ?_⟩) (by assumption) ?_
      rotate_left
      · intro w hSw
        try dsimp only at hSw
        go_simp
        try with_reducible rfl
      try simp only [Act.put, List.setIfInBounds_toArray, List.set_cons_zero, List.set_cons_succ]
      refine wpAnyH_take (i := 10) (v := ?_) rfl (by kernel_rfl) (by kernel_rfl) (by kernel_rfl) (fun _ _ _ h => h) (Or.inl ⟨by rfl, ?_⟩) (by assumption) ?_
      rotate_left
      · intro w hSw
        try dsimp only at hSw
        go_simp
        try with_reducible rfl
      try simp only [Act.put, List.setIfInBounds_toArray, List.set_cons_zero, List.set_cons_succ]
      refine wpAnyH_take (i := 11) (v := ?_) rfl (by kernel_rfl) (by kernel_rfl) (by kernel_rfl) (fun _ _ _ h => h) (Or.inl ⟨by rfl, ?_⟩) (by assumption) ?_
      rotate_left
      · intro w hSw
        try dsimp only at hSw
        go_simp
        try with_reducible rfl
      try simp only [Act.put, List.setIfInBounds_toArray, List.set_cons_zero, List.set_cons_succ]
      refine wpAnyH_take (i := 12) (v := ?_) rfl (by kernel_rfl) (by kernel_rfl) (by kernel_rfl) (fun _ _ _ h => h) (Or.inl ⟨by rfl, ?_⟩) (by assumption) ?_
      rotate_left
      · intro w hSw
        try dsimp only at hSw
        go_simp
        try with_reducible rfl
      try simp only [Act.put, List.setIfInBounds_toArray, List.set_cons_zero, List.set_cons_succ]
      refine wpAnyH_ready (rs := [13]) (by kernel_rfl) (by simp) ?_
      refine AllReadyH.cons rfl (fun K hK => ?_) ?_
      · go_simp
        have hp1 := hp.alloc hp.size (.cells #[.int .i64 R] 2)
        refine hK.out _ _ ?_ (fun hHeld => ?_)
        · first | exact HCELL.out _ hp3 | exact HCELL.out _ hp2 | exact HCELL.out _ hp1
        clear hK K
        try simp only [Act.put, List.setIfInBounds_toArray, List.set_cons_zero, List.set_cons_succ]
        refine wpAnyH_take (i := 14) (v := ?_) rfl (by kernel_rfl) (by kernel_rfl) (by kernel_rfl) (fun _ _ _ h => h) (Or.inl ⟨by rfl, ?_⟩) (by assumption) ?_
        rotate_left
        · intro w hSw
          try dsimp only at hSw
          go_simp
          try with_reducible rfl
        try simp only [Act.put, List.setIfInBounds_toArray, List.set_cons_zero, List.set_cons_succ]
        refine wpAnyH_ready (rs := [15]) (by kernel_rfl) (by simp) ?_
        refine AllReadyH.cons rfl (fun K hK => ?_) ?_
        · go_simp
          have hp2 := hp1.alloc hp1.size (.cells #[.int .i64 D, .int .i64 0, .slice (some ⟨Wd.heap.size, 0, none⟩) 1 1] 58)
          refine hK.out _ _ ?_ (fun hHeld => ?_)
          · first | exact HCELL.out _ hp3 | exact HCELL.out _ hp2 | exact HCELL.out _ hp1
          clear hK K
          try simp only [Act.put, List.setIfInBounds_toArray, List.set_cons_zero, List.set_cons_succ]
          refine wpAnyH_ready (rs := [16]) (by kernel_rfl) (by simp) ?_
          refine AllReadyH.cons rfl (fun K hK => ?_) ?_
          · rw [if_pos (by rfl)]
            have hrd : Rd ((Wd.alloc (.cells #[.int .i64 R] 2)).alloc (.cells #[.int .i64 D, .int .i64 0, .slice (some ⟨Wd.heap.size, 0, none⟩) 1 1] 58)) 3 (some ⟨Wd.heap.size + 1, 0, none⟩) 1 (Pm.cells ⟨D, 0, some ⟨Wd.heap.size, 0, none⟩, 1, [R]⟩) := by
              have h := Pm.new (Wd.alloc (.cells #[.int .i64 R] 2)) ⟨D, 0, some ⟨Wd.heap.size, 0, none⟩, 1, [R]⟩
              have e : (Wd.alloc (.cells #[.int .i64 R] 2)).heap.size = Wd.heap.size + 1 := by simp
              rw [e] at h
              exact h
            refine wp_append_Own (.tmp 24) (.tmp 39) rfl elPart (lo := w.heap.size) rfl ((hO3.alloc _).alloc _).spine rfl hrd (fun u hu => Pm.one [⟨D, 0, some ⟨Wd.heap.size, 0, none⟩, 1, [R]⟩] u (by simpa using hu)) (by have := HTL.out; omega) (by have := HTL.out; simp only [maxLen]; omega) (by have := hp.size; simp; omega) ?_
            intro A5 c5 w5 o5 hg5 hw5
            have hp3 : Below w.heap.size w w5 := Own.below_of ((hO3.alloc _).alloc _).spine hp2 hg5 (by have := hp.size; simp; omega)
            refine hK.out _ _ ?_ (fun hHeld => ?_)
            · first | exact HCELL.out _ hp3 | exact HCELL.out _ hp2 | exact HCELL.out _ hp1
            clear hK K
            try simp only [Act.put, List.setIfInBounds_toArray, List.set_cons_zero, List.set_cons_succ]
            refine wpAnyH_ready (rs := [17]) (by kernel_rfl) (by simp) ?_
            refine AllReadyH.cons rfl (fun K hK => ?_) ?_
            · go_simp
              refine hK.out _ _ ?_ (fun hHeld => ?_)
              · first | exact HCELL.out _ hp3 | exact HCELL.out _ hp2 | exact HCELL.out _ hp1
              clear hK K
              try simp only [Act.put, List.setIfInBounds_toArray, List.set_cons_zero, List.set_cons_succ]
              refine wpAnyH_done (by kernel_rfl) ?_ _
              have hrw : Own ((Wd.alloc (.cells #[.int .i64 R] 2)).alloc (.cells #[.int .i64 D, .int .i64 0, .slice (some ⟨Wd.heap.size, 0, none⟩) 1 1] 58)) Wd.heap.size 2 1 (some ⟨Wd.heap.size, 0, none⟩) 1 1 (ints [R]) := (Own.lit Wd #[.int .i64 R] _ 1 1 Wd.heap.size rfl (by simp [maxLen]) (Nat.le_refl _)).alloc _
              have hsn : OPs w5 w.heap.size A5 (ts.length + 1) c5 (ts ++ [(⟨D, 0, some ⟨W2.heap.size, 0, none⟩, 1, [R]⟩ : Pm)]) := by rw [← HS0.out]; exact OPs.snoc (wa := Wd) hO3 (Nat.le_refl _) ((hO3.alloc _).alloc _) o5 hg5 hrw hp.size
              have HP5 := Lib.hid hp3
              have hlen : (ts ++ [(⟨D, 0, some ⟨W2.heap.size, 0, none⟩, 1, [R]⟩ : Pm)]).length = ts.length + 1 := by simp
              have HLN := Lib.hid hlen
              clear hlen hrw hg5 hw5 o5 hp3
              go_wp2_with fail
              go_roundw
              case rel => exact ⟨j + 1, A5, c5, ts ++ [(⟨D, 0, some ⟨W2.heap.size, 0, none⟩, 1, [R]⟩ : Pm)], by omega, by go_num, by rw [HLN.out], by rw [HLN.out]; exact hsn, Lib.hid (HPX'.out _), HP5⟩
              case measure => simp [intOf]; omega
            exact AllReadyH.nil
          exact AllReadyH.nil
        exact AllReadyH.nil
      exact AllReadyH.nil
end Go.Proofs.YtokglpdlhacnaaaDoor

/-
  The number of the first empty level, and the levels' sizes (the reference's l26Depth, l26Levels).
-/
namespace Go.Proofs.YtokglpdlhacnaaaDoor
open Go.RowKit

def depS (o : Option Int) : Int × Bool := match o with
  | some d => (d, true)
  | none => (0, false)
def DepP (w : World) (o : Option Int) (e : Ending) (w' : World) : Prop := e = .returned (.tuple #[.int .i64 (depS o).1, .bool (depS o).2]) ∧ Below w.heap.size w w'
theorem depP_no {w w' : World} {o : Option Int} (h : o = none) (k : Below w.heap.size w w') : DepP w o (.returned (.tuple #[.int .i64 0, .bool false])) w' := by subst h; exact ⟨rfl, k⟩
theorem depP_yes {w w' : World} {o : Option Int} {d : Int} (h : o = some d) (k : Below w.heap.size w w') : DepP w o (.returned (.tuple #[.int .i64 d, .bool true])) w' := by subst h; exact ⟨rfl, k⟩
theorem PredsS.no {w w' : World} {o : Option (List Pa)} {e : Ending} (h : PredsS w o e w') (ho : o = none) : e = .returned (.tuple #[.slice none 0 0, .bool false]) ∧ Below w.heap.size w w' := by subst ho; exact h
theorem PredsS.yes {w w' : World} {o : Option (List Pa)} {e : Ending} {l : List Pa} (h : PredsS w o e w') (ho : o = some l) : (∃ A c ts, e = .returned (.tuple #[.slice A ts.length c, .bool true]) ∧ OPs w' w.heap.size A ts.length c ts ∧ pas ts = l) ∧ Below w.heap.size w w' := by subst ho; exact h
set_option maxRecDepth 100000 in
set_option maxHeartbeats 8000000 in
theorem l26Depth_any (g lo : Nat) (sy st : Int) (B : Option Addr) (m k : Nat) (rs : List R3) (A : Option Addr) (n c : Nat) (lv : List Pm) (b : Int) (o : Option Int) (ho : (if 300 < lv.length then none else depthF sy rs 60 0 b (pas lv)) = o) (w : World) (hM : MachAt w g sy st B m k) (hr : S3 w B m rs) (hO : OPs w lo A n c lv) (hm : machB sy st rs = true) (hok : ∀ x ∈ pas lv, PaOk sy st x ∧ x.cs.length ≤ 60) (hb : 0 ≤ b) (hb2 : b ≤ 1000000) (hn : n ≤ 6000) :
    Calls Tryd.prog 56 #[.pointer (some ⟨g, 0, none⟩), .slice A n c, .int .i64 b] w (DepP w o) := by
  obtain rfl : n = lv.length := hO.len.symm
  by_cases h3 : 300 < lv.length
  · have i1 : (300 : Int) < (lv.length : Int) := by omega
    have HE : Hid (o = none) := Lib.hid (by rw [← ho, if_pos h3])
    clear ho
    go_enter Tryd.func56, Tryd.ntmps56
    go_wp2_with fail
    exact bodyPost_ret (v := .tuple #[.int .i64 0, .bool false]) (by simp [results, Tryd.results56, go_sem]) rfl (depP_no HE.out (Below.refl _ _))
  have i1 : ¬ (300 : Int) < (lv.length : Int) := by omega
  have HE : Hid (o = depthF sy rs 60 0 b (pas lv)) := Lib.hid (by rw [← ho, if_neg h3])
  have HMA := Lib.hid hM
  have HR := Lib.hid hr
  have HO := Lib.hid hO
  have HM := Lib.hid hm
  have HOK := Lib.hid hok
  have H3 := Lib.hid h3
  clear ho hM hr hO hm hok h3
  go_enter Tryd.func56, Tryd.ntmps56
  go_wp2_with fail
  clear i1
  go_loopw [1, 8, 9] (fun v s i wr => ∃ (j lo' : Nat) (A' : Option Addr) (c' : Nat) (ts : List Pm) (s' : Int), j ≤ 61 ∧ i = .int .i64 (j : Int) ∧ s = .int .i64 (b - s') ∧ v = .slice A' ts.length c' ∧ Hid (OPs wr lo' A' ts.length c' ts) ∧ Hid ((j ≤ 60 ∧ o = depthF sy rs (60 - j) (j : Int) s' (pas ts)) ∨ (j = 61 ∧ o = none)) ∧ Hid (∀ x ∈ pas ts, PaOk sy st x ∧ x.cs.length ≤ 60) ∧ (0 ≤ s' ∧ s' ≤ b) ∧ Hid (ts.length ≤ 300) ∧ Hid (Below w.heap.size w wr)) (fun _ _ i _ => 61 - (intOf i).toNat)
  case atStart => exact ⟨0, lo, A, c, lv, b, by omega, rfl, by simp, rfl, HO, Lib.hid (.inl ⟨by omega, HE.out⟩), HOK, ⟨hb, by omega⟩, Lib.hid (by have := H3.out; omega), Lib.hid (Below.refl _ _)⟩
  case round =>
    obtain ⟨j, lo', A', c', ts, s', hj, rfl, rfl, rfl, HO1, HD1, HOK1, hs', HN1, HZ⟩ := hrel
    rename World => W0
    obtain ⟨hs0, hs1⟩ := hs'
    have ht3 := HN1.out
    by_cases h61 : j = 61
    · subst h61
      have HNO : Hid (o = none) := Lib.hid (by rcases HD1.out with h | h; omega; exact h.2)
      go_wp2_with fail
      exact bodyPost_ret (v := .tuple #[.int .i64 0, .bool false]) (by simp [results, Tryd.results56, go_sem]) rfl (depP_no HNO.out HZ.out)
    have j1 : (j : Int) ≤ 60 := by omega
    have HD2 : Hid (o = depthF sy rs (60 - j) (j : Int) s' (pas ts)) := Lib.hid (by rcases HD1.out with h | h; exact h.2; omega)
    have HPL : Hid (((pas ts).length : Int) = ts.length) := Lib.hid (by simp [pas])
    by_cases h0 : ts.length = 0
    · have z0 : ((ts.length : Int) == 0) = true := by simp [h0]
      have HY : Hid (o = some (j : Int)) := Lib.hid (by rw [HD2.out, show pas ts = [] from by rw [List.eq_nil_of_length_eq_zero h0]; rfl, depthF_empty])
      go_wp2_with fail
      exact bodyPost_ret (v := .tuple #[.int .i64 (j : Int), .bool true]) (by simp [results, Tryd.results56, go_sem]) rfl (depP_yes HY.out HZ.out)
    have z0 : ((ts.length : Int) == 0) = false := by rw [beq_eq_false_iff_ne]; omega
    have HNE : Hid (pas ts ≠ []) := Lib.hid (fun h => h0 (by have := congrArg List.length h; simpa [pas] using this))
    by_cases hb3 : s' < (ts.length : Int)
    · have i2 : b < b - s' + (ts.length : Int) := by omega
      have HNO : Hid (o = none) := Lib.hid (by rw [HD2.out, depthF_short HNE.out (by rw [HPL.out]; exact hb3)])
      go_wp2_with fail
      exact bodyPost_ret (v := .tuple #[.int .i64 0, .bool false]) (by simp [results, Tryd.results56, go_sem]) rfl (depP_no HNO.out HZ.out)
    have i2 : ¬ b < b - s' + (ts.length : Int) := by omega
    have HCALL := Lib.hid (l26Next_any g lo' sy st B m k rs A' ts.length c' ts W0 (HMA.out.below HZ.out) (HR.out.below HZ.out) HO1.out HM.out HOK1.out (by omega))
    cases hnx : nextF sy rs (pas ts) with
    | none =>
      have HNO : Hid (o = none) := Lib.hid (by rw [HD2.out, depthF_full HNE.out hnx])
      have HC2 := Lib.hid (HCALL.out.mono fun e w2 h => h.no hnx)
      clear hnx
      go_wp2_with (go_at_call 71; refine HC2.out.mono ?_; rintro e w2 ⟨rfl, z2⟩)
      exact bodyPost_ret (v := .tuple #[.int .i64 0, .bool false]) (by simp [results, Tryd.results56, go_sem]) rfl (depP_no HNO.out (HZ.out.trans (z2.mono HZ.out.size)))
    | some l =>
      have HC2 := Lib.hid (HCALL.out.mono fun e w2 h => h.yes hnx)
      have HOK2 := Lib.hid (nextF_ok HM.out HOK1.out hnx)
      have hle : ((pas ts).length : Int) ≤ s' := by rw [HPL.out]; omega
      have HD3 : Hid ((j + 1 ≤ 60 ∧ o = depthF sy rs (60 - (j + 1)) ((j + 1 : Nat) : Int) (s' - (ts.length : Int)) l) ∨ (j + 1 = 61 ∧ o = none)) := Lib.hid (by
        by_cases h : j = 60
        · subst h
          exact .inr ⟨rfl, by rw [HD2.out]; exact depthF_zero HNE.out⟩
        · refine .inl ⟨by omega, ?_⟩
          rw [HD2.out, show 60 - j = (60 - (j + 1)) + 1 by omega, depthF_next HNE.out hle hnx, HPL.out]; rfl)
      clear hnx hle
      go_wp2_with (go_at_call 71; refine HC2.out.mono ?_; rintro e w2 ⟨⟨A2, c2, ts2, rfl, hO2, hp2⟩, z2⟩; have HO2 := Lib.hid hO2; have HP2 := Lib.hid hp2; have HZ2 := Lib.hid (HZ.out.trans (z2.mono HZ.out.size)); clear hO2 hp2 z2)
      have HN2 : Hid (ts2.length ≤ 300) := Lib.hid (by have h1 := HOK2.out.2; rw [← HP2.out] at h1; simpa [pas] using h1)
      go_roundw
      case rel => exact ⟨j + 1, _, A2, c2, ts2, s' - (ts.length : Int), by omega, by go_num, by congr 1; omega, rfl, HO2, by rw [HP2.out]; exact HD3, by rw [HP2.out]; exact Lib.hid HOK2.out.1, ⟨by omega, by omega⟩, HN2, HZ2⟩
      case measure => simp [intOf]; omega
/-- A list of numbers, or none. -/
def LevP (w : World) (o : Option (List Int)) (e : Ending) (w' : World) : Prop :=
  (match o with
    | none => e = .returned (.tuple #[.slice none 0 0, .bool false])
    | some l => ∃ A c, e = .returned (.tuple #[.slice A l.length c, .bool true]) ∧ Own w' w.heap.size 2 1 A l.length c (ints l)) ∧ Below w.heap.size w w'
theorem levP_no {w w' : World} {o : Option (List Int)} (h : o = none) (k : Below w.heap.size w w') : LevP w o (.returned (.tuple #[.slice none 0 0, .bool false])) w' := by subst h; exact ⟨rfl, k⟩
theorem levP_yes {w w' : World} {o : Option (List Int)} {l : List Int} {A : Option Addr} {c : Nat} (h : o = some l) (ho : Own w' w.heap.size 2 1 A l.length c (ints l)) (k : Below w.heap.size w w') : LevP w o (.returned (.tuple #[.slice A l.length c, .bool true])) w' := by subst h; exact ⟨⟨A, c, rfl, ho⟩, k⟩
set_option maxRecDepth 100000 in
set_option maxHeartbeats 8000000 in
theorem l26Levels_any (g : Nat) (sy st : Int) (B : Option Addr) (m k : Nat) (rs : List R3) (D : Nat) (o : Option (List Int)) (ho : (hpO sy rs fun l => sizesF sy rs D l [(l.length : Int)]) = o) (w : World) (hM : MachAt w g sy st B m k) (hr : S3 w B m rs) (hm : machB sy st rs = true) (hD : D ≤ 60) :
    Calls Tryd.prog 64 #[.pointer (some ⟨g, 0, none⟩), .int .i64 (D : Int)] w (LevP w o) := by
  have HMA := Lib.hid hM
  have HR := Lib.hid hr
  have HM := Lib.hid hm
  have HOO := Lib.hid ho
  have HHL := Lib.hid (l26Halting_any g sy st B m k rs w hM hr hm)
  clear hM hr hm ho
  go_enter Tryd.func64, Tryd.ntmps64
  go_upto_region 2 with (go_at_call 62; refine HHL.out.mono ?_; rintro e w3 ⟨A, c, ts, rfl, hO, hp, z3⟩)
  have HTL : Hid ((hpF sy rs).length = ts.length) := Lib.hid (by rw [← hp]; simp [pas])
  by_cases h3 : 300 < ts.length
  · have i1 : (300 : Int) < (ts.length : Int) := by omega
    have HE : Hid (o = none) := Lib.hid (by rw [← HOO.out]; unfold hpO; rw [if_pos (by rw [HTL.out]; exact h3)])
    go_wp2_with fail
    exact bodyPost_ret (v := .tuple #[.slice none 0 0, .bool false]) (by simp [results, Tryd.results64, go_sem]) rfl (levP_no HE.out z3)
  have i1 : ¬ (300 : Int) < (ts.length : Int) := by omega
  have HE : Hid (o = sizesF sy rs D (pas ts) [(ts.length : Int)]) := Lib.hid (by
    rw [← HOO.out]; unfold hpO; rw [if_neg (by rw [HTL.out]; exact h3)]; show sizesF sy rs D (hpF sy rs) [((hpF sy rs).length : Int)] = _; rw [HTL.out, hp])
  have HOK := Lib.hid (fun x (hx : x ∈ pas ts) => hpF_ok HM.out x (by rw [← hp]; exact hx))
  have HO := Lib.hid hO
  have HZ3 := Lib.hid z3
  have H3 : Hid (ts.length ≤ 300) := Lib.hid (by omega)
  clear hO hp z3 h3
  go_upto_region 5 with fail
  obtain ⟨W4, hW4⟩ : ∃ W4, W4 = w3.alloc (.cells #[.int .i64 (ts.length : Int)] 2) := ⟨_, rfl⟩
  rw [← hW4]
  have z4 : Below w3.heap.size w3 W4 := by rw [hW4]; exact (Below.refl _ _).alloc (Nat.le_refl _) _
  have o4 : Own W4 w.heap.size 2 1 (some ⟨w3.heap.size, 0, none⟩) [(ts.length : Int)].length 1 (ints [(ts.length : Int)]) := by rw [hW4]; exact (Own.lit w3 #[.int .i64 (ts.length : Int)] _ 1 1 w3.heap.size rfl (by simp [maxLen]) (Nat.le_refl _)).mono HZ3.out.size
  have HO4 : Hid (OPs W4 w.heap.size A ts.length c ts) := Lib.hid (HO.out.below z4)
  have HZ4 : Hid (Below w.heap.size w W4) := Lib.hid (HZ3.out.trans (z4.mono HZ3.out.size))
  clear hW4 z4 i1
  go_loopw [1, 6, 7] (fun i v s wr => ∃ (j : Nat) (A' : Option Addr) (c' : Nat) (us : List Pm) (S : Option Addr) (C : Nat) (xs : List Int), j ≤ D ∧ i = .int .i64 ((D - j : Nat) : Int) ∧ v = .slice A' us.length c' ∧ s = .slice S xs.length C ∧ Own wr w.heap.size 2 1 S xs.length C (ints xs) ∧ Hid (OPs wr w.heap.size A' us.length c' us) ∧ Hid (o = sizesF sy rs (D - j) (pas us) xs) ∧ Hid (∀ x ∈ pas us, PaOk sy st x ∧ x.cs.length ≤ 60) ∧ Hid (us.length ≤ 300) ∧ Hid (xs.length = j + 1) ∧ Hid (Below w.heap.size w wr)) (fun i _ _ _ => (intOf i).toNat)
  case atStart => exact ⟨0, A, c, ts, _, 1, [(ts.length : Int)], by omega, rfl, rfl, rfl, o4, HO4, HE, HOK, H3, Lib.hid rfl, HZ4⟩
  case round =>
    clear o4
    obtain ⟨j, A', c', us, S, C, xs, hj, rfl, rfl, rfl, hS, HO1, HD1, HOK1, HN1, HX1, HZ⟩ := hrel
    rename World => W0
    have hu3 := HN1.out
    obtain ⟨T, hT⟩ : ∃ T, T = D - j := ⟨_, rfl⟩
    rw [← hT]
    have HT := Lib.hid hT
    have hT60 : T ≤ 60 := by omega
    clear hT
    by_cases hT0 : T = 0
    · subst hT0
      have j1 : ¬ (0 : Int) < ((0 : Nat) : Int) := by omega
      have HY : Hid (o = some xs) := Lib.hid (by rw [HD1.out, ← HT.out]; rfl)
      go_wp2_with fail
      exact bodyPost_ret (v := .tuple #[.slice S xs.length C, .bool true]) (by simp [results, Tryd.results64, go_sem]) rfl (levP_yes HY.out hS HZ.out)
    have j1 : 0 < T := by omega
    by_cases h0 : us.length = 0
    · have z0 : ¬ (0 : Int) < (us.length : Int) := by omega
      have HY : Hid (o = some xs) := Lib.hid (by rw [HD1.out, show pas us = [] from by rw [List.eq_nil_of_length_eq_zero h0]; rfl, sizesF_empty])
      go_wp2_with fail
      exact bodyPost_ret (v := .tuple #[.slice S xs.length C, .bool true]) (by simp [results, Tryd.results64, go_sem]) rfl (levP_yes HY.out hS HZ.out)
    have z0 : (0 : Int) < (us.length : Int) := by omega
    have HNE : Hid (pas us ≠ []) := Lib.hid (fun h => h0 (by have := congrArg List.length h; simpa [pas] using this))
    have HJ : Hid (D - j = (D - (j + 1)) + 1) := Lib.hid (by have := HT.out; omega)
    have HCALL := Lib.hid (l26Next_any g w.heap.size sy st B m k rs A' us.length c' us W0 (HMA.out.below HZ.out) (HR.out.below HZ.out) HO1.out HM.out HOK1.out (by omega))
    cases hnx : nextF sy rs (pas us) with
    | none =>
      have HNO : Hid (o = none) := Lib.hid (by rw [HD1.out, HJ.out, sizesF_full HNE.out hnx])
      have HC2 := Lib.hid (HCALL.out.mono fun e w2 h => h.no hnx)
      clear hnx
      go_wp2_with (go_at_call 71; refine HC2.out.mono ?_; rintro e w2 ⟨rfl, z2⟩)
      exact bodyPost_ret (v := .tuple #[.slice none 0 0, .bool false]) (by simp [results, Tryd.results64, go_sem]) rfl (levP_no HNO.out (HZ.out.trans (z2.mono HZ.out.size)))
    | some l =>
      have HD2 : Hid (o = sizesF sy rs (D - (j + 1)) l (xs ++ [(l.length : Int)])) := Lib.hid (by rw [HD1.out, HJ.out, sizesF_next HNE.out hnx])
      have HOK2 := Lib.hid (nextF_ok HM.out HOK1.out hnx)
      have HC2 := Lib.hid (HCALL.out.mono fun e w2 h => h.yes hnx)
      clear hnx
      go_upto_region 11 with (go_at_call 71; refine HC2.out.mono ?_; rintro e w2 ⟨⟨A2, c2, ts2, rfl, hO2, hp2⟩, z2⟩; have HO2 := Lib.hid hO2; have HP2 := Lib.hid hp2; have HZ2 := Lib.hid (HZ.out.trans (z2.mono HZ.out.size)); have HZZ := Lib.hid z2; clear hO2 hp2 z2)
      have hS2 := hS.below HZZ.out
      have HTL2 : Hid (ts2.length = l.length) := Lib.hid (by rw [← HP2.out]; simp [pas])
      have ht2 : ts2.length ≤ 300 := by have := HOK2.out.2; have := HTL2.out; omega
      have HXL : Hid (xs.length ≤ 61) := Lib.hid (by have := HX1.out; omega)
      have HSW : Hid (w.heap.size ≤ W0.heap.size) := Lib.hid HZ.out.size
      go_wp2_with (at_builtin; refine wpList_append_Own rfl (.tmp 36) (.tmp 39) rfl elI (lo := w.heap.size) rfl (hS2.alloc _) rfl (Rd.new1 _ (.int .i64 (ts2.length : Int)) _) (by simp [Value.oneCell']) (by have := HXL.out; omega) (by have := HXL.out; simp only [maxLen]; omega) (by have := HZ2.out.size; simp; omega) ?_; intro A8 c8 w8 ho8 hg8 hw8)
      have HO8 : Hid (OPs w8 w.heap.size A2 ts2.length c2 ts2) := Lib.hid (((HO2.out.alloc _).kept (fun b hb hb2 => hg8.block b hb2 (fun e => by have h1 := hS.blk_lt b e.symm; omega))).mono HSW.out)
      have HZ8 : Hid (Below w.heap.size w w8) := Lib.hid ((hS2.alloc _).below_of (HZ2.out.alloc HZ2.out.size _) hg8 (by have := HZ2.out.size; simp; omega))
      have HD8 : Hid (o = sizesF sy rs (D - (j + 1)) (pas ts2) (xs ++ [(ts2.length : Int)])) := Lib.hid (by rw [HD2.out, HP2.out, HTL2.out])
      have HOK8 : Hid (∀ x ∈ pas ts2, PaOk sy st x ∧ x.cs.length ≤ 60) := Lib.hid (by rw [HP2.out]; exact HOK2.out.1)
      have HX8 : Hid ((xs ++ [(ts2.length : Int)]).length = j + 1 + 1) := Lib.hid (by simp [HX1.out])
      have ht8 := Lib.hid ht2
      have hlen : (xs ++ [(ts2.length : Int)]).length = xs.length + 1 := by simp
      have HLN := Lib.hid hlen
      rw [ints_snoc] at ho8
      clear hlen hS hS2 hg8 hw8 ht2
      go_wp2_with fail
      go_roundw
      case rel => exact ⟨j + 1, A2, c2, ts2, A8, c8, xs ++ [(ts2.length : Int)], by have := HT.out; omega, by congr 1; have := HT.out; omega, rfl, by rw [HLN.out], by rw [HLN.out]; exact ho8, HO8, HD8, HOK8, ht8, HX8, HZ8⟩
      case measure => simp [intOf]; omega
end Go.Proofs.YtokglpdlhacnaaaDoor

/-
  Contract of the reference's l05Budget.
-/
namespace Go.Proofs.YtokglpdlhacnaaaDoor
open Go.RowKit

theorem l05Budget_any (b : Int) (w : World) : Calls Tryd.prog 44 #[.int .i64 b] w fun e w' => e = .returned (.bool (inB b 1 20000)) ∧ w = w' := by
  go_enter Tryd.func44, Tryd.ntmps44
  go_wp2_with (go_at_call 55; refine (l00In_any _ _ _ _).mono ?_; rintro e w' ⟨rfl, rfl⟩)
  go_ret
  exact ⟨rfl, rfl⟩
theorem l05Budget_is {b : Int} {v : Bool} (h : inB b 1 20000 = v) (w : World) : Calls Tryd.prog 44 #[.int .i64 b] w fun e w' => e = .returned (.bool v) ∧ w = w' := h ▸ l05Budget_any b w
end Go.Proofs.YtokglpdlhacnaaaDoor

/-
  The reference's BackwardDepth, BackwardLevels, NeverEnters.
-/
namespace Go.Proofs.YtokglpdlhacnaaaDoor
open Go.RowKit

theorem codeF_bl (sy st : Int) (rs : List R3) (b : Int) : codeF sy st rs blankC b = if machB sy st rs then (if inB b 1 20000 then 0 else 2) else 1 := by
  unfold codeF
  have h : validConfB sy st rs blankC.q blankC.xs blankC.ys = machB sy st rs := by
    unfold validConfB
    cases hm : machB sy st rs with
    | false => rfl
    | true =>
      obtain ⟨p1, p2, p3, p4, _, _⟩ := machB_parts hm
      have : confB sy st blankC.q blankC.xs blankC.ys = true := by
        simp [confB, blankC, inB_iff, sideB, allIn]; omega
      rw [this]; rfl
  rw [h]
set_option maxRecDepth 100000 in
set_option maxHeartbeats 4000000 in
theorem backwardDepthS_any (sy st : Int) (B : Option Addr) (m k : Nat) (rs : List R3) (b : Int) (w : World) (hr : S3 w B m rs) (hn : m ≤ 1048576) :
    Calls Tryd.prog 24 #[.agg #[.int .i64 sy, .int .i64 st, .slice B m k], .int .i64 b] w (NumB w (bdepF sy st rs b)) := by
  obtain ⟨V, hW_⟩ : ∃ W, W = w.alloc (.cells #[.int .i64 sy, .int .i64 st, .slice B m k] 43) := ⟨_, rfl⟩
  have b0 : Blk V w.heap.size 43 #[.int .i64 sy, .int .i64 st, .slice B m k] := by rw [hW_]; exact Blk.new w _ _
  have y0 : Below w.heap.size w V := by rw [hW_]; exact (Below.refl _ _).alloc (Nat.le_refl _) _
  have HV := Lib.hid hW_
  clear hW_
  have hMV : MachAt V w.heap.size sy st B m k := ⟨b0.cell 0, b0.cell 1, b0.cell 2⟩
  have HMA := Lib.hid hMV
  have HR := Lib.hid (hr.below y0)
  have HY0 := Lib.hid y0
  have HIS := Lib.hid (l05Is_any w.heap.size sy st B m k rs V hMV (hr.below y0) hn)
  clear b0 y0 hr hMV
  go_enter Tryd.func24, Tryd.ntmps24
  go_upto_region 1 with fail
  rw [← HV.out]
  cases hm : machB sy st rs with
  | false =>
    have HE : Hid (bdepF sy st rs b = (0, 1)) := Lib.hid (by unfold bdepF; rw [codeF_bl, hm]; rfl)
    rw [hm] at HIS
    clear hm
    go_wp2_with (go_at_call 54; refine HIS.out.mono ?_; rintro e w2 ⟨rfl, z2⟩)
    exact bodyPost_ret (v := .tuple #[.int .i64 0, .int .i64 1]) (by simp [results, Tryd.results24, go_sem]) rfl (numB HE.out (HY0.out.trans (z2.mono HY0.out.size)))
  | true =>
    rw [hm] at HIS
    have HM := Lib.hid hm
    clear hm
    go_upto_region 3 with (go_at_call 54; refine HIS.out.mono ?_; rintro e w2 ⟨rfl, z2⟩)
    have HZ2 := Lib.hid (HY0.out.trans (z2.mono HY0.out.size))
    have HM2 := Lib.hid (HMA.out.below z2)
    have HR2 := Lib.hid (HR.out.below z2)
    clear z2
    cases hb : inB b 1 20000 with
    | false =>
      have HE : Hid (bdepF sy st rs b = (0, 2)) := Lib.hid (by unfold bdepF; rw [codeF_bl, HM.out, hb]; rfl)
      have HB := Lib.hid hb
      clear hb
      go_wp2_with (go_at_call 44; refine (l05Budget_is HB.out _).mono ?_; rintro e w' ⟨rfl, rfl⟩)
      exact bodyPost_ret (v := .tuple #[.int .i64 0, .int .i64 2]) (by simp [results, Tryd.results24, go_sem]) rfl (numB HE.out HZ2.out)
    | true =>
      have HE0 : Hid (bdepF sy st rs b = depR (hpO sy rs (depthF sy rs 60 0 b))) := Lib.hid (by unfold bdepF; rw [codeF_bl, HM.out, hb]; rfl)
      have hb' : 1 ≤ b ∧ b ≤ 20000 := by simpa [inB_iff] using hb
      obtain ⟨hb0, hb1⟩ := hb'
      have HB := Lib.hid hb
      have HH := Lib.hid (l26Halting_any w.heap.size sy st B m k rs w2 HM2.out HR2.out HM.out)
      clear hb
      go_upto_region 5 with (go_at_call 44; refine (l05Budget_is HB.out _).mono ?_; rintro e w' ⟨rfl, rfl⟩)
      have HDP := Lib.hid (fun (w3 : World) (A : Option Addr) (c : Nat) (ts : List Pm) (hO : OPs w3 w2.heap.size A ts.length c ts) (hp : pas ts = hpF sy rs) (z3 : Below w2.heap.size w2 w3) =>
        l26Depth_any w.heap.size w2.heap.size sy st B m k rs A ts.length c ts b (hpO sy rs (depthF sy rs 60 0 b)) (by unfold hpO; rw [show (hpF sy rs).length = ts.length from by rw [← hp]; simp [pas], hp]) w3 (HM2.out.below z3) (HR2.out.below z3) hO HM.out (fun x hx => hpF_ok HM.out x (by rw [← hp]; exact hx)) (by omega) (by omega) (by
          have h1 := hpF_len (sy := sy) (rs := rs)
          rw [← hp] at h1
          obtain ⟨_, p2, _, p4, p5, _⟩ := machB_parts HM.out
          have h5 : st * sy ≤ 1000 * 6 := Int.mul_le_mul p4 p2 (by have := (machB_parts HM.out).1; omega) (by omega)
          simp [pas] at h1
          omega))
      generalize hpO sy rs (depthF sy rs 60 0 b) = o at *
      cases o with
      | none =>
        go_wp2_with (first
          | (go_at_call 62; refine HH.out.mono ?_; rintro e w3 ⟨A, c, ts, rfl, hO, hp, z3⟩; have HC := Lib.hid (HDP.out w3 A c ts hO hp z3); have HZ3 := Lib.hid (HZ2.out.trans (z3.mono HZ2.out.size)); clear hO hp z3)
          | (go_at_call 56; refine HC.out.mono ?_; rintro e w4 ⟨rfl, z4⟩; simp only [depS]))
        exact bodyPost_ret (v := .tuple #[.int .i64 0, .int .i64 5]) (by simp [results, Tryd.results24, go_sem]) rfl (numB HE0.out (HZ3.out.trans (z4.mono HZ3.out.size)))
      | some d =>
        go_wp2_with (first
          | (go_at_call 62; refine HH.out.mono ?_; rintro e w3 ⟨A, c, ts, rfl, hO, hp, z3⟩; have HC := Lib.hid (HDP.out w3 A c ts hO hp z3); have HZ3 := Lib.hid (HZ2.out.trans (z3.mono HZ2.out.size)); clear hO hp z3)
          | (go_at_call 56; refine HC.out.mono ?_; rintro e w4 ⟨rfl, z4⟩; simp only [depS]))
        exact bodyPost_ret (v := .tuple #[.int .i64 d, .int .i64 0]) (by simp [results, Tryd.results24, go_sem]) rfl (numB HE0.out (HZ3.out.trans (z4.mono HZ3.out.size)))
set_option maxRecDepth 100000 in
set_option maxHeartbeats 4000000 in
theorem backwardLevelsS_any (sy st : Int) (B : Option Addr) (m k : Nat) (rs : List R3) (b : Int) (w : World) (hr : S3 w B m rs) (hn : m ≤ 1048576) :
    Calls Tryd.prog 26 #[.agg #[.int .i64 sy, .int .i64 st, .slice B m k], .int .i64 b] w (ListB w (levF sy st rs b)) := by
  obtain ⟨V, hW_⟩ : ∃ W, W = w.alloc (.cells #[.int .i64 sy, .int .i64 st, .slice B m k] 43) := ⟨_, rfl⟩
  have b0 : Blk V w.heap.size 43 #[.int .i64 sy, .int .i64 st, .slice B m k] := by rw [hW_]; exact Blk.new w _ _
  have y0 : Below w.heap.size w V := by rw [hW_]; exact (Below.refl _ _).alloc (Nat.le_refl _) _
  have HV := Lib.hid hW_
  clear hW_
  have hMV : MachAt V w.heap.size sy st B m k := ⟨b0.cell 0, b0.cell 1, b0.cell 2⟩
  have HMA := Lib.hid hMV
  have HR := Lib.hid (hr.below y0)
  have HY0 := Lib.hid y0
  have HIS := Lib.hid (l05Is_any w.heap.size sy st B m k rs V hMV (hr.below y0) hn)
  clear b0 y0 hr hMV
  go_enter Tryd.func26, Tryd.ntmps26
  go_upto_region 1 with fail
  rw [← HV.out]
  cases hm : machB sy st rs with
  | false =>
    have HE : Hid (levF sy st rs b = ([], 1)) := Lib.hid (by unfold levF; rw [hm]; rfl)
    rw [hm] at HIS
    clear hm
    go_wp2_with (go_at_call 54; refine HIS.out.mono ?_; rintro e w2 ⟨rfl, z2⟩)
    exact bodyPost_ret (v := .tuple #[.slice none 0 0, .int .i64 1]) (by simp [results, Tryd.results26, go_sem]) rfl (listB HE.out rfl Own.nil (HY0.out.trans (z2.mono HY0.out.size)))
  | true =>
    rw [hm] at HIS
    have HM := Lib.hid hm
    clear hm
    go_upto_region 3 with (go_at_call 54; refine HIS.out.mono ?_; rintro e w2 ⟨rfl, z2⟩)
    have HZ2 := Lib.hid (HY0.out.trans (z2.mono HY0.out.size))
    have HM2 := Lib.hid (HMA.out.below z2)
    have HR2 := Lib.hid (HR.out.below z2)
    clear z2
    cases hb : inB b 0 60 with
    | false =>
      have HE : Hid (levF sy st rs b = ([], 2)) := Lib.hid (by unfold levF; rw [HM.out, hb]; rfl)
      have HB := Lib.hid hb
      clear hb
      go_wp2_with (go_at_call 55; refine (l00In_is HB.out _).mono ?_; rintro e w' ⟨rfl, rfl⟩)
      exact bodyPost_ret (v := .tuple #[.slice none 0 0, .int .i64 2]) (by simp [results, Tryd.results26, go_sem]) rfl (listB HE.out rfl Own.nil HZ2.out)
    | true =>
      have hb' : 0 ≤ b ∧ b ≤ 60 := by simpa [inB_iff] using hb
      obtain ⟨hb0, hb1⟩ := hb'
      obtain ⟨D, rfl⟩ : ∃ D : Nat, b = (D : Int) := ⟨b.toNat, by omega⟩
      have HE : Hid (levF sy st rs (D : Int) = listR (hpO sy rs fun l => sizesF sy rs D l [(l.length : Int)])) := Lib.hid (by unfold levF; rw [HM.out, hb, Int.toNat_natCast]; rfl)
      have HB := Lib.hid hb
      have HC := Lib.hid (l26Levels_any w.heap.size sy st B m k rs D _ rfl w2 HM2.out HR2.out HM.out (by omega))
      clear hb
      generalize (hpO sy rs fun l => sizesF sy rs D l [(l.length : Int)]) = o at *
      cases o with
      | none =>
        have HC2 : Hid (Calls Tryd.prog 64 #[.pointer (some ⟨w.heap.size, 0, none⟩), .int .i64 (D : Int)] w2 fun e w' => e = .returned (.tuple #[.slice none 0 0, .bool false]) ∧ Below w2.heap.size w2 w') := Lib.hid HC.out
        go_wp2_with (first
          | (go_at_call 55; refine (l00In_is HB.out _).mono ?_; rintro e w' ⟨rfl, rfl⟩)
          | (go_at_call 64; refine HC2.out.mono ?_; rintro e w4 ⟨rfl, z4⟩))
        exact bodyPost_ret (v := .tuple #[.slice none 0 0, .int .i64 5]) (by simp [results, Tryd.results26, go_sem]) rfl (listB HE.out rfl Own.nil (HZ2.out.trans (z4.mono HZ2.out.size)))
      | some l =>
        have HC2 : Hid (Calls Tryd.prog 64 #[.pointer (some ⟨w.heap.size, 0, none⟩), .int .i64 (D : Int)] w2 fun e w' => (∃ A c, e = .returned (.tuple #[.slice A l.length c, .bool true]) ∧ Own w' w2.heap.size 2 1 A l.length c (ints l)) ∧ Below w2.heap.size w2 w') := Lib.hid HC.out
        go_wp2_with (first
          | (go_at_call 55; refine (l00In_is HB.out _).mono ?_; rintro e w' ⟨rfl, rfl⟩)
          | (go_at_call 64; refine HC2.out.mono ?_; rintro e w4 ⟨⟨A, c, rfl, o4⟩, z4⟩))
        exact bodyPost_ret (v := .tuple #[.slice A l.length c, .int .i64 0]) (by simp [results, Tryd.results26, go_sem]) rfl (listB HE.out rfl (o4.mono HZ2.out.size) (HZ2.out.trans (z4.mono HZ2.out.size)))
set_option maxRecDepth 100000 in
set_option maxHeartbeats 8000000 in
theorem neverEntersS_any (sy st : Int) (B : Option Addr) (m k : Nat) (rs : List R3) (q b : Int) (w : World) (hr : S3 w B m rs) (hn : m ≤ 1048576) :
    Calls Tryd.prog 20 #[.agg #[.int .i64 sy, .int .i64 st, .slice B m k], .int .i64 q, .int .i64 b] w (NumB w (neverF sy st rs q b)) := by
  obtain ⟨V, hW_⟩ : ∃ W, W = w.alloc (.cells #[.int .i64 sy, .int .i64 st, .slice B m k] 43) := ⟨_, rfl⟩
  have b0 : Blk V w.heap.size 43 #[.int .i64 sy, .int .i64 st, .slice B m k] := by rw [hW_]; exact Blk.new w _ _
  have y0 : Below w.heap.size w V := by rw [hW_]; exact (Below.refl _ _).alloc (Nat.le_refl _) _
  have HV := Lib.hid hW_
  clear hW_
  have hMV : MachAt V w.heap.size sy st B m k := ⟨b0.cell 0, b0.cell 1, b0.cell 2⟩
  have HMA := Lib.hid hMV
  have HR := Lib.hid (hr.below y0)
  have HY0 := Lib.hid y0
  have HIS := Lib.hid (l05Is_any w.heap.size sy st B m k rs V hMV (hr.below y0) hn)
  clear b0 y0 hr hMV
  go_enter Tryd.func20, Tryd.ntmps20
  go_upto_region 1 with fail
  rw [← HV.out]
  cases hm : machB sy st rs with
  | false =>
    have HE : Hid (neverF sy st rs q b = (0, 1)) := Lib.hid (by unfold neverF; rw [codeF_bl, hm]; rfl)
    rw [hm] at HIS
    clear hm
    go_wp2_with (go_at_call 54; refine HIS.out.mono ?_; rintro e w2 ⟨rfl, z2⟩)
    exact bodyPost_ret (v := .tuple #[.int .i64 0, .int .i64 1]) (by simp [results, Tryd.results20, go_sem]) rfl (numB HE.out (HY0.out.trans (z2.mono HY0.out.size)))
  | true =>
    rw [hm] at HIS
    have HM := Lib.hid hm
    obtain ⟨p1, p2, p3, p4, _, _⟩ := machB_parts hm
    have w1 : IntKind.i64.wrap (st - 1) = st - 1 := IntWalk.i64_in _ (by omega)
    clear hm
    go_upto_region 3 with (go_at_call 54; refine HIS.out.mono ?_; rintro e w2 ⟨rfl, z2⟩)
    have HZ2 := Lib.hid (HY0.out.trans (z2.mono HY0.out.size))
    have HM2 := Lib.hid (HMA.out.below z2)
    have HR2 := Lib.hid (HR.out.below z2)
    clear z2
    obtain ⟨m0, m1, m2⟩ := id HM2.out
    cases hq : inB q 0 (st - 1) with
    | false =>
      have HE : Hid (neverF sy st rs q b = (0, 2)) := Lib.hid (by unfold neverF; rw [codeF_bl, HM.out, hq]; cases inB b 1 20000 <;> rfl)
      have HQ := Lib.hid hq
      clear hq
      go_wp2_with (go_at_call 55; refine (l00In_is HQ.out _).mono ?_; rintro e w' ⟨rfl, rfl⟩)
      exact bodyPost_ret (v := .tuple #[.int .i64 0, .int .i64 2]) (by simp [results, Tryd.results20, go_sem]) rfl (numB HE.out HZ2.out)
    | true =>
      have HQ := Lib.hid hq
      clear hq
      cases hb : inB b 1 20000 with
      | false =>
        have HE : Hid (neverF sy st rs q b = (0, 2)) := Lib.hid (by unfold neverF; rw [codeF_bl, HM.out, hb]; rfl)
        have HB := Lib.hid hb
        clear hb
        go_wp2_with (first
          | (go_at_call 55; refine (l00In_is HQ.out _).mono ?_; rintro e w' ⟨rfl, rfl⟩)
          | (go_at_call 44; refine (l05Budget_is HB.out _).mono ?_; rintro e w' ⟨rfl, rfl⟩))
        exact bodyPost_ret (v := .tuple #[.int .i64 0, .int .i64 2]) (by simp [results, Tryd.results20, go_sem]) rfl (numB HE.out HZ2.out)
      | true =>
        have HE0 : Hid (neverF sy st rs q b = depR (depthF sy rs 60 0 b (stateL sy q))) := Lib.hid (by unfold neverF; rw [codeF_bl, HM.out, hb, HQ.out]; rfl)
        have hb' : 1 ≤ b ∧ b ≤ 20000 := by simpa [inB_iff] using hb
        obtain ⟨hb0, hb1⟩ := hb'
        have HB := Lib.hid hb
        clear hb
        obtain ⟨Y, rfl⟩ : ∃ Y : Nat, sy = (Y : Int) := ⟨sy.toNat, by omega⟩
        obtain ⟨W3, hW_⟩ : ∃ W_, W_ = w2.alloc (.cells #[] 58) := ⟨_, rfl⟩
        have c3 : Blk W3 w2.heap.size 58 #[] := by rw [hW_]; exact Blk.new w2 _ _
        have z3 : Below w2.heap.size w2 W3 := by rw [hW_]; exact (Below.refl _ _).alloc (Nat.le_refl _) _
        have HW3 := Lib.hid hW_
        clear hW_
        have o3 : OPs W3 w2.heap.size (some ⟨w2.heap.size, 0, none⟩) ([] : List Pm).length 0 [] := OPs.nil (by rw [HW3.out]; exact Own.lit0 w2 _ 3)
        have HZ23 := Lib.hid z3
        clear c3 z3
        go_upto_region 6 with (first
          | (go_at_call 55; refine (l00In_is HQ.out _).mono ?_; rintro e w' ⟨rfl, rfl⟩)
          | (go_at_call 44; refine (l05Budget_is HB.out _).mono ?_; rintro e w' ⟨rfl, rfl⟩))
        rw [← HW3.out]
        clear w1 m0 m1 m2
        go_wp2_with fail
        go_loopw [8, 9] (fun v i wr => ∃ (j : Nat) (A' : Option Addr) (c' : Nat) (ts : List Pm), j ≤ Y ∧ i = .int .i64 (j : Int) ∧ v = .slice A' ts.length c' ∧ OPs wr w2.heap.size A' ts.length c' ts ∧ Hid (pas ts = (List.range j).map fun s : Nat => (⟨q, 0, [(s : Int)]⟩ : Pa)) ∧ Hid (ts.length = j) ∧ Hid (Below w2.heap.size w2 wr)) (fun _ i _ => Y - (intOf i).toNat)
        case atStart => exact ⟨0, _, 0, [], Nat.zero_le _, rfl, rfl, o3, Lib.hid rfl, Lib.hid rfl, HZ23⟩
        case round =>
          clear o3
          obtain ⟨j, A', c', ts, hj, rfl, rfl, hO, HP1, HTL, HZ⟩ := hrel
          rename World => W0
          obtain ⟨m0, m1, m2⟩ := HM2.out.below HZ.out
          by_cases hlt : j < Y
          · have j1 : (j : Int) < (Y : Int) := by omega
            have htl : ts.length ≤ 6 := by have := HTL.out; omega
            have hsz := HZ.out.size
            have hOa := (hO.alloc (.cells #[.int .i64 (j : Int)] 2)).alloc (.cells #[.int .i64 q, .int .i64 0, .slice (some ⟨W0.heap.size, 0, none⟩) 1 1] 58)
            have hwa : Own ((W0.alloc (.cells #[.int .i64 (j : Int)] 2)).alloc (.cells #[.int .i64 q, .int .i64 0, .slice (some ⟨W0.heap.size, 0, none⟩) 1 1] 58)) W0.heap.size 2 1 (some ⟨W0.heap.size, 0, none⟩) 1 1 (ints [(j : Int)]) := (Own.lit W0 #[.int .i64 (j : Int)] _ 1 1 W0.heap.size rfl (by simp [maxLen]) (Nat.le_refl _)).alloc _
            have hzz : Hid (Below w2.heap.size w2 ((W0.alloc (.cells #[.int .i64 (j : Int)] 2)).alloc (.cells #[.int .i64 q, .int .i64 0, .slice (some ⟨W0.heap.size, 0, none⟩) 1 1] 58))) := Lib.hid ((HZ.out.alloc hsz _).alloc (by simp; omega) _)
            have hrd := Pm.new (W0.alloc (.cells #[.int .i64 (j : Int)] 2)) ⟨q, 0, some ⟨W0.heap.size, 0, none⟩, 1, [(j : Int)]⟩
            have e1 : (W0.alloc (.cells #[.int .i64 (j : Int)] 2)).heap.size = W0.heap.size + 1 := by simp
            rw [e1] at hrd
            clear e1
            go_upto_region 9 with fail
            go_wp2_with (at_builtin; refine wpList_append_Own rfl (.tmp 32) (.tmp 37) rfl elPart (lo := w2.heap.size) rfl hOa.spine rfl hrd (fun u hu => Pm.one [⟨q, 0, some ⟨W0.heap.size, 0, none⟩, 1, [(j : Int)]⟩] u (by simpa using hu)) (by omega) (by simp only [maxLen]; omega) (by simp; omega) ?_; intro A8 c8 w8 ho8 hg8 hw8)
            have HSN : OPs w8 w2.heap.size A8 (ts.length + 1) c8 (ts ++ [⟨q, 0, some ⟨W0.heap.size, 0, none⟩, 1, [(j : Int)]⟩]) := OPs.snoc (wa := W0) hO (Nat.le_refl _) hOa ho8 hg8 hwa hsz
            have HP9 : Hid (pas (ts ++ [⟨q, 0, some ⟨W0.heap.size, 0, none⟩, 1, [(j : Int)]⟩]) = (List.range (j + 1)).map fun s : Nat => (⟨q, 0, [(s : Int)]⟩ : Pa)) := Lib.hid (by rw [stateL_next, ← HP1.out]; simp [pas, Pm.pa])
            have hlen : (ts ++ [(⟨q, 0, some ⟨W0.heap.size, 0, none⟩, 1, [(j : Int)]⟩ : Pm)]).length = ts.length + 1 := by simp
            have HTL9 : Hid ((ts ++ [(⟨q, 0, some ⟨W0.heap.size, 0, none⟩, 1, [(j : Int)]⟩ : Pm)]).length = j + 1) := Lib.hid (by rw [hlen, HTL.out])
            have HZ9 : Hid (Below w2.heap.size w2 w8) := Lib.hid (Own.below_of hOa.spine hzz.out hg8 (by simp; omega))
            exact ⟨⟨j + 1, A8, c8, ts ++ [⟨q, 0, some ⟨W0.heap.size, 0, none⟩, 1, [(j : Int)]⟩], by omega, by go_num, by rw [hlen], by rw [hlen]; exact HSN, HP9, HTL9, HZ9⟩, by simp [intOf]; omega⟩
          · obtain rfl : j = Y := by omega
            have j1 : ¬ (j : Int) < (j : Int) := by omega
            have hps : pas ts = stateL (j : Int) q := by rw [HP1.out]; unfold stateL; rw [Int.toNat_natCast]
            have HZw : Hid (Below w.heap.size w W0) := Lib.hid (HZ2.out.trans (HZ.out.mono HZ2.out.size))
            have HDP := Lib.hid (l26Depth_any w.heap.size w2.heap.size (j : Int) st B m k rs A' ts.length c' ts b (depthF (j : Int) rs 60 0 b (stateL (j : Int) q)) (by rw [if_neg (by have := HTL.out; omega), hps]) W0 (HM2.out.below HZ.out) (HR2.out.below HZ.out) hO HM.out (fun x hx => stateL_ok HQ.out x (by rw [← hps]; exact hx)) (by omega) (by omega) (by have := HTL.out; omega))
            clear hps hO m0 m1 m2
            generalize depthF (j : Int) rs 60 0 b (stateL (j : Int) q) = o at *
            obtain ⟨m0, m1, m2⟩ := HM2.out.below HZ.out
            cases o with
            | none =>
              go_wp2_with (go_at_call 56; refine HDP.out.mono ?_; rintro e w4 ⟨rfl, z4⟩; simp only [depS])
              exact bodyPost_ret (v := .tuple #[.int .i64 0, .int .i64 5]) (by simp [results, Tryd.results20, go_sem]) rfl (numB HE0.out (HZw.out.trans (z4.mono HZw.out.size)))
            | some d =>
              go_wp2_with (go_at_call 56; refine HDP.out.mono ?_; rintro e w4 ⟨rfl, z4⟩; simp only [depS])
              exact bodyPost_ret (v := .tuple #[.int .i64 d, .int .i64 0]) (by simp [results, Tryd.results20, go_sem]) rfl (numB HE0.out (HZw.out.trans (z4.mono HZw.out.size)))
end Go.Proofs.YtokglpdlhacnaaaDoor

/-
  How long the backward search's results are. No program is in sight.
-/
namespace Go.Proofs.YtokglpdlhacnaaaDoor
open Go.RowKit

theorem sizesF_len {sy : Int} {rs : List R3} : ∀ {d : Nat} {lv : List Pa} {out l : List Int}, sizesF sy rs d lv out = some l → l.length ≤ out.length + d := by
  intro d
  induction d with
  | zero => intro lv out l h; cases h; omega
  | succ d ih =>
    intro lv out l h
    by_cases h0 : lv = []
    · simp only [sizesF, if_pos h0, Option.some.injEq] at h
      subst h; omega
    · simp only [sizesF, if_neg h0, Option.bind_eq_some_iff] at h
      obtain ⟨l0, _, h⟩ := h
      have := ih h
      simp at this
      omega
theorem levF_len (sy st : Int) (rs : List R3) (d : Int) : (levF sy st rs d).1.length ≤ 1048576 := by
  unfold levF
  split
  · split
    · rename_i h
      simp only [inB_iff] at h
      unfold hpO
      split
      · simp [listR]
      · obtain ⟨o, ho⟩ : ∃ o, o = sizesF sy rs d.toNat (hpF sy rs) [((hpF sy rs).length : Int)] := ⟨_, rfl⟩
        show (listR (sizesF sy rs d.toNat (hpF sy rs) [((hpF sy rs).length : Int)])).1.length ≤ 1048576
        rw [← ho]
        cases o with
        | none => simp [listR]
        | some l =>
          have := sizesF_len ho.symm
          simp at this
          show l.length ≤ _
          omega
    · simp
  · simp
theorem ancF_ok {sy st : Int} {rs : List R3} (hm : machB sy st rs = true) : ∀ {d : Nat} {lv l : List Pa}, (∀ x ∈ lv, PaOk sy st x ∧ x.cs.length ≤ 60) → lv.length ≤ 300 → ancF sy rs d lv = some l → (∀ x ∈ l, PaOk sy st x ∧ x.cs.length ≤ 60) ∧ l.length ≤ 300 := by
  intro d
  induction d with
  | zero => intro lv l h1 h2 h; cases h; exact ⟨h1, h2⟩
  | succ d ih =>
    intro lv l h1 h2 h
    simp only [ancF, Option.bind_eq_some_iff] at h
    obtain ⟨l0, e, h⟩ := h
    have h3 := nextF_ok hm h1 e
    exact ih h3.1 h3.2 h
theorem ancR_ok (sy st : Int) (rs : List R3) (x : Pa) (d : Int) : (ancR sy st rs x d).1.length ≤ 300 ∧ ∀ y ∈ (ancR sy st rs x d).1, y.cs.length ≤ 60 := by
  unfold ancR
  split
  · rename_i h
    simp only [Bool.and_eq_true] at h
    split
    · obtain ⟨o, ho⟩ : ∃ o, o = ancF sy rs d.toNat [x] := ⟨_, rfl⟩
      rw [← ho]
      cases o with
      | none => simp [listR]
      | some l =>
        have h1 := ancF_ok h.1 (fun y hy => by obtain rfl := List.mem_singleton.1 hy; exact paB_ok h.2) (by simp) ho.symm
        exact ⟨h1.2, fun y hy => (h1.1 y hy).2⟩
    · simp
  · simp
theorem ancR_len (sy st : Int) (rs : List R3) (x : Pa) (d : Int) : (ancR sy st rs x d).1.length ≤ 1000 := Nat.le_trans (ancR_ok sy st rs x d).1 (by decide)
theorem ancR_side (sy st : Int) (rs : List R3) (x : Pa) (d : Int) : ∀ y ∈ (ancR sy st rs x d).1, y.cs.length ≤ 1000 := fun y hy => Nat.le_trans ((ancR_ok sy st rs x d).2 y hy) (by decide)
end Go.Proofs.YtokglpdlhacnaaaDoor

/-
  What the size helpers of the laws come to, in one form.
-/
namespace Go.Proofs.YtokglpdlhacnaaaDoor
open Go.RowKit
def SzP (w : World) (left tot : Int) (e : Ending) (w' : World) : Prop := ∃ z : Int, e = .returned (.int .i64 z) ∧ -1 ≤ z ∧ z ≤ left ∧ (0 ≤ z → z = left - tot) ∧ Below w.heap.size w w'
theorem szF_p {left : Int} {n : Nat} (h0 : 0 ≤ left) : -1 ≤ szF left n ∧ szF left n ≤ left ∧ (0 ≤ szF left n → szF left n = left - n) := by
  unfold szF; split <;> omega
theorem szI_p (A : Option Addr) (n c : Nat) (left : Int) (w : World) (hn : n ≤ 9223372036854775807) (h0 : 0 ≤ left) (h1 : left ≤ 1048576) :
    Calls Tryd.prog 68 #[.slice A n c, .int .i64 left] w (SzP w left n) :=
  (szI A n c left w hn h0 h1).mono fun _e _w' ⟨he, hw⟩ => ⟨_, he, (szF_p h0).1, (szF_p h0).2.1, (szF_p h0).2.2, hw ▸ Below.refl _ _⟩
theorem szR_p (A : Option Addr) (n c : Nat) (left : Int) (w : World) (hn : n ≤ 9223372036854775807) (h0 : 0 ≤ left) (h1 : left ≤ 1048576) : Calls Tryd.prog 53 #[.slice A n c, .int .i64 left] w (SzP w left n) := (szR A n c left w hn h0 h1).mono fun _e _w' ⟨he, hw⟩ => ⟨_, he, (szF_p h0).1, (szF_p h0).2.1, (szF_p h0).2.2, hw ▸ Below.refl _ _⟩
end Go.Proofs.YtokglpdlhacnaaaDoor
