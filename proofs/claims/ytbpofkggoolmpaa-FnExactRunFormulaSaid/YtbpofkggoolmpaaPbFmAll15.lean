/-
  Contract of impl.shiftOver: a machine on a word until the head leaves it.
-/
import Derived.Test.YtbpofkggoolmpaaPbFmAll7
import Derived.Test.YtbpofkggoolmpaaPbFmAll8
namespace Go.Proofs.Ytbpofkggoolmpaa
open Go.RowKit

/-- What shiftOver leaves. -/
def ShiftP (w : World) (r : Option (List Int)) (e : Ending) (w' : World) : Prop :=
  (∃ (out : List Int) (A : Option Addr) (c : Nat) (n : Int), r = some out ∧ e = .returned (.tuple #[.slice A out.length c, .int .i64 n, .int .i64 0]) ∧ Own w' w.heap.size 2 1 A out.length c (ints out) ∧ Below w.heap.size w w') ∨
  (∃ code : Int, r = none ∧ code ≠ 0 ∧ e = .returned (.tuple #[.slice none 0 0, .int .i64 0, .int .i64 code]) ∧ Below w.heap.size w w')
theorem shiftGo_next {sy : Int} {rs : List R3} {q side : Int} {j : Nat} {xs : List Int} {aN : Nat} {now : Int} {r : R3} (hj : j < 200) (hr : ruleAt sy rs now (xs.getD aN 0) = r) :
    shiftGo sy rs q side (200 - j) xs (aN : Int) now = if isRuleB r then (if inB ((aN : Int) + r.b) 0 ((xs.length : Int) - 1) then shiftGo sy rs q side (200 - (j + 1)) (xs.set aN r.a) ((aN : Int) + r.b) r.c else if r.b = side ∧ r.c = q then some (xs.set aN r.a) else none) else none := by
  have e : 200 - j = (200 - (j + 1)) + 1 := by omega
  rw [e]
  simp only [shiftGo, Int.toNat_natCast, hr]
/-- A shift that stands ahead of its step with number j. -/
def ShS (w0 : World) (sy st : Int) (rs : List R3) (q side : Int) (L : Nat) (A : Option Addr) (c : Nat) (r : Option (List Int)) (j : Nat) (at_ now : Int) (wr : World) : Prop :=
  ∃ (xs : List Int) (aN : Nat), xs.length = L ∧ at_ = (aN : Int) ∧ aN < L ∧ 0 ≤ now ∧ now ≤ st - 1 ∧ (∀ x ∈ xs, 0 ≤ x ∧ x ≤ sy - 1) ∧ Own wr w0.heap.size 2 1 A L c (ints xs) ∧ r = shiftGo sy rs q side (200 - j) xs (aN : Int) now ∧ Below w0.heap.size w0 wr

set_option maxRecDepth 100000 in
set_option maxHeartbeats 4000000 in
theorem shiftOver_any (sy st : Int) (A0 : Option Addr) (n0 k0 : Nat) (rs : List R3) (q : Int) (A : Option Addr) (n c : Nat) (ws : List Int) (side : Int) (w : World) (hr : S3 w A0 n0 rs) (hx : SI w A n ws) (hm : machB sy st rs = true) (hq0 : 0 ≤ q) (hq1 : q ≤ st - 1) (hws : ∀ x ∈ ws, 0 ≤ x ∧ x ≤ sy - 1) (hn : n ≤ 1048576) (hn1 : 1 ≤ n) (hside : side = 1 ∨ side = -1) :
    Calls Try.prog 188 #[.agg #[.int .i64 sy, .int .i64 st, .slice A0 n0 k0], .int .i64 q, .slice A n c, .int .i64 side] w (ShiftP w (shiftF sy rs q ws side)) := by
  obtain ⟨res, hres⟩ : ∃ res, res = shiftF sy rs q ws side := ⟨_, rfl⟩
  rw [← hres]
  have hwl : ws.length = n := hx.len
  have HWL := Lib.hid hwl
  have HRES := Lib.hid hres
  have HWS := Lib.hid hws
  have HM := Lib.hid hm
  obtain ⟨s1, s2, s3, s4⟩ := machB_bounds hm
  have hrn : rs.length = n0 := hr.len
  have hl2 := machB_len2 hm
  obtain ⟨_, b0, off0, _, _, rfl, bb0, _, _, _⟩ := hr.pick (k := 0) (by omega)
  have HR := Lib.hid hr
  have HRN := Lib.hid hrn
  clear hres hws hm hr hrn hl2 hwl
  obtain ⟨W, hW_⟩ : ∃ W, W = w.alloc (.cells #[.int .i64 sy, .int .i64 st, .slice (some ⟨b0, off0, none⟩) n0 k0] 36) := ⟨_, rfl⟩
  have bM : Blk W w.heap.size 36 #[.int .i64 sy, .int .i64 st, .slice (some ⟨b0, off0, none⟩) n0 k0] := by rw [hW_]; exact Blk.new w _ _
  have y0 : Below w.heap.size w W := by rw [hW_]; exact (Below.refl _ _).alloc (Nat.le_refl _) _
  have HW := Lib.hid hW_
  clear hW_
  have hszW := y0.size
  have hwW := bM.lt
  have m0 : W.cell? ⟨w.heap.size, 0, none⟩ = some (.int .i64 sy) := bM.cell 0
  have m1 : W.cell? ⟨w.heap.size, 1, none⟩ = some (.int .i64 st) := bM.cell 1
  have m2 : W.cell? ⟨w.heap.size, 2, none⟩ = some (.slice (some ⟨b0, off0, none⟩) n0 k0) := bM.cell 2
  have wn : IntKind.i64.wrap ((n : Int) - 1) = (n : Int) - 1 := IntWalk.i64_in _ (by omega)
  rcases hside with hs | hs
  case' inl =>
    subst hs
    go_enter Try.func188, Try.ntmps188
    go_upto_region 1 with fail
    rw [← HW.out]
    go_wp2_with (go_at_call 175; refine (cloneI_any _ _ _ ws _ (hx.below y0) (by omega)).mono ?_; rintro e W1 ⟨A1, c1, rfl, o1, z1⟩; rw [HWL.out] at o1 ⊢)
    obtain ⟨bb, off, rfl, hbb, hbb2, _, _⟩ := o1.at_ (k := 0) (by have := HWL.out; simp [ints]; omega)
    obtain ⟨sd, hsd⟩ : ∃ sd : Int, sd = 1 := ⟨_, rfl⟩
    have HSD := Lib.hid hsd
    clear hsd
    have HST : Hid (ShS w sy st rs q sd n (some ⟨bb, off, none⟩) c1 res 0 0 q W1) := Lib.hid ⟨ws, 0, HWL.out, rfl, by omega, hq0, hq1, HWS.out, o1.mono y0.size, by rw [HRES.out, HSD.out]; rfl, y0.trans (z1.mono y0.size)⟩
    have hbM1 := bM.below' z1
  case' inr =>
    subst hs
    go_enter Try.func188, Try.ntmps188
    go_upto_region 1 with fail
    rw [← HW.out]
    go_wp2_with (first
      | (go_at_call 175; refine (cloneI_any _ _ _ ws _ (hx.below y0) (by omega)).mono ?_; rintro e W1 ⟨A1, c1, rfl, o1, z1⟩; rw [HWL.out] at o1 ⊢)
      | (go_at_call 258; refine (sizeI_any _ _ _ _ (by omega)).mono ?_; rintro e w' ⟨rfl, rfl⟩))
    obtain ⟨bb, off, rfl, hbb, hbb2, _, _⟩ := o1.at_ (k := 0) (by have := HWL.out; simp [ints]; omega)
    obtain ⟨sd, hsd⟩ : ∃ sd : Int, sd = -1 := ⟨_, rfl⟩
    have HSD := Lib.hid hsd
    clear hsd
    have HST : Hid (ShS w sy st rs q sd n (some ⟨bb, off, none⟩) c1 res 0 ((n : Int) - 1) q W1) := Lib.hid ⟨ws, n - 1, HWL.out, by omega, by omega, hq0, hq1, HWS.out, o1.mono y0.size, by rw [HRES.out, HSD.out]; unfold shiftF startAt; rw [if_pos rfl, HWL.out, show ((n : Int) - 1) = ((n - 1 : Nat) : Int) by omega], y0.trans (z1.mono y0.size)⟩
    have hbM1 := bM.below' z1
  all_goals
    clear m0 m1 m2 hx
    go_loopw [12, 13, 14] (fun s12 s13 s14 wr => ∃ (j : Nat) (at_ now : Int), j ≤ 200 ∧ s14 = .int .i64 (j : Int) ∧ s12 = .int .i64 at_ ∧ s13 = .int .i64 now ∧ Hid (ShS w sy st rs q sd n (some ⟨bb, off, none⟩) c1 res j at_ now wr) ∧ Blk wr w.heap.size 36 #[.int .i64 sy, .int .i64 st, .slice (some ⟨b0, off0, none⟩) n0 k0]) (fun _ _ s14 _ => 200 - (intOf s14).toNat)
    case atStart => exact ⟨0, _, _, by omega, rfl, rfl, rfl, HST, hbM1⟩
    case round =>
      obtain ⟨j, at_, now, hj, rfl, rfl, rfl, HS, hbMr⟩ := hrel
      obtain ⟨xs, aN, hxl, hat, haN, hn0, hn1', hxs, ho, hgo, zw⟩ := HS.out
      subst hat
      have HXL := Lib.hid hxl
      have HGO := Lib.hid hgo
      clear hxl hgo HS
      by_cases hlt : j < 200
      rotate_left
      · obtain rfl : j = 200 := by omega
        have HN : Hid (res = none) := Lib.hid (by rw [HGO.out]; rfl)
        clear HGO hxs ho
        go_wp2_with fail
        exact bodyPost_ret (v := .tuple #[.slice none 0 0, .int .i64 0, .int .i64 3]) (by simp [results, Try.results188, go_sem]) rfl (.inr ⟨3, HN.out, by decide, rfl, zw⟩)
      have hji : (j : Int) < 200 := by omega
      obtain ⟨x, hx⟩ : ∃ x, x = xs.getD aN 0 := ⟨_, rfl⟩
      have hax : aN < xs.length := by rw [HXL.out]; exact haN
      have hx01 : 0 ≤ x ∧ x ≤ sy - 1 := hxs x (by rw [hx, List.getD_eq_getElem?_getD, List.getElem?_eq_getElem hax]; exact List.getElem_mem hax)
      have HXX : Hid (∀ W', Own W' w.heap.size 2 1 (some ⟨bb, off, none⟩) n c1 (ints xs) → W'.cell? ⟨bb, off + aN, none⟩ = some (.int .i64 x) ∧ W'.frozen? ⟨bb, off + aN, none⟩ = false) := Lib.hid (fun W' h => by
        obtain ⟨bb', off', he, _, _, hc, hf⟩ := h.at_ (k := aN) (by simp [ints]; exact hax)
        cases he
        refine ⟨?_, hf⟩
        rw [hc, hx, List.getD_eq_getElem?_getD, List.getElem?_eq_getElem hax]
        simp [ints])
      obtain ⟨idx, hidx, hil, hget, p0, p1, hv⟩ := rule_parts HM.out hn0 hn1' hx01.1 hx01.2
      obtain ⟨r', b2, off2, hr', _, he2, _, c0_, c1_, c2_⟩ := (HR.out.below zw).pick (k := idx) (by rw [← HRN.out]; exact hil)
      cases he2
      obtain rfl : ruleAt sy rs now x = r' := by have e2 := hr'.out; rw [hget] at e2; exact Option.some.inj e2
      have HGN := Lib.hid (HGO.out.trans (shiftGo_next hlt (by rw [← hx])))
      rw [HXL.out] at HGN
      clear HGO hget hr' hx
      generalize ruleAt sy rs now x = r at *
      have hilt : idx < n0 := by rw [← HRN.out]; exact hil
      have wmul : IntKind.i64.wrap (now * sy) = now * sy := IntWalk.i64_in _ (by omega)
      have wadd : IntKind.i64.wrap (now * sy + x) = (idx : Int) := by rw [hidx]; exact IntWalk.i64_in _ (by omega)
      have i1 : (0 : Int) ≤ (idx : Int) := by omega
      have i2 : (idx : Int) < (n0 : Int) := by omega
      have a1 : (0 : Int) ≤ (aN : Int) := by omega
      have a2 : (aN : Int) < (n : Int) := by omega
      have hbbr : bb < wr.heap.size := ho.blk_lt bb rfl
      have KS : Hid (∀ W', Below wr.heap.size wr W' → W'.cell? ⟨w.heap.size, 2, none⟩ = some (.slice (some ⟨b0, off0, none⟩) n0 k0) ∧ W'.cell? ⟨w.heap.size, 0, none⟩ = some (.int .i64 sy) ∧ W'.cell? ⟨bb, off + aN, none⟩ = some (.int .i64 x) ∧ W'.cell? ⟨b0, off0 + idx * 3, none⟩ = some (.int .i64 r.a) ∧ W'.cell? ⟨b0, off0 + idx * 3 + 1, none⟩ = some (.int .i64 r.b) ∧ W'.cell? ⟨b0, off0 + idx * 3 + 2, none⟩ = some (.int .i64 r.c)) := Lib.hid (fun W' h => by
        have hb0 : b0 < wr.heap.size := by have := zw.size; omega
        exact ⟨(hbMr.below' h).cell 2, (hbMr.below' h).cell 0, (HXX.out _ (ho.below h)).1, (h.cell (p := ⟨b0, _, none⟩) hb0).trans c0_, (h.cell (p := ⟨b0, _, none⟩) hb0).trans c1_, (h.cell (p := ⟨b0, _, none⟩) hb0).trans c2_⟩)
      clear c0_ c1_ c2_ hidx p0 p1
      go_upto_region 7 with fail
      have hp : Below wr.heap.size wr wr.drew := below_drewN (Below.refl _ _) 1
      refine wp_region_noPanic ?_
      refine wp_region_held_drew (S := (fun w' => w'.cell? ⟨w.heap.size, 2, none⟩ = some (.slice (some ⟨b0, off0, none⟩) n0 k0) ∧ w'.cell? ⟨w.heap.size, 0, none⟩ = some (.int .i64 sy) ∧ w'.cell? ⟨bb, off + aN, none⟩ = some (.int .i64 x) ∧ w'.cell? ⟨b0, off0 + idx * 3, none⟩ = some (.int .i64 r.a) ∧ w'.cell? ⟨b0, off0 + idx * 3 + 1, none⟩ = some (.int .i64 r.b) ∧ w'.cell? ⟨b0, off0 + idx * 3 + 2, none⟩ = some (.int .i64 r.c))) (by kernel_rfl) ?_ (fun hHeld => ?_)
      · exact KS.out _ hp
      generalize wr.drew = Wc at *
      refine wpAnyH_take (i := 0) (v := ?_) rfl (by kernel_rfl) (by kernel_rfl) (by kernel_rfl) (fun _ _ _ h => h) (Or.inl ⟨by rfl, ?_⟩) (by assumption) ?_
      rotate_left
      · intro w hSw
        try dsimp only at hSw
        obtain ⟨hs0_, hs1_, hs2_, hs3_, hs4_, hs5_⟩ := hSw
        go_simp
        try with_reducible rfl
      try simp only [Act.put, List.setIfInBounds_toArray]
      refine wpAnyH_take (i := 1) (v := ?_) rfl (by kernel_rfl) (by kernel_rfl) (by kernel_rfl) (fun _ _ _ h => h) (Or.inl ⟨by rfl, ?_⟩) (by assumption) ?_
      rotate_left
      · intro w hSw
        try dsimp only at hSw
        obtain ⟨hs0_, hs1_, hs2_, hs3_, hs4_, hs5_⟩ := hSw
        go_simp
        try with_reducible rfl
      try simp only [Act.put]
      refine wpAnyH_take (i := 2) (v := ?_) rfl (by kernel_rfl) (by kernel_rfl) (by kernel_rfl) (fun _ _ _ h => h) (Or.inl ⟨by rfl, ?_⟩) (by assumption) ?_
      rotate_left
      · intro w hSw
        try dsimp only at hSw
        obtain ⟨hs0_, hs1_, hs2_, hs3_, hs4_, hs5_⟩ := hSw
        go_simp
        try with_reducible rfl
      try simp only [Act.put]
      refine wpAnyH_take (i := 3) (v := ?_) rfl (by kernel_rfl) (by kernel_rfl) (by kernel_rfl) (fun _ _ _ h => h) (Or.inl ⟨by rfl, ?_⟩) (by assumption) ?_
      rotate_left
      · intro w hSw
        try dsimp only at hSw
        obtain ⟨hs0_, hs1_, hs2_, hs3_, hs4_, hs5_⟩ := hSw
        go_simp
        try with_reducible rfl
      try simp only [Act.put]
      refine wpAnyH_take (i := 4) (v := ?_) rfl (by kernel_rfl) (by kernel_rfl) (by kernel_rfl) (fun _ _ _ h => h) (Or.inl ⟨by rfl, ?_⟩) (by assumption) ?_
      rotate_left
      · intro w hSw
        try dsimp only at hSw
        obtain ⟨hs0_, hs1_, hs2_, hs3_, hs4_, hs5_⟩ := hSw
        go_simp
        try with_reducible rfl
      try simp only [Act.put]
      refine wpAnyH_take (i := 5) (v := ?_) rfl (by kernel_rfl) (by kernel_rfl) (by kernel_rfl) (fun _ _ _ h => h) (Or.inl ⟨by rfl, ?_⟩) (by assumption) ?_
      rotate_left
      · intro w hSw
        try dsimp only at hSw
        obtain ⟨hs0_, hs1_, hs2_, hs3_, hs4_, hs5_⟩ := hSw
        go_simp
        try with_reducible rfl
      try simp only [Act.put]
      refine wpAnyH_take (i := 6) (v := ?_) rfl (by kernel_rfl) (by kernel_rfl) (by kernel_rfl) (fun _ _ _ h => h) (Or.inl ⟨by rfl, ?_⟩) (by assumption) ?_
      rotate_left
      · intro w hSw
        try dsimp only at hSw
        obtain ⟨hs0_, hs1_, hs2_, hs3_, hs4_, hs5_⟩ := hSw
        go_simp
        try with_reducible rfl
      try simp only [Act.put]
      refine wpAnyH_take (i := 7) (v := ?_) rfl (by kernel_rfl) (by kernel_rfl) (by kernel_rfl) (fun _ _ _ h => h) (Or.inl ⟨by rfl, ?_⟩) (by assumption) ?_
      rotate_left
      · intro w hSw
        try dsimp only at hSw
        obtain ⟨hs0_, hs1_, hs2_, hs3_, hs4_, hs5_⟩ := hSw
        go_simp
        try with_reducible rfl
      try simp only [Act.put]
      refine wpAnyH_take (i := 8) (v := ?_) rfl (by kernel_rfl) (by kernel_rfl) (by kernel_rfl) (fun _ _ _ h => h) (Or.inl ⟨by rfl, ?_⟩) (by assumption) ?_
      rotate_left
      · intro w hSw
        try dsimp only at hSw
        obtain ⟨hs0_, hs1_, hs2_, hs3_, hs4_, hs5_⟩ := hSw
        go_simp
        try with_reducible rfl
      try simp only [Act.put]
      refine wpAnyH_take (i := 9) (v := ?_) rfl (by kernel_rfl) (by kernel_rfl) (by kernel_rfl) (fun _ _ _ h => h) (Or.inl ⟨by rfl, ?_⟩) (by assumption) ?_
      rotate_left
      · intro w hSw
        try dsimp only at hSw
        obtain ⟨hs0_, hs1_, hs2_, hs3_, hs4_, hs5_⟩ := hSw
        go_simp
        try with_reducible rfl
      try simp only [Act.put]
      refine wpAnyH_take (i := 10) (v := ?_) rfl (by kernel_rfl) (by kernel_rfl) (by kernel_rfl) (fun _ _ _ h => h) (Or.inl ⟨by rfl, ?_⟩) (by assumption) ?_
      rotate_left
      · intro w hSw
        try dsimp only at hSw
        obtain ⟨hs0_, hs1_, hs2_, hs3_, hs4_, hs5_⟩ := hSw
        go_simp
        try with_reducible rfl
      try simp only [Act.put]
      refine wpAnyH_take (i := 11) (v := ?_) rfl (by kernel_rfl) (by kernel_rfl) (by kernel_rfl) (fun _ _ _ h => h) (Or.inl ⟨by rfl, ?_⟩) (by assumption) ?_
      rotate_left
      · intro w hSw
        try dsimp only at hSw
        obtain ⟨hs0_, hs1_, hs2_, hs3_, hs4_, hs5_⟩ := hSw
        go_simp
        try with_reducible rfl
      try simp only [Act.put]
      refine wpAnyH_take (i := 12) (v := ?_) rfl (by kernel_rfl) (by kernel_rfl) (by kernel_rfl) (fun _ _ _ h => h) (Or.inl ⟨by rfl, ?_⟩) (by assumption) ?_
      rotate_left
      · intro w hSw
        try dsimp only at hSw
        obtain ⟨hs0_, hs1_, hs2_, hs3_, hs4_, hs5_⟩ := hSw
        go_simp
        try with_reducible rfl
      try simp only [Act.put]
      try simp only [List.getElem_toArray, List.getElem_cons_zero, List.getElem_cons_succ, List.setIfInBounds_toArray, List.set_cons_zero, List.set_cons_succ]
      refine wpAnyH_ready (rs := [13]) (by kernel_rfl) (by simp) ?_
      refine AllReadyH.cons rfl (fun K hK => ?_) ?_
      · go_simp
        obtain ⟨Wn, g13, hWn, hg, z, h13, l13, hp2⟩ := alloc_pack3 hp hp.size #[.int .i64 0, .int .i64 0, .int .i64 0] 229
        rw [hWn, ← hg]
        replace hp := hp2
        clear hWn hg z hp2
        refine hK.out _ _ ?_ (fun hHeld => ?_)
        · first | exact KS.out _ hpf | exact KS.out _ hp
        clear hK K
        try simp only [Act.put, List.setIfInBounds_toArray, List.set_cons_zero, List.set_cons_succ]
        try simp only [putAll, markAll, dstAt, Act.put, List.getElem_toArray, List.getElem?_toArray, List.getElem_cons_zero, List.getElem_cons_succ, List.getElem?_cons_zero, List.getElem?_cons_succ, Option.bind_some, List.setIfInBounds_toArray, List.set_cons_zero, List.set_cons_succ]
        refine wpAnyH_ready (rs := [14]) (by kernel_rfl) (by simp) ?_
        refine AllReadyH.cons rfl (fun K hK => ?_) ?_
        · skip
          have x0 : Wn.cell? ⟨g13, 0, none⟩ = some (.int .i64 0) := h13.cell 0
          have x1 : Wn.cell? ⟨g13, 1, none⟩ = some (.int .i64 0) := h13.cell 1
          have x2 : Wn.cell? ⟨g13, 2, none⟩ = some (.int .i64 0) := h13.cell 2
          have f0 := h13.frozen 0
          have f1 := h13.frozen 1
          have f2 := h13.frozen 2
          go_simp
          clear x0 x1 x2 f0 f1 f2
          have dB : Blk (((Wn.setCell ⟨g13, 0, none⟩ (.int .i64 r.a)).setCell ⟨g13, 1, none⟩ (.int .i64 r.b)).setCell ⟨g13, 2, none⟩ (.int .i64 r.c)) g13 229 #[.int .i64 r.a, .int .i64 r.b, .int .i64 r.c] := (((h13).set_ 0 (.int .i64 r.a)).set_ 1 (.int .i64 r.b)).set_ 2 (.int .i64 r.c)
          have yS : ∀ (lo : Nat) (w0 : World), Below lo w0 Wn → lo ≤ g13 → Below lo w0 (((Wn.setCell ⟨g13, 0, none⟩ (.int .i64 r.a)).setCell ⟨g13, 1, none⟩ (.int .i64 r.b)).setCell ⟨g13, 2, none⟩ (.int .i64 r.c)) := fun lo w0 h hl => (((h.setCell hl _).setCell hl _).setCell hl _)
          have kS : ∀ k, k ≠ g13 → (((Wn.setCell ⟨g13, 0, none⟩ (.int .i64 r.a)).setCell ⟨g13, 1, none⟩ (.int .i64 r.b)).setCell ⟨g13, 2, none⟩ (.int .i64 r.c)).heap[k]? = Wn.heap[k]? := fun k hk => ((Below.heap_setCell _ _ _ _ hk).trans ((Below.heap_setCell _ _ _ _ hk).trans (Below.heap_setCell _ _ _ _ hk)))
          generalize ((Wn.setCell ⟨g13, 0, none⟩ (.int .i64 r.a)).setCell ⟨g13, 1, none⟩ (.int .i64 r.b)).setCell ⟨g13, 2, none⟩ (.int .i64 r.c) = wf at *
          have hpf := yS _ _ hp l13
          refine hK.out _ _ ?_ (fun hHeld => ?_)
          · first | exact KS.out _ hpf | exact KS.out _ hp
          clear hK K
          try simp only [Act.put, List.setIfInBounds_toArray]
          refine wpAnyH_done (by kernel_rfl) ?_ _
          refine NoPanic.normal ?_
          clear KS
          have e0 : wf.cell? ⟨g13, 0, none⟩ = some (.int .i64 r.a) := dB.cell 0
          have e1 : wf.cell? ⟨g13, 1, none⟩ = some (.int .i64 r.b) := dB.cell 1
          have e2 : wf.cell? ⟨g13, 2, none⟩ = some (.int .i64 r.c) := dB.cell 2
          have zwf := zw.trans (hpf.mono zw.size)
          cases hru : isRuleB r
          · have HN : Hid (res = none) := Lib.hid (by rw [HGN.out, hru]; rfl)
            have HRU := Lib.hid hru
            clear hru
            go_wp2_with (go_at_call 259; refine (isRule_is HRU.out _).mono ?_; rintro e W3 ⟨rfl, z3⟩)
            exact bodyPost_ret (v := .tuple #[.slice none 0 0, .int .i64 0, .int .i64 6]) (by simp [results, Try.results188, go_sem]) rfl (.inr ⟨6, HN.out, by decide, rfl, zwf.trans (z3.mono zwf.size)⟩)
          have HRU := Lib.hid hru
          have hvv := hv
          unfold validRuleB at hvv
          rw [hru] at hvv
          simp only [Bool.not_true, Bool.false_or, Bool.and_eq_true, Bool.or_eq_true, beq_iff_eq, inB_iff] at hvv
          obtain ⟨⟨⟨ra0, ra1⟩, hrb⟩, rc0, rc1⟩ := hvv
          have rb0 : -1 ≤ r.b := by omega
          have rb1 : r.b ≤ 1 := by omega
          have HRB := Lib.hid hrb
          rw [hru] at HGN
          clear hru hrb hv
          go_wp2_with fail
          refine (isRule_is HRU.out _).mono ?_
          rintro e W3 ⟨rfl, z3⟩
          have zr3 : Below wr.heap.size wr W3 := hpf.trans (z3.mono hpf.size)
          have zw3 : Below w.heap.size w W3 := zw.trans (zr3.mono zw.size)
          have ho3 := ho.below zr3
          have dB3 := dB.below' z3
          have hgb : g13 ≠ bb := by omega
          clear e0 e1 e2 dB
          obtain ⟨hc3, hf3⟩ := HXX.out _ ho3
          have e0 : W3.cell? ⟨g13, 0, none⟩ = some (.int .i64 r.a) := dB3.cell 0
          have e1 : W3.cell? ⟨g13, 1, none⟩ = some (.int .i64 r.b) := dB3.cell 1
          have e2 : W3.cell? ⟨g13, 2, none⟩ = some (.int .i64 r.c) := dB3.cell 2
          go_upto_region 11 with fail
          have ho4 := ho3.set_ (k := aN) (by simp [ints]; exact hax) (.int .i64 r.a)
          have dB4 := dB3.far (p := ⟨bb, off + aN, none⟩) hgb (.int .i64 r.a)
          have z34 : Below w.heap.size w (W3.setCell ⟨bb, off + aN, none⟩ (.int .i64 r.a)) := zw3.setCell (Nat.le_trans hszW hbb) _
          have hbM4 := (hbMr.below' zr3).far (p := ⟨bb, off + aN, none⟩) (by show w.heap.size ≠ bb; omega) (.int .i64 r.a)
          have hxs4 : ∀ y ∈ xs.set aN r.a, 0 ≤ y ∧ y ≤ sy - 1 := fun y hy => (List.mem_or_eq_of_mem_set hy).elim (hxs y) (fun e => by rw [e]; exact ⟨ra0, ra1⟩)
          have ho5 : Own (W3.setCell ⟨bb, off + aN, none⟩ (.int .i64 r.a)) w.heap.size 2 1 (some ⟨bb, off, none⟩) n c1 (ints (xs.set aN r.a)) := by simpa [ints] using ho4
          clear ho4 ho3 ho hc3 hf3 dB3 hbMr HXX hxs e0 e1 e2 zr3 hpf zwf z3 zw hp
          generalize W3.setCell ⟨bb, off + aN, none⟩ (.int .i64 r.a) = W4 at *
          have waN : IntKind.i64.wrap ((aN : Int) + r.b) = (aN : Int) + r.b := IntWalk.i64_in _ (by omega)
          have e1 := dB4.cell 1
          have e2 := dB4.cell 2
          have HQ := Lib.hid (fun W' (z : Below W4.heap.size W4 W') => (⟨ho5.below z, dB4.below' z, hbM4.below' z, z34.trans (z.mono z34.size)⟩ : Own W' w.heap.size 2 1 (some ⟨bb, off, none⟩) n c1 (ints (xs.set aN r.a)) ∧ Blk W' g13 229 #[.int .i64 r.a, .int .i64 r.b, .int .i64 r.c] ∧ Blk W' w.heap.size 36 #[.int .i64 sy, .int .i64 st, .slice (some ⟨b0, off0, none⟩) n0 k0] ∧ Below w.heap.size w W'))
          clear ho5 dB4 hbM4 z34
          go_quiet (fail)
          obtain ⟨ho6, dB6, hbM6, z36⟩ := HQ.out (W4.drewN nq) (below_drewN (Below.refl _ _) nq)
          clear e1 e2 HQ
          generalize W4.drewN nq = W5 at *
          have e0 : W5.cell? ⟨g13, 0, none⟩ = some (.int .i64 r.a) := dB6.cell 0
          have e1 : W5.cell? ⟨g13, 1, none⟩ = some (.int .i64 r.b) := dB6.cell 1
          have e2 : W5.cell? ⟨g13, 2, none⟩ = some (.int .i64 r.c) := dB6.cell 2
          cases hin : inB ((aN : Int) + r.b) 0 ((n : Int) - 1)
          rotate_left
          · have HIN := Lib.hid hin
            have hin2 := (inB_iff _ _ _).1 hin
            rw [hin] at HGN
            obtain ⟨aM, haM⟩ : ∃ aM : Nat, (aN : Int) + r.b = (aM : Int) := ⟨((aN : Int) + r.b).toNat, by omega⟩
            have HS2 : Hid (ShS w sy st rs q sd n (some ⟨bb, off, none⟩) c1 res (j + 1) ((aN : Int) + r.b) r.c W5) := Lib.hid ⟨xs.set aN r.a, aM, by rw [List.length_set]; exact HXL.out, haM, by omega, rc0, rc1, hxs4, ho6, by rw [HGN.out, ← haM]; rfl, z36⟩
            clear hin hin2 haM HGN
            go_wp2_with (first
              | (go_at_call 258; refine (sizeI_any _ _ _ _ (by omega)).mono ?_; rintro e w' ⟨rfl, rfl⟩)
              | (go_at_call 104; (with_reducible refine (within_is HIN.out _).mono ?_); rintro e w' ⟨rfl, rfl⟩))
            exact ⟨⟨j + 1, _, _, by omega, by go_num, rfl, rfl, HS2, hbM6⟩, by simp [intOf]; omega⟩
          have HIN := Lib.hid hin
          rw [hin] at HGN
          clear hin
          by_cases g1 : r.b = sd
          rotate_left
          · have HN : Hid (res = none) := Lib.hid (by rw [HGN.out]; simp [g1])
            rw [HSD.out] at g1
            clear HGN
            go_wp2_with (first
              | (go_at_call 258; refine (sizeI_any _ _ _ _ (by omega)).mono ?_; rintro e w' ⟨rfl, rfl⟩)
              | (go_at_call 104; (with_reducible refine (within_is HIN.out _).mono ?_); rintro e w' ⟨rfl, rfl⟩))
            exact bodyPost_ret (v := .tuple #[.slice none 0 0, .int .i64 0, .int .i64 3]) (by simp [results, Try.results188, go_sem]) rfl (.inr ⟨3, HN.out, by decide, rfl, z36⟩)
          by_cases g2 : r.c = q
          rotate_left
          · have HN : Hid (res = none) := Lib.hid (by rw [HGN.out]; simp [g2])
            have d1 : (r.b != sd) = false := by simp [g1]
            have d2 : (r.c != q) = true := by simp [g2]
            rw [HSD.out] at d1
            clear HGN g1
            go_wp2_with (first
              | (go_at_call 258; refine (sizeI_any _ _ _ _ (by omega)).mono ?_; rintro e w' ⟨rfl, rfl⟩)
              | (go_at_call 104; (with_reducible refine (within_is HIN.out _).mono ?_); rintro e w' ⟨rfl, rfl⟩))
            exact bodyPost_ret (v := .tuple #[.slice none 0 0, .int .i64 0, .int .i64 3]) (by simp [results, Try.results188, go_sem]) rfl (.inr ⟨3, HN.out, by decide, rfl, z36⟩)
          have HN : Hid (res = some (xs.set aN r.a)) := Lib.hid (by rw [HGN.out]; simp [g1, g2])
          have hls : (xs.set aN r.a).length = n := by rw [List.length_set]; exact HXL.out
          have HLS := Lib.hid hls
          have d1 : (r.b != sd) = false := by simp [g1]
          have d2 : (r.c != q) = false := by simp [g2]
          rw [HSD.out] at d1
          have wj : IntKind.i64.wrap ((j : Int) + 1) = (j : Int) + 1 := IntWalk.i64_in _ (by omega)
          clear HGN hls g1 g2
          go_wp2_with (first
            | (go_at_call 258; refine (sizeI_any _ _ _ _ (by omega)).mono ?_; rintro e w' ⟨rfl, rfl⟩)
            | (go_at_call 104; (with_reducible refine (within_is HIN.out _).mono ?_); rintro e w' ⟨rfl, rfl⟩))
          exact bodyPost_ret (v := .tuple #[.slice (some ⟨bb, off, none⟩) n c1, .int .i64 ((j : Int) + 1), .int .i64 0]) (by simp [results, Try.results188, go_sem]) rfl (.inl ⟨_, some ⟨bb, off, none⟩, c1, (j : Int) + 1, HN.out, by rw [HLS.out], by rw [HLS.out]; exact ho6, z36⟩)
        exact AllReadyH.nil
      exact AllReadyH.nil
end Go.Proofs.Ytbpofkggoolmpaa
