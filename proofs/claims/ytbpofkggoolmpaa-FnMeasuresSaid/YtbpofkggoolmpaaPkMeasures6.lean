/-
  The observer 'measurer': contracts of its methods, and of MeasureRun.
-/
import Derived.Test.YtbpofkggoolmpaaPkMeasures4
import Derived.Test.YtbpofkggoolmpaaPkMeasures5
namespace Go.Proofs.Ytbpofkggoolmpaa
open Go.RowKit

set_option maxHeartbeats 1000000 in
theorem countZ_any (A : Option Addr) (n c : Nat) (xs : List Int) (v : Int) (w : World) (hx : SI w A n xs) (hn : n ≤ 1048576) :
    Calls Try.prog 318 #[.slice A n c, .int .i64 v] w fun e w' => e = .returned (.int .i64 (xs.count v : Int)) ∧ w = w' := by
  have HL := Lib.hid hx.len
  go_enter Try.func318, Try.ntmps318
  go_wp2
  go_loop [5, 10] (fun t i => ∃ j q : Nat, j ≤ n ∧ i = .int .i64 (j : Int) ∧ t = .int .i64 (q : Int) ∧ Hid (q = (xs.take j).count v) ∧ q ≤ j) (fun _ i => n - (intOf i).toNat)
  case atStart => exact ⟨0, 0, by omega, rfl, rfl, by simp [Hid], by omega⟩
  case round =>
    obtain ⟨j, q, hj, rfl, rfl, hq, hqj⟩ := hrel
    by_cases hjn : j < n
    · obtain ⟨b, off, rfl, _, hc⟩ := hx.at_ hjn
      obtain ⟨y, hy⟩ : ∃ y, y = xs[j]'(by rw [HL.out]; exact hjn) := ⟨_, rfl⟩
      have HN := Lib.hid (show (xs.take (j + 1)).count v = (xs.take j).count v + if y = v then 1 else 0 by
        rw [List.take_succ_eq_append_getElem (by rw [HL.out]; exact hjn), List.count_append, ← hy]
        by_cases h : y = v <;> simp [h])
      rw [← hy] at hc
      clear hy
      by_cases hyv : y = v
      · have hd : (y == v) = true := by simpa using hyv
        have HQ : Hid (q + 1 = (xs.take (j + 1)).count v) := Lib.hid (by rw [HN.out, if_pos hyv, hq.out])
        clear hyv
        go_wp2
        exact ⟨⟨j + 1, q + 1, by omega, by go_num, by go_num, HQ.out, by omega⟩, by simp [intOf]; omega⟩
      · have hd : (y == v) = false := by simpa using hyv
        have HQ : Hid (q = (xs.take (j + 1)).count v) := Lib.hid (by rw [HN.out, if_neg hyv, hq.out]; rfl)
        clear hyv
        go_wp2
        exact ⟨⟨j + 1, q, by omega, by go_num, rfl, HQ.out, by omega⟩, by simp [intOf]; omega⟩
    · have HQ : Hid (q = xs.count v) := Lib.hid (by have := hq.out; rwa [List.take_of_length_le (by rw [HL.out]; omega)] at this)
      go_wp2
      go_ret
      exact ⟨ret_int (by rw [HQ.out]), rfl⟩

theorem measM_config (g : Nat) (w : World) : (method 452 143 (.pointer (some ⟨g, 0, none⟩)) "loop.example/g01079/impl.config").run Try.prog w = .ok (316, .pointer (some ⟨g, 0, none⟩)) w := by kernel_rfl
theorem measM_step (g : Nat) (w : World) : (method 452 143 (.pointer (some ⟨g, 0, none⟩)) "loop.example/g01079/impl.step").run Try.prog w = .ok (317, .pointer (some ⟨g, 0, none⟩)) w := by kernel_rfl

/-- The observer in memory beside a runner. -/
structure MX (w0 : World) (b g : Nat) (sy st : Int) (A : Option Addr) (n k : Nat) (c : Conf) (L : Option Addr) (cl : Nat) (R : Option Addr) (d : Nat) (T : TypeId) (cs : Array Value) (W : World) : Prop where
  box : Blk W b T cs
  rat : RunAt W g sy st A n k c.q L c.xs.reverse.length cl R c.ys.reverse.length d
  ol : Own W w0.heap.size 2 1 L c.xs.reverse.length cl (ints c.xs.reverse)
  or_ : Own W w0.heap.size 2 1 R c.ys.reverse.length d (ints c.ys.reverse)
  ap : ∀ x, blk L = some x → blk R ≠ some x
  xl : ∀ x, blk L = some x → ¬ x = b
  xr : ∀ x, blk R = some x → ¬ x = b
  low : Below w0.heap.size w0 W
  lob : w0.heap.size ≤ b
  bg : b ≠ g
section
variable {w0 W W' : World} {b g : Nat} {sy st : Int} {A : Option Addr} {n k : Nat} {c : Conf} {L : Option Addr} {cl : Nat} {R : Option Addr} {d : Nat} {T : TypeId} {cs : Array Value}
theorem MX.run (h : MX w0 b g sy st A n k c L cl R d T cs W) : RunC (fun x => x = b) W w0.heap.size g sy st A n k c := ⟨L, cl, R, d, h.rat, h.ol, h.or_, h.ap, h.xl, h.xr⟩
theorem MX.below (h : MX w0 b g sy st A n k c L cl R d T cs W) (z : Below W.heap.size W W') : MX w0 b g sy st A n k c L cl R d T cs W' :=
  ⟨h.box.below' z, Blk.below' h.rat z, h.ol.below z, h.or_.below z, h.ap, h.xl, h.xr, h.low.trans (z.mono h.low.size), h.lob, h.bg⟩
theorem MX.set (h : MX w0 b g sy st A n k c L cl R d T cs W) (j : Nat) (v : Value) : MX w0 b g sy st A n k c L cl R d T (cs.setIfInBounds j v) (W.setCell ⟨b, j, none⟩ v) :=
  ⟨h.box.set_ j v, Blk.far h.rat (p := ⟨b, j, none⟩) (fun e => h.bg e.symm) v, h.ol.set_far (fun e => h.xl b e rfl) v, h.or_.set_far (fun e => h.xr b e rfl) v, h.ap, h.xl, h.xr, h.low.setCell (p := ⟨b, j, none⟩) h.lob _, h.lob, h.bg⟩
theorem RunC.mx {X : Nat → Prop} (h : RunC X W w0.heap.size g sy st A n k c) (hb : X b) (hg : ¬ X g) (box : Blk W b T cs) (low : Below w0.heap.size w0 W) (lob : w0.heap.size ≤ b) : ∃ L cl R d, MX w0 b g sy st A n k c L cl R d T cs W := by
  obtain ⟨L, cl, R, d, e1, e2, e3, e4, e5, e6⟩ := h
  exact ⟨L, cl, R, d, box, e1, e2, e3, e4, fun x hx e => e5 x hx (by rw [e]; exact hb), fun x hx e => e6 x hx (by rw [e]; exact hb), low, lob, fun e => hg (by rw [← e]; exact hb)⟩
end
/-- Its cells. -/
def mcells (sp lo hi ch tu mk la : Int) : Array Value := #[.int .i64 0, .bool false, .int .i64 sp, .int .i64 lo, .int .i64 hi, .int .i64 ch, .int .i64 tu, .int .i64 mk, .int .i64 la]
/-- The observer's data: the least and the greatest cell of the first i configurations, and what was seen of i' steps. -/
def MD (w0 : World) (b : Nat) (sy : Int) (rs : List R3) (c : Conf) (i i' : Nat) (X : Nat → Prop) (W : World) : Prop :=
  ∃ sp ch tu mk la : Int, X b ∧ w0.heap.size ≤ b ∧ Blk W b 145 (mcells sp (loF sy rs c i) (hiF sy rs c i) ch tu mk la) ∧ sp ≤ 400 ∧ 0 ≤ mk ∧ mk ≤ sp ∧ 0 ≤ ch ∧ ch ≤ (i' : Int) ∧ 0 ≤ tu ∧ tu ≤ (i' : Int)
theorem MD.st (w0 : World) (b : Nat) (sy : Int) (rs : List R3) (c : Conf) (i i' : Nat) : StF (MD w0 b sy rs c i i') := by
  rintro X W W' ⟨sp, ch, tu, mk, la, h1, h2, h3, h4⟩ hf
  exact ⟨sp, ch, tu, mk, la, h1, h2, h3.fr hf h1, h4⟩
theorem FS.mx {w0 W : World} {b g : Nat} {sy st : Int} {A : Option Addr} {n k : Nat} {rs : List R3} {c c' : Conf} {i i' : Nat} (h : FS w0 g sy st A n k c' (MD w0 b sy rs c i i') W) :
    ∃ sp ch tu mk la : Int, (∃ L cl R d, MX w0 b g sy st A n k c' L cl R d 145 (mcells sp (loF sy rs c i) (hiF sy rs c i) ch tu mk la) W) ∧ sp ≤ 400 ∧ 0 ≤ mk ∧ mk ≤ sp ∧ 0 ≤ ch ∧ ch ≤ (i' : Int) ∧ 0 ≤ tu ∧ tu ≤ (i' : Int) := by
  obtain ⟨X, hXg, hXb, hrun, hy, sp, ch, tu, mk, la, h1, h2, h3, h4⟩ := h
  exact ⟨sp, ch, tu, mk, la, hrun.mx h1 hXg h3 hy h2, h4⟩
theorem MX.fs {w0 W : World} {b g : Nat} {sy st : Int} {A : Option Addr} {n k : Nat} {rs : List R3} {c c' : Conf} {L : Option Addr} {cl : Nat} {R : Option Addr} {d : Nat} {i i' : Nat} {sp ch tu mk la : Int} (h : MX w0 b g sy st A n k c' L cl R d 145 (mcells sp (loF sy rs c i) (hiF sy rs c i) ch tu mk la) W)
    (h4 : sp ≤ 400 ∧ 0 ≤ mk ∧ mk ≤ sp ∧ 0 ≤ ch ∧ ch ≤ (i' : Int) ∧ 0 ≤ tu ∧ tu ≤ (i' : Int)) : FS w0 g sy st A n k c' (MD w0 b sy rs c i i') W :=
  ⟨fun x => x = b, fun e => h.bg e.symm, fun x hx => by rw [hx]; exact h.box.lt, h.run, h.low, sp, ch, tu, mk, la, rfl, h.lob, h.box, h4⟩

set_option maxRecDepth 100000 in
set_option maxHeartbeats 4000000 in
theorem measurerConfig_any (w0 : World) (g : Nat) (sy st : Int) (A : Option Addr) (n k : Nat) (rs : List R3) (c0 : Conf) (i b : Nat) (W : World) (hgd : goodC sy st rs (itC sy rs c0 i)) (hS : FS w0 g sy st A n k (itC sy rs c0 i) (MD w0 b sy rs c0 i i) W) :
    Calls Try.prog 316 #[.pointer (some ⟨b, 0, none⟩), .pointer (some ⟨g, 0, none⟩), .int .i64 (posF sy rs c0 i)] W fun e W' => (∃ u, e = .returned u) ∧ FS w0 g sy st A n k (itC sy rs c0 i) (MD w0 b sy rs c0 (i + 1) i) W' := by
  obtain ⟨sp, ch, tu, mk, la, ⟨L, cl, R, d, hm⟩, b1, b2, b3, b4, b5, b6, b7⟩ := hS.mx
  obtain ⟨h1, h2, h3, h4, hnl, h5, h6, hx2, hy2, hxm, hym, hrsv⟩ := conf_parts hgd
  have HFIN : Hid (∀ (sp lo hi mk : Int) (c' : Conf) (W : World), c' = itC sy rs c0 i → lo = loF sy rs c0 (i + 1) → hi = hiF sy rs c0 (i + 1) → sp ≤ 400 → 0 ≤ mk → mk ≤ sp → MX w0 b g sy st A n k c' L cl R d 145 (mcells sp lo hi ch tu mk la) W → FS w0 g sy st A n k (itC sy rs c0 i) (MD w0 b sy rs c0 (i + 1) i) W) := Lib.hid (fun sp lo hi mk c' W hc hl hh h1 h2 h3 h => by
    subst hc hl hh
    exact h.fs ⟨h1, h2, h3, b4, b5, b6, b7⟩)
  have HLO : Hid (min (loF sy rs c0 i) (posF sy rs c0 i) = loF sy rs c0 (i + 1)) := Lib.hid rfl
  have HHI : Hid (max (hiF sy rs c0 i) (posF sy rs c0 i) = hiF sy rs c0 (i + 1)) := Lib.hid rfl
  clear hS hgd h1 h2 h3 h4 hnl h5 h6 hxm hym hrsv
  generalize hcc : itC sy rs c0 i = cc at *
  have HCC := Lib.hid hcc.symm
  clear hcc b4 b5 b6 b7
  generalize posF sy rs c0 i = p at *
  generalize loF sy rs c0 i = lo at *
  generalize hiF sy rs c0 i = hi at *
  have hxl : cc.xs.reverse.length ≤ 200 := by rw [List.length_reverse]; exact hx2
  have hyl : cc.ys.reverse.length ≤ 200 := by rw [List.length_reverse]; exact hy2
  have HCL := Lib.hid (fun cs W' (h : MX w0 b g sy st A n k cc L cl R d 145 cs W') => countZ_any L cc.xs.reverse.length cl cc.xs.reverse 0 W' h.ol.rd (by omega))
  have HCR := Lib.hid (fun cs W' (h : MX w0 b g sy st A n k cc L cl R d 145 cs W') => countZ_any R cc.ys.reverse.length d cc.ys.reverse 0 W' h.or_.rd (by omega))
  have KG : Hid (∀ cs W', MX w0 b g sy st A n k cc L cl R d 145 cs W' → W'.cell? ⟨g, 4, none⟩ = some (.slice L cc.xs.reverse.length cl) ∧ W'.cell? ⟨g, 5, none⟩ = some (.slice R cc.ys.reverse.length d)) := Lib.hid (fun cs W' h => ⟨h.rat.cell 4, h.rat.cell 5⟩)
  have q1 := List.count_le_length (a := (0 : Int)) (l := cc.xs.reverse)
  have q2 := List.count_le_length (a := (0 : Int)) (l := cc.ys.reverse)
  generalize cc.xs.reverse.length = nl at *
  generalize cc.ys.reverse.length = nr at *
  generalize cc.xs.reverse.count 0 = k1 at *
  generalize cc.ys.reverse.count 0 = k2 at *
  clear hx2 hy2
  obtain ⟨sp', hsp'⟩ : ∃ v, (if sp < (nl : Int) + (nr : Int) then (nl : Int) + (nr : Int) else sp) = v := ⟨_, rfl⟩
  have hsp1 : sp ≤ sp' ∧ (nl : Int) + (nr : Int) ≤ sp' ∧ sp' ≤ 400 := by rw [← hsp']; split <;> omega
  have w1 : IntKind.i64.wrap ((nl : Int) + (nr : Int)) = (nl : Int) + (nr : Int) := IntWalk.i64_in _ (by omega)
  go_enter Try.func316, Try.ntmps316
  go_upto_region 1 with fail
  go_cut [6] (fun s6 wx => s6 = .pointer (some ⟨b, 0, none⟩) ∧ MX w0 b g sy st A n k cc L cl R d 145 (mcells sp' lo hi ch tu mk la) wx)
  case first =>
    refine wp_region_noPanic ?_
    refine wp_region_held_drew (S := (fun w' => w'.cell? ⟨g, 4, none⟩ = some (.slice L nl cl) ∧ w'.cell? ⟨g, 5, none⟩ = some (.slice R nr d))) (by kernel_rfl) ?_ (fun hHeld => ?_)
    · exact KG.out _ _ (hm.below (show Below W.heap.size W W.drew from below_drewN (Below.refl _ _) 1))
    replace hm := hm.below (show Below W.heap.size W W.drew from below_drewN (Below.refl _ _) 1)
    generalize W.drew = Wc at *
    have hq := hm
    refine wpAnyH_take (i := 0) (v := ?_) rfl (by kernel_rfl) (by kernel_rfl) (by kernel_rfl) (fun _ _ _ h => h) (Or.inl ⟨by rfl, ?_⟩) (by assumption) ?_
    rotate_left
    · intro w hSw
      try dsimp only at hSw
      obtain ⟨hs0_, hs1_⟩ := hSw
      go_simp
      try with_reducible rfl
    try simp only [Act.put, List.setIfInBounds_toArray]
    refine wpAnyH_take (i := 1) (v := ?_) rfl (by kernel_rfl) (by kernel_rfl) (by kernel_rfl) (fun _ _ _ h => h) (Or.inl ⟨by rfl, ?_⟩) (by assumption) ?_
    rotate_left
    · intro w hSw
      try dsimp only at hSw
      obtain ⟨hs0_, hs1_⟩ := hSw
      go_simp
      try with_reducible rfl
    try simp only [Act.put]
    refine wpAnyH_take (i := 2) (v := ?_) rfl (by kernel_rfl) (by kernel_rfl) (by kernel_rfl) (fun _ _ _ h => h) (Or.inl ⟨by rfl, ?_⟩) (by assumption) ?_
    rotate_left
    · intro w hSw
      try dsimp only at hSw
      obtain ⟨hs0_, hs1_⟩ := hSw
      go_simp
      try with_reducible rfl
    try simp only [Act.put]
    refine wpAnyH_take (i := 3) (v := ?_) rfl (by kernel_rfl) (by kernel_rfl) (by kernel_rfl) (fun _ _ _ h => h) (Or.inl ⟨by rfl, ?_⟩) (by assumption) ?_
    rotate_left
    · intro w hSw
      try dsimp only at hSw
      obtain ⟨hs0_, hs1_⟩ := hSw
      go_simp
      try with_reducible rfl
    try simp only [Act.put]
    refine wpAnyH_take (i := 5) (v := ?_) rfl (by kernel_rfl) (by kernel_rfl) (by kernel_rfl) (fun _ _ _ h => h) (Or.inl ⟨by rfl, ?_⟩) (by assumption) ?_
    rotate_left
    · intro w hSw
      try dsimp only at hSw
      obtain ⟨hs0_, hs1_⟩ := hSw
      go_simp
      try with_reducible rfl
    try simp only [Act.put]
    refine wpAnyH_take (i := 6) (v := ?_) rfl (by kernel_rfl) (by kernel_rfl) (by kernel_rfl) (fun _ _ _ h => h) (Or.inl ⟨by rfl, ?_⟩) (by assumption) ?_
    rotate_left
    · intro w hSw
      try dsimp only at hSw
      obtain ⟨hs0_, hs1_⟩ := hSw
      go_simp
      try with_reducible rfl
    try simp only [Act.put]
    refine wpAnyH_take (i := 7) (v := ?_) rfl (by kernel_rfl) (by kernel_rfl) (by kernel_rfl) (fun _ _ _ h => h) (Or.inl ⟨by rfl, ?_⟩) (by assumption) ?_
    rotate_left
    · intro w hSw
      try dsimp only at hSw
      obtain ⟨hs0_, hs1_⟩ := hSw
      go_simp
      try with_reducible rfl
    try simp only [Act.put]
    refine wpAnyH_take (i := 8) (v := ?_) rfl (by kernel_rfl) (by kernel_rfl) (by kernel_rfl) (fun _ _ _ h => h) (Or.inl ⟨by rfl, ?_⟩) (by assumption) ?_
    rotate_left
    · intro w hSw
      try dsimp only at hSw
      obtain ⟨hs0_, hs1_⟩ := hSw
      go_simp
      try with_reducible rfl
    try simp only [Act.put]
    refine wpAnyH_take (i := 10) (v := ?_) rfl (by kernel_rfl) (by kernel_rfl) (by kernel_rfl) (fun _ _ _ h => h) (Or.inl ⟨by rfl, ?_⟩) (by assumption) ?_
    rotate_left
    · intro w hSw
      try dsimp only at hSw
      obtain ⟨hs0_, hs1_⟩ := hSw
      go_simp
      try with_reducible rfl
    try simp only [Act.put]
    refine wpAnyH_take (i := 11) (v := ?_) rfl (by kernel_rfl) (by kernel_rfl) (by kernel_rfl) (fun _ _ _ h => h) (Or.inl ⟨by rfl, ?_⟩) (by assumption) ?_
    rotate_left
    · intro w hSw
      try dsimp only at hSw
      obtain ⟨hs0_, hs1_⟩ := hSw
      go_simp
      try with_reducible rfl
    try simp only [Act.put]
    refine wpAnyH_take (i := 12) (v := ?_) rfl (by kernel_rfl) (by kernel_rfl) (by kernel_rfl) (fun _ _ _ h => h) (Or.inl ⟨by rfl, ?_⟩) (by assumption) ?_
    rotate_left
    · intro w hSw
      try dsimp only at hSw
      obtain ⟨hs0_, hs1_⟩ := hSw
      go_simp
      try with_reducible rfl
    try simp only [Act.put]
    refine wpAnyH_take (i := 13) (v := ?_) rfl (by kernel_rfl) (by kernel_rfl) (by kernel_rfl) (fun _ _ _ h => h) (Or.inl ⟨by rfl, ?_⟩) (by assumption) ?_
    rotate_left
    · intro w hSw
      try dsimp only at hSw
      obtain ⟨hs0_, hs1_⟩ := hSw
      go_simp
      try with_reducible rfl
    try simp only [Act.put]
    try simp only [putAll, markAll, dstAt, Act.put, List.getElem_toArray, List.getElem?_toArray, List.getElem_cons_zero, List.getElem_cons_succ, List.getElem?_cons_zero, List.getElem?_cons_succ, Option.bind_some, List.setIfInBounds_toArray, List.set_cons_zero, List.set_cons_succ]
    refine wpAnyH_ready (rs := [4, 9]) (by kernel_rfl) (by simp) ?_
    refine AllReadyH.cons rfl (fun K hK => ?_) ?_
    · have xf : Wc.cell? ⟨b, 2, none⟩ = some (.int .i64 sp) := hm.box.cell 2
      go_simp
      clear xf
      refine hK.out _ _ ?_ (fun hHeld => ?_)
      · exact KG.out _ _ hq
      clear hK K
      try simp only [Act.put, List.setIfInBounds_toArray, List.set_cons_zero, List.set_cons_succ]
      try simp only [putAll, markAll, dstAt, Act.put, List.getElem_toArray, List.getElem?_toArray, List.getElem_cons_zero, List.getElem_cons_succ, List.getElem?_cons_zero, List.getElem?_cons_succ, Option.bind_some, List.setIfInBounds_toArray, List.set_cons_zero, List.set_cons_succ]
      refine wpAnyH_ready (rs := [9]) (by kernel_rfl) (by simp) ?_
      refine AllReadyH.cons rfl (fun K hK => ?_) ?_
      · go_simp
        refine (sizeI_any _ _ _ _ (by omega)).mono ?_
        rintro e wc_ ⟨rfl, rfl⟩
        refine hK.out _ _ ?_ (fun hHeld => ?_)
        · exact KG.out _ _ hq
        clear hK K
        try simp only [Act.put, List.setIfInBounds_toArray, List.set_cons_zero, List.set_cons_succ]
        try simp only [putAll, markAll, dstAt, Act.put, List.getElem_toArray, List.getElem?_toArray, List.getElem_cons_zero, List.getElem_cons_succ, List.getElem?_cons_zero, List.getElem?_cons_succ, Option.bind_some, List.setIfInBounds_toArray, List.set_cons_zero, List.set_cons_succ]
        refine wpAnyH_ready (rs := [14]) (by kernel_rfl) (by simp) ?_
        refine AllReadyH.cons rfl (fun K hK => ?_) ?_
        · go_simp
          refine (sizeI_any _ _ _ _ (by omega)).mono ?_
          rintro e wc_ ⟨rfl, rfl⟩
          refine hK.out _ _ ?_ (fun hHeld => ?_)
          · exact KG.out _ _ hq
          clear hK K
          try simp only [Act.put, List.setIfInBounds_toArray, List.set_cons_zero, List.set_cons_succ]
          refine wpAnyH_take (i := 15) (v := ?_) rfl (by kernel_rfl) (by kernel_rfl) (by kernel_rfl) (fun _ _ _ h => h) (Or.inl ⟨by rfl, ?_⟩) (by assumption) ?_
          rotate_left
          · intro w hSw
            try dsimp only at hSw
            obtain ⟨hs0_, hs1_⟩ := hSw
            go_simp
            try with_reducible rfl
          try simp only [Act.put, List.setIfInBounds_toArray]
          refine wpAnyH_take (i := 16) (v := ?_) rfl (by kernel_rfl) (by kernel_rfl) (by kernel_rfl) (fun _ _ _ h => h) (Or.inl ⟨by rfl, ?_⟩) (by assumption) ?_
          rotate_left
          · intro w hSw
            try dsimp only at hSw
            obtain ⟨hs0_, hs1_⟩ := hSw
            go_simp
            try with_reducible rfl
          try simp only [Act.put]
          refine wpAnyH_take (i := 17) (v := ?_) rfl (by kernel_rfl) (by kernel_rfl) (by kernel_rfl) (fun _ _ _ h => h) (Or.inl ⟨by rfl, ?_⟩) (by assumption) ?_
          rotate_left
          · intro w hSw
            try dsimp only at hSw
            obtain ⟨hs0_, hs1_⟩ := hSw
            go_simp
            try with_reducible rfl
          try simp only [Act.put]
          refine wpAnyH_take (i := 18) (v := ?_) rfl (by kernel_rfl) (by kernel_rfl) (by kernel_rfl) (fun _ _ _ h => h) (Or.inl ⟨by rfl, ?_⟩) (by assumption) ?_
          rotate_left
          · intro w hSw
            try dsimp only at hSw
            obtain ⟨hs0_, hs1_⟩ := hSw
            go_simp
            try with_reducible rfl
          try simp only [Act.put]
          try simp only [putAll, markAll, dstAt, Act.put, List.getElem_toArray, List.getElem?_toArray, List.getElem_cons_zero, List.getElem_cons_succ, List.getElem?_cons_zero, List.getElem?_cons_succ, Option.bind_some, List.setIfInBounds_toArray, List.set_cons_zero, List.set_cons_succ]
          refine wpAnyH_ready (rs := [19]) (by kernel_rfl) (by simp) ?_
          refine AllReadyH.cons rfl (fun K hK => ?_) ?_
          · have xz := hm.box.frozen 2
            have xf : Wc.cell? ⟨b, 2, none⟩ = some (.int .i64 sp) := hm.box.cell 2
            go_simp
            clear xf xz
            have hq := hm.set 2 (.int .i64 sp')
            refine hK.out _ _ ?_ (fun hHeld => ?_)
            · exact KG.out _ _ hq
            clear hK K
            try simp only [Act.put, List.setIfInBounds_toArray]
            refine wpAnyH_done (by kernel_rfl) ?_ _
            refine NoPanic.normal ?_
            go_wp2_with fail
            go_meet
            exact ⟨rfl, hq⟩
          exact AllReadyH.nil
        exact AllReadyH.nil
      exact AllReadyH.nil
    refine AllReadyH.cons rfl (fun K hK => ?_) ?_
    · go_simp
      refine (sizeI_any _ _ _ _ (by omega)).mono ?_
      rintro e wc_ ⟨rfl, rfl⟩
      refine hK.out _ _ ?_ (fun hHeld => ?_)
      · exact KG.out _ _ hq
      clear hK K
      try simp only [Act.put, List.setIfInBounds_toArray, List.set_cons_zero, List.set_cons_succ]
      try simp only [putAll, markAll, dstAt, Act.put, List.getElem_toArray, List.getElem?_toArray, List.getElem_cons_zero, List.getElem_cons_succ, List.getElem?_cons_zero, List.getElem?_cons_succ, Option.bind_some, List.setIfInBounds_toArray, List.set_cons_zero, List.set_cons_succ]
      refine wpAnyH_ready (rs := [4, 14]) (by kernel_rfl) (by simp) ?_
      refine AllReadyH.cons rfl (fun K hK => ?_) ?_
      · have xf : Wc.cell? ⟨b, 2, none⟩ = some (.int .i64 sp) := hm.box.cell 2
        go_simp
        clear xf
        refine hK.out _ _ ?_ (fun hHeld => ?_)
        · exact KG.out _ _ hq
        clear hK K
        try simp only [Act.put, List.setIfInBounds_toArray, List.set_cons_zero, List.set_cons_succ]
        try simp only [putAll, markAll, dstAt, Act.put, List.getElem_toArray, List.getElem?_toArray, List.getElem_cons_zero, List.getElem_cons_succ, List.getElem?_cons_zero, List.getElem?_cons_succ, Option.bind_some, List.setIfInBounds_toArray, List.set_cons_zero, List.set_cons_succ]
        refine wpAnyH_ready (rs := [14]) (by kernel_rfl) (by simp) ?_
        refine AllReadyH.cons rfl (fun K hK => ?_) ?_
        · go_simp
          refine (sizeI_any _ _ _ _ (by omega)).mono ?_
          rintro e wc_ ⟨rfl, rfl⟩
          refine hK.out _ _ ?_ (fun hHeld => ?_)
          · exact KG.out _ _ hq
          clear hK K
          try simp only [Act.put, List.setIfInBounds_toArray, List.set_cons_zero, List.set_cons_succ]
          refine wpAnyH_take (i := 15) (v := ?_) rfl (by kernel_rfl) (by kernel_rfl) (by kernel_rfl) (fun _ _ _ h => h) (Or.inl ⟨by rfl, ?_⟩) (by assumption) ?_
          rotate_left
          · intro w hSw
            try dsimp only at hSw
            obtain ⟨hs0_, hs1_⟩ := hSw
            go_simp
            try with_reducible rfl
          try simp only [Act.put, List.setIfInBounds_toArray]
          refine wpAnyH_take (i := 16) (v := ?_) rfl (by kernel_rfl) (by kernel_rfl) (by kernel_rfl) (fun _ _ _ h => h) (Or.inl ⟨by rfl, ?_⟩) (by assumption) ?_
          rotate_left
          · intro w hSw
            try dsimp only at hSw
            obtain ⟨hs0_, hs1_⟩ := hSw
            go_simp
            try with_reducible rfl
          try simp only [Act.put]
          refine wpAnyH_take (i := 17) (v := ?_) rfl (by kernel_rfl) (by kernel_rfl) (by kernel_rfl) (fun _ _ _ h => h) (Or.inl ⟨by rfl, ?_⟩) (by assumption) ?_
          rotate_left
          · intro w hSw
            try dsimp only at hSw
            obtain ⟨hs0_, hs1_⟩ := hSw
            go_simp
            try with_reducible rfl
          try simp only [Act.put]
          refine wpAnyH_take (i := 18) (v := ?_) rfl (by kernel_rfl) (by kernel_rfl) (by kernel_rfl) (fun _ _ _ h => h) (Or.inl ⟨by rfl, ?_⟩) (by assumption) ?_
          rotate_left
          · intro w hSw
            try dsimp only at hSw
            obtain ⟨hs0_, hs1_⟩ := hSw
            go_simp
            try with_reducible rfl
          try simp only [Act.put]
          try simp only [putAll, markAll, dstAt, Act.put, List.getElem_toArray, List.getElem?_toArray, List.getElem_cons_zero, List.getElem_cons_succ, List.getElem?_cons_zero, List.getElem?_cons_succ, Option.bind_some, List.setIfInBounds_toArray, List.set_cons_zero, List.set_cons_succ]
          refine wpAnyH_ready (rs := [19]) (by kernel_rfl) (by simp) ?_
          refine AllReadyH.cons rfl (fun K hK => ?_) ?_
          · have xz := hm.box.frozen 2
            have xf : Wc.cell? ⟨b, 2, none⟩ = some (.int .i64 sp) := hm.box.cell 2
            go_simp
            clear xf xz
            have hq := hm.set 2 (.int .i64 sp')
            refine hK.out _ _ ?_ (fun hHeld => ?_)
            · exact KG.out _ _ hq
            clear hK K
            try simp only [Act.put, List.setIfInBounds_toArray]
            refine wpAnyH_done (by kernel_rfl) ?_ _
            refine NoPanic.normal ?_
            go_wp2_with fail
            go_meet
            exact ⟨rfl, hq⟩
          exact AllReadyH.nil
        exact AllReadyH.nil
      refine AllReadyH.cons rfl (fun K hK => ?_) ?_
      · go_simp
        refine (sizeI_any _ _ _ _ (by omega)).mono ?_
        rintro e wc_ ⟨rfl, rfl⟩
        refine hK.out _ _ ?_ (fun hHeld => ?_)
        · exact KG.out _ _ hq
        clear hK K
        try simp only [Act.put, List.setIfInBounds_toArray, List.set_cons_zero, List.set_cons_succ]
        refine wpAnyH_take (i := 15) (v := ?_) rfl (by kernel_rfl) (by kernel_rfl) (by kernel_rfl) (fun _ _ _ h => h) (Or.inl ⟨by rfl, ?_⟩) (by assumption) ?_
        rotate_left
        · intro w hSw
          try dsimp only at hSw
          obtain ⟨hs0_, hs1_⟩ := hSw
          go_simp
          try with_reducible rfl
        try simp only [Act.put, List.setIfInBounds_toArray]
        try simp only [putAll, markAll, dstAt, Act.put, List.getElem_toArray, List.getElem?_toArray, List.getElem_cons_zero, List.getElem_cons_succ, List.getElem?_cons_zero, List.getElem?_cons_succ, Option.bind_some, List.setIfInBounds_toArray, List.set_cons_zero, List.set_cons_succ]
        refine wpAnyH_ready (rs := [4]) (by kernel_rfl) (by simp) ?_
        refine AllReadyH.cons rfl (fun K hK => ?_) ?_
        · have xf : Wc.cell? ⟨b, 2, none⟩ = some (.int .i64 sp) := hm.box.cell 2
          go_simp
          clear xf
          refine hK.out _ _ ?_ (fun hHeld => ?_)
          · exact KG.out _ _ hq
          clear hK K
          try simp only [Act.put, List.setIfInBounds_toArray, List.set_cons_zero, List.set_cons_succ]
          refine wpAnyH_take (i := 16) (v := ?_) rfl (by kernel_rfl) (by kernel_rfl) (by kernel_rfl) (fun _ _ _ h => h) (Or.inl ⟨by rfl, ?_⟩) (by assumption) ?_
          rotate_left
          · intro w hSw
            try dsimp only at hSw
            obtain ⟨hs0_, hs1_⟩ := hSw
            go_simp
            try with_reducible rfl
          try simp only [Act.put, List.setIfInBounds_toArray]
          refine wpAnyH_take (i := 17) (v := ?_) rfl (by kernel_rfl) (by kernel_rfl) (by kernel_rfl) (fun _ _ _ h => h) (Or.inl ⟨by rfl, ?_⟩) (by assumption) ?_
          rotate_left
          · intro w hSw
            try dsimp only at hSw
            obtain ⟨hs0_, hs1_⟩ := hSw
            go_simp
            try with_reducible rfl
          try simp only [Act.put]
          refine wpAnyH_take (i := 18) (v := ?_) rfl (by kernel_rfl) (by kernel_rfl) (by kernel_rfl) (fun _ _ _ h => h) (Or.inl ⟨by rfl, ?_⟩) (by assumption) ?_
          rotate_left
          · intro w hSw
            try dsimp only at hSw
            obtain ⟨hs0_, hs1_⟩ := hSw
            go_simp
            try with_reducible rfl
          try simp only [Act.put]
          try simp only [putAll, markAll, dstAt, Act.put, List.getElem_toArray, List.getElem?_toArray, List.getElem_cons_zero, List.getElem_cons_succ, List.getElem?_cons_zero, List.getElem?_cons_succ, Option.bind_some, List.setIfInBounds_toArray, List.set_cons_zero, List.set_cons_succ]
          refine wpAnyH_ready (rs := [19]) (by kernel_rfl) (by simp) ?_
          refine AllReadyH.cons rfl (fun K hK => ?_) ?_
          · have xz := hm.box.frozen 2
            have xf : Wc.cell? ⟨b, 2, none⟩ = some (.int .i64 sp) := hm.box.cell 2
            go_simp
            clear xf xz
            have hq := hm.set 2 (.int .i64 sp')
            refine hK.out _ _ ?_ (fun hHeld => ?_)
            · exact KG.out _ _ hq
            clear hK K
            try simp only [Act.put, List.setIfInBounds_toArray]
            refine wpAnyH_done (by kernel_rfl) ?_ _
            refine NoPanic.normal ?_
            go_wp2_with fail
            go_meet
            exact ⟨rfl, hq⟩
          exact AllReadyH.nil
        exact AllReadyH.nil
      exact AllReadyH.nil
    exact AllReadyH.nil
  case rest =>
    obtain ⟨rfl, hm2⟩ := hcut
    clear hm hsp' w1
    obtain ⟨lo', hlo'⟩ : ∃ v, (if p < lo then p else lo) = v := ⟨_, rfl⟩
    obtain ⟨hi', hhi'⟩ : ∃ v, (if hi < p then p else hi) = v := ⟨_, rfl⟩
    go_upto_region 2 with fail
    go_cut [6] (fun s6 wx => s6 = .pointer (some ⟨b, 0, none⟩) ∧ MX w0 b g sy st A n k cc L cl R d 145 (mcells sp' lo' hi' ch tu mk la) wx)
    case first =>
      refine wp_region_noPanic ?_
      refine wp_region_held_drew (S := (fun w' => w'.cell? ⟨g, 4, none⟩ = some (.slice L nl cl))) (by kernel_rfl) ?_ (fun hHeld => ?_)
      · exact (KG.out _ _ (hm2.below (show Below wc.heap.size wc wc.drew from below_drewN (Below.refl _ _) 1))).1
      replace hm2 := hm2.below (show Below wc.heap.size wc wc.drew from below_drewN (Below.refl _ _) 1)
      generalize wc.drew = Wc at *
      refine wpAnyH_take (i := 0) (v := ?_) rfl (by kernel_rfl) (by kernel_rfl) (by kernel_rfl) (fun _ _ _ h => h) (Or.inl ⟨by rfl, ?_⟩) (by assumption) ?_
      rotate_left
      · intro w hSw
        try dsimp only at hSw
        go_simp
        try with_reducible rfl
      try simp only [Act.put, List.setIfInBounds_toArray]
      refine wpAnyH_take (i := 1) (v := ?_) rfl (by kernel_rfl) (by kernel_rfl) (by kernel_rfl) (fun _ _ _ h => h) (Or.inl ⟨by rfl, ?_⟩) (by assumption) ?_
      rotate_left
      · intro w hSw
        try dsimp only at hSw
        go_simp
        try with_reducible rfl
      try simp only [Act.put]
      refine wpAnyH_take (i := 2) (v := ?_) rfl (by kernel_rfl) (by kernel_rfl) (by kernel_rfl) (fun _ _ _ h => h) (Or.inl ⟨by rfl, ?_⟩) (by assumption) ?_
      rotate_left
      · intro w hSw
        try dsimp only at hSw
        go_simp
        try with_reducible rfl
      try simp only [Act.put]
      refine wpAnyH_take (i := 3) (v := ?_) rfl (by kernel_rfl) (by kernel_rfl) (by kernel_rfl) (fun _ _ _ h => h) (Or.inl ⟨by rfl, ?_⟩) (by assumption) ?_
      rotate_left
      · intro w hSw
        try dsimp only at hSw
        go_simp
        try with_reducible rfl
      try simp only [Act.put]
      refine wpAnyH_take (i := 4) (v := ?_) rfl (by kernel_rfl) (by kernel_rfl) (by kernel_rfl) (fun _ _ _ h => h) (Or.inl ⟨by rfl, ?_⟩) (by assumption) ?_
      rotate_left
      · intro w hSw
        try dsimp only at hSw
        go_simp
        try with_reducible rfl
      try simp only [Act.put]
      refine wpAnyH_take (i := 6) (v := ?_) rfl (by kernel_rfl) (by kernel_rfl) (by kernel_rfl) (fun _ _ _ h => h) (Or.inl ⟨by rfl, ?_⟩) (by assumption) ?_
      rotate_left
      · intro w hSw
        try dsimp only at hSw
        go_simp
        try with_reducible rfl
      try simp only [Act.put]
      refine wpAnyH_take (i := 8) (v := ?_) rfl (by kernel_rfl) (by kernel_rfl) (by kernel_rfl) (fun _ _ _ h => h) (Or.inl ⟨by rfl, ?_⟩) (by assumption) ?_
      rotate_left
      · intro w hSw
        try dsimp only at hSw
        go_simp
        try with_reducible rfl
      try simp only [Act.put]
      refine wpAnyH_take (i := 9) (v := ?_) rfl (by kernel_rfl) (by kernel_rfl) (by kernel_rfl) (fun _ _ _ h => h) (Or.inl ⟨by rfl, ?_⟩) (by assumption) ?_
      rotate_left
      · intro w hSw
        try dsimp only at hSw
        go_simp
        try with_reducible rfl
      try simp only [Act.put]
      refine wpAnyH_take (i := 10) (v := ?_) rfl (by kernel_rfl) (by kernel_rfl) (by kernel_rfl) (fun _ _ _ h => h) (Or.inl ⟨by rfl, ?_⟩) (by assumption) ?_
      rotate_left
      · intro w hSw
        try dsimp only at hSw
        go_simp
        try with_reducible rfl
      try simp only [Act.put]
      refine wpAnyH_take (i := 12) (v := ?_) rfl (by kernel_rfl) (by kernel_rfl) (by kernel_rfl) (fun _ _ _ h => h) (Or.inl ⟨by rfl, ?_⟩) (by assumption) ?_
      rotate_left
      · intro w hSw
        try dsimp only at hSw
        go_simp
        try with_reducible rfl
      try simp only [Act.put]
      try simp only [putAll, markAll, dstAt, Act.put, List.getElem_toArray, List.getElem?_toArray, List.getElem_cons_zero, List.getElem_cons_succ, List.getElem?_cons_zero, List.getElem?_cons_succ, Option.bind_some, List.setIfInBounds_toArray, List.set_cons_zero, List.set_cons_succ]
      refine wpAnyH_ready (rs := [5, 11]) (by kernel_rfl) (by simp) ?_
      refine AllReadyH.cons rfl (fun K hK => ?_) ?_
      · have xf : Wc.cell? ⟨b, 3, none⟩ = some (.int .i64 lo) := hm2.box.cell 3
        go_simp
        clear xf
        refine hK.out _ _ ?_ (fun hHeld => ?_)
        · exact (KG.out _ _ hm2).1
        clear hK K
        try simp only [Act.put, List.setIfInBounds_toArray, List.set_cons_zero, List.set_cons_succ]
        refine wpAnyH_take (i := 7) (v := ?_) rfl (by kernel_rfl) (by kernel_rfl) (by kernel_rfl) (fun _ _ _ h => h) (Or.inl ⟨by rfl, ?_⟩) (by assumption) ?_
        rotate_left
        · intro w hSw
          try dsimp only at hSw
          go_simp
          try with_reducible rfl
        try simp only [Act.put, List.setIfInBounds_toArray]
        try simp only [putAll, markAll, dstAt, Act.put, List.getElem_toArray, List.getElem?_toArray, List.getElem_cons_zero, List.getElem_cons_succ, List.getElem?_cons_zero, List.getElem?_cons_succ, Option.bind_some, List.setIfInBounds_toArray, List.set_cons_zero, List.set_cons_succ]
        refine wpAnyH_ready (rs := [11]) (by kernel_rfl) (by simp) ?_
        refine AllReadyH.cons rfl (fun K hK => ?_) ?_
        · have xf : Wc.cell? ⟨b, 4, none⟩ = some (.int .i64 hi) := hm2.box.cell 4
          go_simp
          clear xf
          refine hK.out _ _ ?_ (fun hHeld => ?_)
          · exact (KG.out _ _ hm2).1
          clear hK K
          try simp only [Act.put, List.setIfInBounds_toArray, List.set_cons_zero, List.set_cons_succ]
          refine wpAnyH_take (i := 13) (v := ?_) rfl (by kernel_rfl) (by kernel_rfl) (by kernel_rfl) (fun _ _ _ h => h) (Or.inl ⟨by rfl, ?_⟩) (by assumption) ?_
          rotate_left
          · intro w hSw
            try dsimp only at hSw
            go_simp
            try with_reducible rfl
          try simp only [Act.put, List.setIfInBounds_toArray]
          refine wpAnyH_take (i := 14) (v := ?_) rfl (by kernel_rfl) (by kernel_rfl) (by kernel_rfl) (fun _ _ _ h => h) (Or.inl ⟨by rfl, ?_⟩) (by assumption) ?_
          rotate_left
          · intro w hSw
            try dsimp only at hSw
            go_simp
            try with_reducible rfl
          try simp only [Act.put]
          refine wpAnyH_take (i := 15) (v := ?_) rfl (by kernel_rfl) (by kernel_rfl) (by kernel_rfl) (fun _ _ _ h => h) (Or.inl ⟨by rfl, ?_⟩) (by assumption) ?_
          rotate_left
          · intro w hSw
            try dsimp only at hSw
            go_simp
            try with_reducible rfl
          try simp only [Act.put]
          try simp only [putAll, markAll, dstAt, Act.put, List.getElem_toArray, List.getElem?_toArray, List.getElem_cons_zero, List.getElem_cons_succ, List.getElem?_cons_zero, List.getElem?_cons_succ, Option.bind_some, List.setIfInBounds_toArray, List.set_cons_zero, List.set_cons_succ]
          refine wpAnyH_ready (rs := [16]) (by kernel_rfl) (by simp) ?_
          refine AllReadyH.cons rfl (fun K hK => ?_) ?_
          · have xz := hm2.box.frozen 3
            have xf : Wc.cell? ⟨b, 3, none⟩ = some (.int .i64 lo) := hm2.box.cell 3
            go_simp
            clear xz xf
            replace hm2 := hm2.set 3 (.int .i64 lo')
            generalize Wc.setCell ⟨b, 3, none⟩ (.int .i64 lo') = Wd at *
            refine hK.out _ _ ?_ (fun hHeld => ?_)
            · exact (KG.out _ _ hm2).1
            clear hK K
            try simp only [Act.put, List.setIfInBounds_toArray]
            refine wpAnyH_take (i := 17) (v := ?_) rfl (by kernel_rfl) (by kernel_rfl) (by kernel_rfl) (fun _ _ _ h => h) (Or.inl ⟨by rfl, ?_⟩) (by assumption) ?_
            rotate_left
            · intro w hSw
              try dsimp only at hSw
              go_simp
              try with_reducible rfl
            try simp only [Act.put, List.setIfInBounds_toArray]
            refine wpAnyH_take (i := 18) (v := ?_) rfl (by kernel_rfl) (by kernel_rfl) (by kernel_rfl) (fun _ _ _ h => h) (Or.inl ⟨by rfl, ?_⟩) (by assumption) ?_
            rotate_left
            · intro w hSw
              try dsimp only at hSw
              go_simp
              try with_reducible rfl
            try simp only [Act.put]
            try simp only [putAll, markAll, dstAt, Act.put, List.getElem_toArray, List.getElem?_toArray, List.getElem_cons_zero, List.getElem_cons_succ, List.getElem?_cons_zero, List.getElem?_cons_succ, Option.bind_some, List.setIfInBounds_toArray, List.set_cons_zero, List.set_cons_succ]
            refine wpAnyH_ready (rs := [19]) (by kernel_rfl) (by simp) ?_
            refine AllReadyH.cons rfl (fun K hK => ?_) ?_
            · have xz := hm2.box.frozen 4
              have xf : Wd.cell? ⟨b, 4, none⟩ = some (.int .i64 hi) := hm2.box.cell 4
              go_simp
              clear xz xf
              replace hm2 := hm2.set 4 (.int .i64 hi')
              refine hK.out _ _ ?_ (fun hHeld => ?_)
              · exact (KG.out _ _ hm2).1
              clear hK K
              try simp only [Act.put, List.setIfInBounds_toArray]
              refine wpAnyH_done (by kernel_rfl) ?_ _
              refine NoPanic.normal ?_
              go_wp2_with fail
              go_meet
              exact ⟨rfl, hm2⟩
            exact AllReadyH.nil
          exact AllReadyH.nil
        exact AllReadyH.nil
      refine AllReadyH.cons rfl (fun K hK => ?_) ?_
      · have xf : Wc.cell? ⟨b, 4, none⟩ = some (.int .i64 hi) := hm2.box.cell 4
        go_simp
        clear xf
        refine hK.out _ _ ?_ (fun hHeld => ?_)
        · exact (KG.out _ _ hm2).1
        clear hK K
        try simp only [Act.put, List.setIfInBounds_toArray, List.set_cons_zero, List.set_cons_succ]
        refine wpAnyH_take (i := 13) (v := ?_) rfl (by kernel_rfl) (by kernel_rfl) (by kernel_rfl) (fun _ _ _ h => h) (Or.inl ⟨by rfl, ?_⟩) (by assumption) ?_
        rotate_left
        · intro w hSw
          try dsimp only at hSw
          go_simp
          try with_reducible rfl
        try simp only [Act.put, List.setIfInBounds_toArray]
        try simp only [putAll, markAll, dstAt, Act.put, List.getElem_toArray, List.getElem?_toArray, List.getElem_cons_zero, List.getElem_cons_succ, List.getElem?_cons_zero, List.getElem?_cons_succ, Option.bind_some, List.setIfInBounds_toArray, List.set_cons_zero, List.set_cons_succ]
        refine wpAnyH_ready (rs := [5]) (by kernel_rfl) (by simp) ?_
        refine AllReadyH.cons rfl (fun K hK => ?_) ?_
        · have xf : Wc.cell? ⟨b, 3, none⟩ = some (.int .i64 lo) := hm2.box.cell 3
          go_simp
          clear xf
          refine hK.out _ _ ?_ (fun hHeld => ?_)
          · exact (KG.out _ _ hm2).1
          clear hK K
          try simp only [Act.put, List.setIfInBounds_toArray, List.set_cons_zero, List.set_cons_succ]
          refine wpAnyH_take (i := 7) (v := ?_) rfl (by kernel_rfl) (by kernel_rfl) (by kernel_rfl) (fun _ _ _ h => h) (Or.inl ⟨by rfl, ?_⟩) (by assumption) ?_
          rotate_left
          · intro w hSw
            try dsimp only at hSw
            go_simp
            try with_reducible rfl
          try simp only [Act.put, List.setIfInBounds_toArray]
          refine wpAnyH_take (i := 14) (v := ?_) rfl (by kernel_rfl) (by kernel_rfl) (by kernel_rfl) (fun _ _ _ h => h) (Or.inl ⟨by rfl, ?_⟩) (by assumption) ?_
          rotate_left
          · intro w hSw
            try dsimp only at hSw
            go_simp
            try with_reducible rfl
          try simp only [Act.put]
          refine wpAnyH_take (i := 15) (v := ?_) rfl (by kernel_rfl) (by kernel_rfl) (by kernel_rfl) (fun _ _ _ h => h) (Or.inl ⟨by rfl, ?_⟩) (by assumption) ?_
          rotate_left
          · intro w hSw
            try dsimp only at hSw
            go_simp
            try with_reducible rfl
          try simp only [Act.put]
          try simp only [putAll, markAll, dstAt, Act.put, List.getElem_toArray, List.getElem?_toArray, List.getElem_cons_zero, List.getElem_cons_succ, List.getElem?_cons_zero, List.getElem?_cons_succ, Option.bind_some, List.setIfInBounds_toArray, List.set_cons_zero, List.set_cons_succ]
          refine wpAnyH_ready (rs := [16]) (by kernel_rfl) (by simp) ?_
          refine AllReadyH.cons rfl (fun K hK => ?_) ?_
          · have xz := hm2.box.frozen 3
            have xf : Wc.cell? ⟨b, 3, none⟩ = some (.int .i64 lo) := hm2.box.cell 3
            go_simp
            clear xz xf
            replace hm2 := hm2.set 3 (.int .i64 lo')
            generalize Wc.setCell ⟨b, 3, none⟩ (.int .i64 lo') = Wd at *
            refine hK.out _ _ ?_ (fun hHeld => ?_)
            · exact (KG.out _ _ hm2).1
            clear hK K
            try simp only [Act.put, List.setIfInBounds_toArray]
            refine wpAnyH_take (i := 17) (v := ?_) rfl (by kernel_rfl) (by kernel_rfl) (by kernel_rfl) (fun _ _ _ h => h) (Or.inl ⟨by rfl, ?_⟩) (by assumption) ?_
            rotate_left
            · intro w hSw
              try dsimp only at hSw
              go_simp
              try with_reducible rfl
            try simp only [Act.put, List.setIfInBounds_toArray]
            refine wpAnyH_take (i := 18) (v := ?_) rfl (by kernel_rfl) (by kernel_rfl) (by kernel_rfl) (fun _ _ _ h => h) (Or.inl ⟨by rfl, ?_⟩) (by assumption) ?_
            rotate_left
            · intro w hSw
              try dsimp only at hSw
              go_simp
              try with_reducible rfl
            try simp only [Act.put]
            try simp only [putAll, markAll, dstAt, Act.put, List.getElem_toArray, List.getElem?_toArray, List.getElem_cons_zero, List.getElem_cons_succ, List.getElem?_cons_zero, List.getElem?_cons_succ, Option.bind_some, List.setIfInBounds_toArray, List.set_cons_zero, List.set_cons_succ]
            refine wpAnyH_ready (rs := [19]) (by kernel_rfl) (by simp) ?_
            refine AllReadyH.cons rfl (fun K hK => ?_) ?_
            · have xz := hm2.box.frozen 4
              have xf : Wd.cell? ⟨b, 4, none⟩ = some (.int .i64 hi) := hm2.box.cell 4
              go_simp
              clear xz xf
              replace hm2 := hm2.set 4 (.int .i64 hi')
              refine hK.out _ _ ?_ (fun hHeld => ?_)
              · exact (KG.out _ _ hm2).1
              clear hK K
              try simp only [Act.put, List.setIfInBounds_toArray]
              refine wpAnyH_done (by kernel_rfl) ?_ _
              refine NoPanic.normal ?_
              go_wp2_with fail
              go_meet
              exact ⟨rfl, hm2⟩
            exact AllReadyH.nil
          exact AllReadyH.nil
        exact AllReadyH.nil
      exact AllReadyH.nil
    case rest =>
      obtain ⟨rfl, hm3⟩ := hcut
      have HL2 : Hid (lo' = loF sy rs c0 (i + 1)) := Lib.hid (by rw [← HLO.out, Int.min_def]; rw [← hlo']; split <;> split <;> omega)
      have HH2 : Hid (hi' = hiF sy rs c0 (i + 1)) := Lib.hid (by rw [← HHI.out, Int.max_def]; rw [← hhi']; split <;> split <;> omega)
      clear hm2 hlo' hhi'
      have w1 : IntKind.i64.wrap ((nl : Int) + (nr : Int)) = (nl : Int) + (nr : Int) := IntWalk.i64_in _ (by omega)
      have w2 : IntKind.i64.wrap ((nl : Int) + (nr : Int) - (k1 : Int)) = (nl : Int) + (nr : Int) - (k1 : Int) := IntWalk.i64_in _ (by omega)
      obtain ⟨mk', hmk'⟩ : ∃ v, (nl : Int) + (nr : Int) - (k1 : Int) - (k2 : Int) = v := ⟨_, rfl⟩
      have w3 : IntKind.i64.wrap ((nl : Int) + (nr : Int) - (k1 : Int) - (k2 : Int)) = mk' := by rw [← hmk']; exact IntWalk.i64_in _ (by omega)
      have hmk2 : 0 ≤ mk' ∧ mk' ≤ sp' := by omega
      clear hmk'
      go_upto_region 3 with fail
      refine wp_region_noPanic ?_
      refine wp_region_held_drew (S := (fun w' => w'.cell? ⟨g, 4, none⟩ = some (.slice L nl cl) ∧ w'.cell? ⟨g, 5, none⟩ = some (.slice R nr d))) (by kernel_rfl) ?_ (fun hHeld => ?_)
      · exact KG.out _ _ (hm3.below (show Below wc.heap.size wc wc.drew from below_drewN (Below.refl _ _) 1))
      replace hm3 := hm3.below (show Below wc.heap.size wc wc.drew from below_drewN (Below.refl _ _) 1)
      generalize wc.drew = Wc at *
      have hq := hm3
      refine wpAnyH_take (i := 0) (v := ?_) rfl (by kernel_rfl) (by kernel_rfl) (by kernel_rfl) (fun _ _ _ h => h) (Or.inl ⟨by rfl, ?_⟩) (by assumption) ?_
      rotate_left
      · intro w hSw
        try dsimp only at hSw
        obtain ⟨hs0_, hs1_⟩ := hSw
        go_simp
        try with_reducible rfl
      try simp only [Act.put, List.setIfInBounds_toArray]
      refine wpAnyH_take (i := 1) (v := ?_) rfl (by kernel_rfl) (by kernel_rfl) (by kernel_rfl) (fun _ _ _ h => h) (Or.inl ⟨by rfl, ?_⟩) (by assumption) ?_
      rotate_left
      · intro w hSw
        try dsimp only at hSw
        obtain ⟨hs0_, hs1_⟩ := hSw
        go_simp
        try with_reducible rfl
      try simp only [Act.put]
      refine wpAnyH_take (i := 2) (v := ?_) rfl (by kernel_rfl) (by kernel_rfl) (by kernel_rfl) (fun _ _ _ h => h) (Or.inl ⟨by rfl, ?_⟩) (by assumption) ?_
      rotate_left
      · intro w hSw
        try dsimp only at hSw
        obtain ⟨hs0_, hs1_⟩ := hSw
        go_simp
        try with_reducible rfl
      try simp only [Act.put]
      refine wpAnyH_take (i := 3) (v := ?_) rfl (by kernel_rfl) (by kernel_rfl) (by kernel_rfl) (fun _ _ _ h => h) (Or.inl ⟨by rfl, ?_⟩) (by assumption) ?_
      rotate_left
      · intro w hSw
        try dsimp only at hSw
        obtain ⟨hs0_, hs1_⟩ := hSw
        go_simp
        try with_reducible rfl
      try simp only [Act.put]
      refine wpAnyH_take (i := 4) (v := ?_) rfl (by kernel_rfl) (by kernel_rfl) (by kernel_rfl) (fun _ _ _ h => h) (Or.inl ⟨by rfl, ?_⟩) (by assumption) ?_
      rotate_left
      · intro w hSw
        try dsimp only at hSw
        obtain ⟨hs0_, hs1_⟩ := hSw
        go_simp
        try with_reducible rfl
      try simp only [Act.put]
      refine wpAnyH_take (i := 6) (v := ?_) rfl (by kernel_rfl) (by kernel_rfl) (by kernel_rfl) (fun _ _ _ h => h) (Or.inl ⟨by rfl, ?_⟩) (by assumption) ?_
      rotate_left
      · intro w hSw
        try dsimp only at hSw
        obtain ⟨hs0_, hs1_⟩ := hSw
        go_simp
        try with_reducible rfl
      try simp only [Act.put]
      refine wpAnyH_take (i := 7) (v := ?_) rfl (by kernel_rfl) (by kernel_rfl) (by kernel_rfl) (fun _ _ _ h => h) (Or.inl ⟨by rfl, ?_⟩) (by assumption) ?_
      rotate_left
      · intro w hSw
        try dsimp only at hSw
        obtain ⟨hs0_, hs1_⟩ := hSw
        go_simp
        try with_reducible rfl
      try simp only [Act.put]
      refine wpAnyH_take (i := 8) (v := ?_) rfl (by kernel_rfl) (by kernel_rfl) (by kernel_rfl) (fun _ _ _ h => h) (Or.inl ⟨by rfl, ?_⟩) (by assumption) ?_
      rotate_left
      · intro w hSw
        try dsimp only at hSw
        obtain ⟨hs0_, hs1_⟩ := hSw
        go_simp
        try with_reducible rfl
      try simp only [Act.put]
      refine wpAnyH_take (i := 9) (v := ?_) rfl (by kernel_rfl) (by kernel_rfl) (by kernel_rfl) (fun _ _ _ h => h) (Or.inl ⟨by rfl, ?_⟩) (by assumption) ?_
      rotate_left
      · intro w hSw
        try dsimp only at hSw
        obtain ⟨hs0_, hs1_⟩ := hSw
        go_simp
        try with_reducible rfl
      try simp only [Act.put]
      refine wpAnyH_take (i := 12) (v := ?_) rfl (by kernel_rfl) (by kernel_rfl) (by kernel_rfl) (fun _ _ _ h => h) (Or.inl ⟨by rfl, ?_⟩) (by assumption) ?_
      rotate_left
      · intro w hSw
        try dsimp only at hSw
        obtain ⟨hs0_, hs1_⟩ := hSw
        go_simp
        try with_reducible rfl
      try simp only [Act.put]
      refine wpAnyH_take (i := 13) (v := ?_) rfl (by kernel_rfl) (by kernel_rfl) (by kernel_rfl) (fun _ _ _ h => h) (Or.inl ⟨by rfl, ?_⟩) (by assumption) ?_
      rotate_left
      · intro w hSw
        try dsimp only at hSw
        obtain ⟨hs0_, hs1_⟩ := hSw
        go_simp
        try with_reducible rfl
      try simp only [Act.put]
      refine wpAnyH_take (i := 14) (v := ?_) rfl (by kernel_rfl) (by kernel_rfl) (by kernel_rfl) (fun _ _ _ h => h) (Or.inl ⟨by rfl, ?_⟩) (by assumption) ?_
      rotate_left
      · intro w hSw
        try dsimp only at hSw
        obtain ⟨hs0_, hs1_⟩ := hSw
        go_simp
        try with_reducible rfl
      try simp only [Act.put]
      refine wpAnyH_take (i := 15) (v := ?_) rfl (by kernel_rfl) (by kernel_rfl) (by kernel_rfl) (fun _ _ _ h => h) (Or.inl ⟨by rfl, ?_⟩) (by assumption) ?_
      rotate_left
      · intro w hSw
        try dsimp only at hSw
        obtain ⟨hs0_, hs1_⟩ := hSw
        go_simp
        try with_reducible rfl
      try simp only [Act.put]
      refine wpAnyH_take (i := 18) (v := ?_) rfl (by kernel_rfl) (by kernel_rfl) (by kernel_rfl) (fun _ _ _ h => h) (Or.inl ⟨by rfl, ?_⟩) (by assumption) ?_
      rotate_left
      · intro w hSw
        try dsimp only at hSw
        obtain ⟨hs0_, hs1_⟩ := hSw
        go_simp
        try with_reducible rfl
      try simp only [Act.put]
      refine wpAnyH_take (i := 19) (v := ?_) rfl (by kernel_rfl) (by kernel_rfl) (by kernel_rfl) (fun _ _ _ h => h) (Or.inl ⟨by rfl, ?_⟩) (by assumption) ?_
      rotate_left
      · intro w hSw
        try dsimp only at hSw
        obtain ⟨hs0_, hs1_⟩ := hSw
        go_simp
        try with_reducible rfl
      try simp only [Act.put]
      refine wpAnyH_take (i := 20) (v := ?_) rfl (by kernel_rfl) (by kernel_rfl) (by kernel_rfl) (fun _ _ _ h => h) (Or.inl ⟨by rfl, ?_⟩) (by assumption) ?_
      rotate_left
      · intro w hSw
        try dsimp only at hSw
        obtain ⟨hs0_, hs1_⟩ := hSw
        go_simp
        try with_reducible rfl
      try simp only [Act.put]
      refine wpAnyH_take (i := 21) (v := ?_) rfl (by kernel_rfl) (by kernel_rfl) (by kernel_rfl) (fun _ _ _ h => h) (Or.inl ⟨by rfl, ?_⟩) (by assumption) ?_
      rotate_left
      · intro w hSw
        try dsimp only at hSw
        obtain ⟨hs0_, hs1_⟩ := hSw
        go_simp
        try with_reducible rfl
      try simp only [Act.put]
      try simp only [putAll, markAll, dstAt, Act.put, List.getElem_toArray, List.getElem?_toArray, List.getElem_cons_zero, List.getElem_cons_succ, List.getElem?_cons_zero, List.getElem?_cons_succ, Option.bind_some, List.setIfInBounds_toArray, List.set_cons_zero, List.set_cons_succ]
      refine wpAnyH_ready (rs := [5]) (by kernel_rfl) (by simp) ?_
      refine AllReadyH.cons rfl (fun K hK => ?_) ?_
      · go_simp
        refine (sizeI_any _ _ _ _ (by omega)).mono ?_
        rintro e wc_ ⟨rfl, rfl⟩
        refine hK.out _ _ ?_ (fun hHeld => ?_)
        · exact KG.out _ _ hq
        clear hK K
        try simp only [Act.put, List.setIfInBounds_toArray, List.set_cons_zero, List.set_cons_succ]
        try simp only [putAll, markAll, dstAt, Act.put, List.getElem_toArray, List.getElem?_toArray, List.getElem_cons_zero, List.getElem_cons_succ, List.getElem?_cons_zero, List.getElem?_cons_succ, Option.bind_some, List.setIfInBounds_toArray, List.set_cons_zero, List.set_cons_succ]
        refine wpAnyH_ready (rs := [10]) (by kernel_rfl) (by simp) ?_
        refine AllReadyH.cons rfl (fun K hK => ?_) ?_
        · go_simp
          refine (sizeI_any _ _ _ _ (by omega)).mono ?_
          rintro e wc_ ⟨rfl, rfl⟩
          refine hK.out _ _ ?_ (fun hHeld => ?_)
          · exact KG.out _ _ hq
          clear hK K
          try simp only [Act.put, List.setIfInBounds_toArray, List.set_cons_zero, List.set_cons_succ]
          refine wpAnyH_take (i := 11) (v := ?_) rfl (by kernel_rfl) (by kernel_rfl) (by kernel_rfl) (fun _ _ _ h => h) (Or.inl ⟨by rfl, ?_⟩) (by assumption) ?_
          rotate_left
          · intro w hSw
            try dsimp only at hSw
            obtain ⟨hs0_, hs1_⟩ := hSw
            go_simp
            try with_reducible rfl
          try simp only [Act.put, List.setIfInBounds_toArray]
          try simp only [putAll, markAll, dstAt, Act.put, List.getElem_toArray, List.getElem?_toArray, List.getElem_cons_zero, List.getElem_cons_succ, List.getElem?_cons_zero, List.getElem?_cons_succ, Option.bind_some, List.setIfInBounds_toArray, List.set_cons_zero, List.set_cons_succ]
          refine wpAnyH_ready (rs := [16]) (by kernel_rfl) (by simp) ?_
          refine AllReadyH.cons rfl (fun K hK => ?_) ?_
          · go_simp
            refine (HCL.out _ _ hm3).mono ?_
            rintro e wc_ ⟨rfl, rfl⟩
            refine hK.out _ _ ?_ (fun hHeld => ?_)
            · exact KG.out _ _ hq
            clear hK K
            try simp only [Act.put, List.setIfInBounds_toArray, List.set_cons_zero, List.set_cons_succ]
            refine wpAnyH_take (i := 17) (v := ?_) rfl (by kernel_rfl) (by kernel_rfl) (by kernel_rfl) (fun _ _ _ h => h) (Or.inl ⟨by rfl, ?_⟩) (by assumption) ?_
            rotate_left
            · intro w hSw
              try dsimp only at hSw
              obtain ⟨hs0_, hs1_⟩ := hSw
              go_simp
              try with_reducible rfl
            try simp only [Act.put, List.setIfInBounds_toArray]
            try simp only [putAll, markAll, dstAt, Act.put, List.getElem_toArray, List.getElem?_toArray, List.getElem_cons_zero, List.getElem_cons_succ, List.getElem?_cons_zero, List.getElem?_cons_succ, Option.bind_some, List.setIfInBounds_toArray, List.set_cons_zero, List.set_cons_succ]
            refine wpAnyH_ready (rs := [22]) (by kernel_rfl) (by simp) ?_
            refine AllReadyH.cons rfl (fun K hK => ?_) ?_
            · go_simp
              refine (HCR.out _ _ hm3).mono ?_
              rintro e wc_ ⟨rfl, rfl⟩
              refine hK.out _ _ ?_ (fun hHeld => ?_)
              · exact KG.out _ _ hq
              clear hK K
              try simp only [Act.put, List.setIfInBounds_toArray, List.set_cons_zero, List.set_cons_succ]
              refine wpAnyH_take (i := 23) (v := ?_) rfl (by kernel_rfl) (by kernel_rfl) (by kernel_rfl) (fun _ _ _ h => h) (Or.inl ⟨by rfl, ?_⟩) (by assumption) ?_
              rotate_left
              · intro w hSw
                try dsimp only at hSw
                obtain ⟨hs0_, hs1_⟩ := hSw
                go_simp
                try with_reducible rfl
              try simp only [Act.put, List.setIfInBounds_toArray]
              refine wpAnyH_take (i := 24) (v := ?_) rfl (by kernel_rfl) (by kernel_rfl) (by kernel_rfl) (fun _ _ _ h => h) (Or.inl ⟨by rfl, ?_⟩) (by assumption) ?_
              rotate_left
              · intro w hSw
                try dsimp only at hSw
                obtain ⟨hs0_, hs1_⟩ := hSw
                go_simp
                try with_reducible rfl
              try simp only [Act.put]
              refine wpAnyH_take (i := 25) (v := ?_) rfl (by kernel_rfl) (by kernel_rfl) (by kernel_rfl) (fun _ _ _ h => h) (Or.inl ⟨by rfl, ?_⟩) (by assumption) ?_
              rotate_left
              · intro w hSw
                try dsimp only at hSw
                obtain ⟨hs0_, hs1_⟩ := hSw
                go_simp
                try with_reducible rfl
              try simp only [Act.put]
              try simp only [putAll, markAll, dstAt, Act.put, List.getElem_toArray, List.getElem?_toArray, List.getElem_cons_zero, List.getElem_cons_succ, List.getElem?_cons_zero, List.getElem?_cons_succ, Option.bind_some, List.setIfInBounds_toArray, List.set_cons_zero, List.set_cons_succ]
              refine wpAnyH_ready (rs := [26]) (by kernel_rfl) (by simp) ?_
              refine AllReadyH.cons rfl (fun K hK => ?_) ?_
              · have xz := hm3.box.frozen 7
                have xf : Wc.cell? ⟨b, 7, none⟩ = some (.int .i64 mk) := hm3.box.cell 7
                go_simp
                clear xf xz
                have hq := hm3.set 7 (.int .i64 mk')
                refine hK.out _ _ ?_ (fun hHeld => ?_)
                · exact KG.out _ _ hq
                clear hK K
                try simp only [Act.put, List.setIfInBounds_toArray]
                refine wpAnyH_done (by kernel_rfl) ?_ _
                refine NoPanic.normal ?_
                go_wp2_with fail
                exact bodyPost_end (results_none rfl _ _ _) rfl ⟨⟨_, rfl⟩, HFIN.out sp' lo' hi' mk' cc _ rfl HL2.out HH2.out hsp1.2.2 hmk2.1 hmk2.2 hq⟩
              exact AllReadyH.nil
            exact AllReadyH.nil
          exact AllReadyH.nil
        exact AllReadyH.nil
      exact AllReadyH.nil
end Go.Proofs.Ytbpofkggoolmpaa

/-
  A short run has room. No program is in sight.
-/
namespace Go.Proofs.Ytbpofkggoolmpaa
open Go.RowKit

theorem push_len2 (xs : List Int) (x : Int) : (pushI xs x).length ≤ xs.length + 1 := by
  unfold pushI; split
  · omega
  · simp
theorem step_len2 (r : R3) (xs ys : List Int) : (stepC r xs ys).xs.length ≤ xs.length + 2 ∧ (stepC r xs ys).ys.length ≤ ys.length + 2 := by
  constructor
  · show (stepL r xs.reverse).reverse.length ≤ _
    rw [List.length_reverse]
    unfold stepL
    split
    · have := push_len2 xs.reverse r.a
      simp at this; omega
    · simp; omega
  · show (stepR r xs.reverse ys.reverse).reverse.length ≤ _
    rw [List.length_reverse]
    unfold stepR
    split
    · simp; omega
    · have h1 := push_len2 (pushI ys.reverse.dropLast r.a) (lastI xs.reverse)
      have h2 := push_len2 ys.reverse.dropLast r.a
      have h3 : ys.reverse.dropLast.length ≤ ys.length := by simp
      omega
theorem runN_some {sy : Int} {rs : List R3} : ∀ (N : Nat) (c : Conf), c.xs.length + 2 * N ≤ 200 → c.ys.length + 2 * N ≤ 200 → ∃ i, runN sy rs N c = some i ∧ i ≤ N := by
  intro N
  induction N with
  | zero => intro c _ _; exact ⟨0, rfl, Nat.le_refl _⟩
  | succ N ih =>
    intro c h1 h2
    by_cases hh : haltC sy rs c = true
    · exact ⟨0, by rw [runN, if_pos hh], by omega⟩
    · obtain ⟨s1, s2⟩ := step_len2 (ruleOf sy rs c.q c.ys) c.xs c.ys
      have hr : roomC (nextC sy rs c) = true := by
        unfold roomC roomB nextC
        simp only [Bool.and_eq_true, decide_eq_true_eq]
        omega
      obtain ⟨i, e, hi⟩ := ih (nextC sy rs c) (by unfold nextC; omega) (by unfold nextC; omega)
      exact ⟨i + 1, by rw [runN, if_neg hh, if_pos hr, e]; rfl, by omega⟩
end Go.Proofs.Ytbpofkggoolmpaa
