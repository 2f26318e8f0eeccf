/-
  Contract of impl.counted, for runs that have room.
-/
import Derived.Test.YtbpofkggoolmpaaPkMeasures7
import Derived.Test.YtbpofkggoolmpaaPkMeasures8
namespace Go.Proofs.Ytbpofkggoolmpaa
open Go.RowKit

theorem wp_make_OwnF {P : Program} {t e : TypeId} {s bytes : Nat} {z : Value} {o : Oper} {a : Act} {K : Act → World → Prop} {Q : Exit → Act → World → Prop} (l c : Operand) (ho : o.op = Op.makeSlice t l c)
    (E : Elem P t e s bytes z) {w : World} {kl kc : IntKind} {n : Nat} (hl : a.eval l = .int kl (n : Int)) (hc : a.eval c = .int kc (n : Int)) (hb : bytes * n ≤ 281474976710656) (hm : n ≤ maxLen) {lo : Nat} (hlo : lo ≤ w.heap.size)
    (hK : ∀ ub w2, ub = w.heap.size → Own w2 lo e s (some ⟨ub, 0, none⟩) n n (madeCells z.cells (n * s)).toList → Below w.heap.size w w2 → K (a.put o.dst (.slice (some ⟨ub, 0, none⟩) n n)) w2) : o.wp P a w K Q := by
  obtain ⟨w2, hrun, r1, r2, r3⟩ := run_make_Own E w kl kc hb hm hlo
  unfold Oper.wp
  simp [execOp, ho, hl, hc, hrun, Oper.upon]
  exact hK _ w2 rfl r1 r2
theorem made_zerosF (n : Nat) : (madeCells (Value.int .i64 0).cells (n * 1)).toList = ints (List.replicate n 0) := by
  rw [made_ints n (List.replicate n 0) (by simp)]
  congr 1
  unfold copied
  simp
/-- The observer's blocks while they are made. -/
structure Mk3 (w1 : World) (ns nu : Nat) (om os ou : Option Nat) (W : World) : Prop where
  m : ∀ m, om = some m → IMap W m 0 0 (fun _ => 0) ∧ w1.heap.size ≤ m
  s : ∀ s, os = some s → Own W w1.heap.size 2 1 (some ⟨s, 0, none⟩) ns ns (ints (List.replicate ns 0))
  u : ∀ u, ou = some u → Own W w1.heap.size 2 1 (some ⟨u, 0, none⟩) nu nu (ints (List.replicate nu 0))
  ms : ∀ m s, om = some m → os = some s → m ≠ s
  mu : ∀ m u, om = some m → ou = some u → m ≠ u
  su : ∀ s u, os = some s → ou = some u → s ≠ u
  low : Below w1.heap.size w1 W
section
variable {w1 W W' : World} {ns nu : Nat} {om os ou : Option Nat}
theorem Mk3.below (h : Mk3 w1 ns nu om os ou W) (z : Below W.heap.size W W') : Mk3 w1 ns nu om os ou W' :=
  ⟨fun m e => ⟨(h.m m e).1.below z, (h.m m e).2⟩, fun s e => (h.s s e).below z, fun u e => (h.u u e).below z, h.ms, h.mu, h.su, h.low.trans (z.mono h.low.size)⟩
theorem Mk3.addM (h : Mk3 w1 ns nu none os ou W) : Mk3 w1 ns nu (some W.heap.size) os ou (W.alloc (.map #[] 0)) := by
  have h2 := h.below ((Below.refl W.heap.size W).alloc (Nat.le_refl _) (.map #[] 0))
  refine ⟨fun m e => ?_, h2.s, h2.u, fun m s e es => ?_, fun m u e eu => ?_, h.su, h2.low⟩
  · cases e; exact ⟨IMap.new W, h.low.size⟩
  · cases e; have := (h.s s es).blk_lt s rfl; omega
  · cases e; have := (h.u u eu).blk_lt u rfl; omega
theorem Mk3.addS (h : Mk3 w1 ns nu om none ou W) (ho : Own W' w1.heap.size 2 1 (some ⟨W.heap.size, 0, none⟩) ns ns (ints (List.replicate ns 0))) (z : Below W.heap.size W W') : Mk3 w1 ns nu om (some W.heap.size) ou W' := by
  have h2 := h.below z
  refine ⟨h2.m, fun s e => ?_, h2.u, fun m s e es => ?_, h.mu, fun s u es eu => ?_, h2.low⟩
  · cases e; exact ho
  · cases es; have := (h.m m e).1.lt; omega
  · cases es; have := (h.u u eu).blk_lt u rfl; omega
theorem Mk3.addU (h : Mk3 w1 ns nu om os none W) (ho : Own W' w1.heap.size 2 1 (some ⟨W.heap.size, 0, none⟩) nu nu (ints (List.replicate nu 0))) (z : Below W.heap.size W W') : Mk3 w1 ns nu om os (some W.heap.size) W' := by
  have h2 := h.below z
  refine ⟨h2.m, h2.s, fun u e => ?_, h.ms, fun m u e eu => ?_, fun s u es eu => ?_, h2.low⟩
  · cases e; exact ho
  · cases eu; have := (h.m m e).1.lt; omega
  · cases eu; have := (h.s s es).blk_lt s rfl; omega
end
/-- What was counted. -/
def CountP (w : World) (sy : Int) (rs : List R3) (c : Conf) (ns nu i : Nat) (e : Ending) (w' : World) : Prop :=
  ∃ (b mb sb ub : Nat) (xs us : List Int), e = .returned (.tuple #[.pointer (some ⟨b, 0, none⟩), .int .i64 0]) ∧ Blk w' b 159 #[.map (some mb), .slice (some ⟨sb, 0, none⟩) ns ns, .slice (some ⟨ub, 0, none⟩) nu nu] ∧ IMap w' mb (i + 1) (manyF sy rs c (i + 1)) (cntF sy rs c (i + 1)) ∧ w.heap.size ≤ mb ∧
    Own w' w.heap.size 2 1 (some ⟨sb, 0, none⟩) ns ns (ints xs) ∧ Own w' w.heap.size 2 1 (some ⟨ub, 0, none⟩) nu nu (ints us) ∧ SumL xs ns ((i : Int) + 1) ∧ SumL us nu (i : Int) ∧ Below w.heap.size w w'
set_option maxRecDepth 100000 in
set_option maxHeartbeats 4000000 in
theorem counted_any (sy : Int) (ns : Nat) (A : Option Addr) (n k : Nat) (rs : List R3) (c : Conf) (B : Option Addr) (m a : Nat) (C : Option Addr) (l d : Nat) (N i : Nat) (w : World) (hr : S3 w A n rs) (hx : SI w B m c.xs) (hy : SI w C l c.ys) (hn : n ≤ 1048576) (hm : m ≤ 1048576) (hl : l ≤ 1048576)
    (hg : goodC sy (ns : Int) rs c) (hN0 : 1 ≤ N) (hN : N ≤ 20000) (hrun : runN sy rs N c = some i) :
    Calls Try.prog 116 #[.agg #[.int .i64 sy, .int .i64 (ns : Int), .slice A n k], .agg #[.int .i64 c.q, .slice B m a, .slice C l d], .int .i64 (N : Int)] w (CountP w sy rs c ns n i) := by
  obtain ⟨W, hW_⟩ : ∃ W, W = (w.alloc (.cells #[.int .i64 sy, .int .i64 (ns : Int), .slice A n k] 36)).alloc (.cells #[.int .i64 c.q, .slice B m a, .slice C l d] 50) := ⟨_, rfl⟩
  have s_1 : (w.alloc (.cells #[.int .i64 sy, .int .i64 (ns : Int), .slice A n k] 36)).heap.size = w.heap.size + 1 := by simp
  have b0 : Blk W w.heap.size 36 #[.int .i64 sy, .int .i64 (ns : Int), .slice A n k] := by rw [hW_]; exact (Blk.new w _ _).alloc _
  have b1 : Blk W (w.heap.size + 1) 50 #[.int .i64 c.q, .slice B m a, .slice C l d] := by rw [hW_, ← s_1]; exact Blk.new _ _ _
  have y0 : Below w.heap.size w W := by rw [hW_]; exact ((Below.refl _ _).alloc (Nat.le_refl _) _).alloc (by simp) _
  have HW := Lib.hid hW_
  clear hW_ s_1
  have HRC := Lib.hid (runCode_any sy (ns : Int) A n k rs c B m a C l d (N : Int) W (hr.below y0) (hx.below y0) (hy.below y0) hn hm hl)
  have hcode : codeF sy (ns : Int) rs c (N : Int) = 0 := by
    unfold codeF
    rw [show validConfB sy (ns : Int) rs c.q c.xs c.ys = true from hg, if_pos rfl, if_pos]
    rw [inB_iff]; omega
  rw [hcode] at HRC
  clear hcode
  have hns : ns ≤ 1000 := by
    obtain ⟨h1, h2, h3, h4, _⟩ := conf_parts hg
    omega
  have hrl : rs.length = n := hr.len
  have HRL := Lib.hid hrl
  have HRUN := Lib.hid hrun
  have HG := Lib.hid hg
  clear hrun hg hrl
  have q0 : W.cell? ⟨w.heap.size, 0, none⟩ = some (.int .i64 sy) := b0.cell 0
  have q1 : W.cell? ⟨w.heap.size, 1, none⟩ = some (.int .i64 (ns : Int)) := b0.cell 1
  have q2 : W.cell? ⟨w.heap.size, 2, none⟩ = some (.slice A n k) := b0.cell 2
  have r0 : W.cell? ⟨(w.heap.size + 1), 0, none⟩ = some (.int .i64 c.q) := b1.cell 0
  have r1 : W.cell? ⟨(w.heap.size + 1), 1, none⟩ = some (.slice B m a) := b1.cell 1
  have r2 : W.cell? ⟨(w.heap.size + 1), 2, none⟩ = some (.slice C l d) := b1.cell 2
  go_enter Try.func116, Try.ntmps116
  go_upto_region 1 with fail
  rw [← HW.out]
  go_wp2_with fail
  refine HRC.out.mono ?_
  rintro e W1 ⟨rfl, z1⟩
  have c0 := b0.below' z1
  have c1 := b1.below' z1
  have y1 := y0.trans (z1.mono y0.size)
  have hwz : w.heap.size + 1 < W1.heap.size := c1.lt
  clear q0 q1 q2 r0 r1 r2 z1 b0 b1
  go_upto_region 4 with fail
  go_cut [9] (fun s9 wx => ∃ b mb sb ub : Nat, s9 = .pointer (some ⟨b, 0, none⟩) ∧ W1.heap.size ≤ b ∧ b ≠ mb ∧ b ≠ sb ∧ b ≠ ub ∧ Blk wx b 159 #[.map (some mb), .slice (some ⟨sb, 0, none⟩) ns ns, .slice (some ⟨ub, 0, none⟩) n n] ∧ Mk3 W1 ns n (some mb) (some sb) (some ub) wx)
  case first =>
    have hmm := @run_makeMap Try.prog
    have hst : Mk3 W1 ns n none none none W1 := ⟨by simp, by simp, by simp, by simp, by simp, by simp, Below.refl _ _⟩
    have KG : Hid (∀ W', Below W1.heap.size W1 W' → W'.cell? ⟨w.heap.size, 1, none⟩ = some (.int .i64 (ns : Int)) ∧ W'.cell? ⟨w.heap.size, 2, none⟩ = some (.slice A n k)) := Lib.hid (fun W' z => ⟨(c0.below' z).cell 1, (c0.below' z).cell 2⟩)
    refine wp_region_noPanic ?_
    refine wp_region_held_drew (S := (fun w' => w'.cell? ⟨w.heap.size, 1, none⟩ = some (.int .i64 (ns : Int)) ∧ w'.cell? ⟨w.heap.size, 2, none⟩ = some (.slice A n k))) (by kernel_rfl) ?_ (fun hHeld => ?_)
    · exact KG.out _ (below_drewN (Below.refl _ _) 1)
    replace hst := hst.below (show Below W1.heap.size W1 W1.drew from below_drewN (Below.refl _ _) 1)
    generalize W1.drew = Wc at *
    refine wpAnyH_take (i := 1) (v := ?_) rfl (by kernel_rfl) (by kernel_rfl) (by kernel_rfl) (fun _ _ _ h => h) (Or.inl ⟨by rfl, ?_⟩) (by assumption) ?_
    rotate_left
    · intro w hSw
      try dsimp only at hSw
      obtain ⟨hs0_, hs1_⟩ := hSw
      go_simp
      try with_reducible rfl
    try simp only [Act.put, List.setIfInBounds_toArray]
    refine wpAnyH_take (i := 4) (v := ?_) rfl (by kernel_rfl) (by kernel_rfl) (by kernel_rfl) (fun _ _ _ h => h) (Or.inl ⟨by rfl, ?_⟩) (by assumption) ?_
    rotate_left
    · intro w hSw
      try dsimp only at hSw
      obtain ⟨hs0_, hs1_⟩ := hSw
      go_simp
      try with_reducible rfl
    try simp only [Act.put]
    refine wpAnyH_take (i := 5) (v := ?_) rfl (by kernel_rfl) (by kernel_rfl) (by kernel_rfl) (fun _ _ _ h => h) (Or.inl ⟨by rfl, ?_⟩) (by assumption) ?_
    rotate_left
    · intro w hSw
      try dsimp only at hSw
      obtain ⟨hs0_, hs1_⟩ := hSw
      go_simp
      try with_reducible rfl
    try simp only [Act.put]
    try simp only [putAll, markAll, dstAt, Act.put, List.getElem_toArray, List.getElem?_toArray, List.getElem_cons_zero, List.getElem_cons_succ, List.getElem?_cons_zero, List.getElem?_cons_succ, Option.bind_some, List.setIfInBounds_toArray, List.set_cons_zero, List.set_cons_succ]
    refine wpAnyH_ready (rs := [0, 2, 6]) (by kernel_rfl) (by simp) ?_
    refine AllReadyH.cons rfl (fun K hK => ?_) ?_
    · go_simp
      replace hst := hst.addM
      generalize World.alloc _ (Obj.map #[] 0) = Wx at hst ⊢
      refine hK.out _ _ ?_ (fun hHeld => ?_)
      · first | (with_reducible exact KG.out _ hst.low) | exact KG.out _ (hst.low.alloc hst.low.size _)
      clear hK K
      try simp only [Act.put, List.setIfInBounds_toArray, List.set_cons_zero, List.set_cons_succ]
      try simp only [putAll, markAll, dstAt, Act.put, List.getElem_toArray, List.getElem?_toArray, List.getElem_cons_zero, List.getElem_cons_succ, List.getElem?_cons_zero, List.getElem?_cons_succ, Option.bind_some, List.setIfInBounds_toArray, List.set_cons_zero, List.set_cons_succ]
      refine wpAnyH_ready (rs := [2, 6]) (by kernel_rfl) (by simp) ?_
      refine AllReadyH.cons rfl (fun K hK => ?_) ?_
      · obtain ⟨hs0_, hs1_⟩ := hHeld
        go_simp
        refine hK.out _ _ ?_ (fun hHeld => ?_)
        · first | (with_reducible exact KG.out _ hst.low) | exact KG.out _ (hst.low.alloc hst.low.size _)
        clear hK K
        try simp only [Act.put, List.setIfInBounds_toArray, List.set_cons_zero, List.set_cons_succ]
        try simp only [putAll, markAll, dstAt, Act.put, List.getElem_toArray, List.getElem?_toArray, List.getElem_cons_zero, List.getElem_cons_succ, List.getElem?_cons_zero, List.getElem?_cons_succ, Option.bind_some, List.setIfInBounds_toArray, List.set_cons_zero, List.set_cons_succ]
        refine wpAnyH_ready (rs := [3, 6]) (by kernel_rfl) (by simp) ?_
        refine AllReadyH.cons rfl (fun K hK => ?_) ?_
        · rw [if_pos (by rfl)]
          refine wp_make_OwnF (.tmp 22) (.tmp 22) rfl elI (n := ns) (lo := W1.heap.size) rfl rfl (by omega) (by simp only [maxLen]; omega) hst.low.size ?_
          rintro ub Wm rfl hoS zS
          rw [made_zerosF] at hoS
          replace hst := hst.addS hoS zS
          clear hoS zS
          refine hK.out _ _ ?_ (fun hHeld => ?_)
          · first | (with_reducible exact KG.out _ hst.low) | exact KG.out _ (hst.low.alloc hst.low.size _)
          clear hK K
          try simp only [Act.put, List.setIfInBounds_toArray]
          try simp only [putAll, markAll, dstAt, Act.put, List.getElem_toArray, List.getElem?_toArray, List.getElem_cons_zero, List.getElem_cons_succ, List.getElem?_cons_zero, List.getElem?_cons_succ, Option.bind_some, List.setIfInBounds_toArray, List.set_cons_zero, List.set_cons_succ]
          refine wpAnyH_ready (rs := [6]) (by kernel_rfl) (by simp) ?_
          refine AllReadyH.cons rfl (fun K hK => ?_) ?_
          · go_simp
            refine hK.out _ _ ?_ (fun hHeld => ?_)
            · first | (with_reducible exact KG.out _ hst.low) | exact KG.out _ (hst.low.alloc hst.low.size _)
            clear hK K
            try simp only [Act.put, List.setIfInBounds_toArray, List.set_cons_zero, List.set_cons_succ]
            try simp only [putAll, markAll, dstAt, Act.put, List.getElem_toArray, List.getElem?_toArray, List.getElem_cons_zero, List.getElem_cons_succ, List.getElem?_cons_zero, List.getElem?_cons_succ, Option.bind_some, List.setIfInBounds_toArray, List.set_cons_zero, List.set_cons_succ]
            refine wpAnyH_ready (rs := [7]) (by kernel_rfl) (by simp) ?_
            refine AllReadyH.cons rfl (fun K hK => ?_) ?_
            · rw [if_pos (by rfl)]
              refine wp_make_OwnF (.tmp 26) (.tmp 26) rfl elI (n := n) (lo := W1.heap.size) rfl rfl (by omega) (by simp only [maxLen]; omega) hst.low.size ?_
              rintro ub Wm rfl hoS zS
              rw [made_zerosF] at hoS
              replace hst := hst.addU hoS zS
              clear hoS zS
              refine hK.out _ _ ?_ (fun hHeld => ?_)
              · first | (with_reducible exact KG.out _ hst.low) | exact KG.out _ (hst.low.alloc hst.low.size _)
              clear hK K
              try simp only [Act.put, List.setIfInBounds_toArray]
              refine wpAnyH_take (i := 8) (v := ?_) rfl (by kernel_rfl) (by kernel_rfl) (by kernel_rfl) (fun _ _ _ h => h) (Or.inl ⟨by rfl, ?_⟩) (by assumption) ?_
              rotate_left
              · intro w hSw
                try dsimp only at hSw
                obtain ⟨hs0_, hs1_⟩ := hSw
                go_simp
                try with_reducible rfl
              try simp only [Act.put]
              try simp only [putAll, markAll, dstAt, Act.put, List.getElem_toArray, List.getElem?_toArray, List.getElem_cons_zero, List.getElem_cons_succ, List.getElem?_cons_zero, List.getElem?_cons_succ, Option.bind_some, List.setIfInBounds_toArray, List.set_cons_zero, List.set_cons_succ]
              refine wpAnyH_ready (rs := [9]) (by kernel_rfl) (by simp) ?_
              refine AllReadyH.cons rfl (fun K hK => ?_) ?_
              · go_simp
                have hsz := hst.low.size
                have e0 := (hst.m _ rfl).1.lt
                have e1 := (hst.s _ rfl).blk_lt _ rfl
                have e2 := (hst.u _ rfl).blk_lt _ rfl
                refine hK.out _ _ ?_ (fun hHeld => ?_)
                · first | (with_reducible exact KG.out _ hst.low) | exact KG.out _ (hst.low.alloc hst.low.size _)
                clear hK K
                try simp only [Act.put, List.setIfInBounds_toArray, List.set_cons_zero, List.set_cons_succ]
                refine wpAnyH_take (i := 10) (v := ?_) rfl (by kernel_rfl) (by kernel_rfl) (by kernel_rfl) (fun _ _ _ h => h) (Or.inl ⟨by rfl, ?_⟩) (by assumption) ?_
                rotate_left
                · intro w hSw
                  try dsimp only at hSw
                  obtain ⟨hs0_, hs1_⟩ := hSw
                  go_simp
                  try with_reducible rfl
                try simp only [Act.put, List.setIfInBounds_toArray]
                refine wpAnyH_done (by kernel_rfl) ?_ _
                refine NoPanic.normal ?_
                go_wp2_with fail
                go_meet
                exact ⟨_, _, _, _, rfl, hsz, by omega, by omega, by omega, Blk.new _ _ _, hst.below ((Below.refl _ _).alloc (Nat.le_refl _) _)⟩
              exact AllReadyH.nil
            exact AllReadyH.nil
          exact AllReadyH.nil
        refine AllReadyH.cons rfl (fun K hK => ?_) ?_
        · go_simp
          refine hK.out _ _ ?_ (fun hHeld => ?_)
          · first | (with_reducible exact KG.out _ hst.low) | exact KG.out _ (hst.low.alloc hst.low.size _)
          clear hK K
          try simp only [Act.put, List.setIfInBounds_toArray, List.set_cons_zero, List.set_cons_succ]
          try simp only [putAll, markAll, dstAt, Act.put, List.getElem_toArray, List.getElem?_toArray, List.getElem_cons_zero, List.getElem_cons_succ, List.getElem?_cons_zero, List.getElem?_cons_succ, Option.bind_some, List.setIfInBounds_toArray, List.set_cons_zero, List.set_cons_succ]
          refine wpAnyH_ready (rs := [3, 7]) (by kernel_rfl) (by simp) ?_
          refine AllReadyH.cons rfl (fun K hK => ?_) ?_
          · rw [if_pos (by rfl)]
            refine wp_make_OwnF (.tmp 22) (.tmp 22) rfl elI (n := ns) (lo := W1.heap.size) rfl rfl (by omega) (by simp only [maxLen]; omega) hst.low.size ?_
            rintro ub Wm rfl hoS zS
            rw [made_zerosF] at hoS
            replace hst := hst.addS hoS zS
            clear hoS zS
            refine hK.out _ _ ?_ (fun hHeld => ?_)
            · first | (with_reducible exact KG.out _ hst.low) | exact KG.out _ (hst.low.alloc hst.low.size _)
            clear hK K
            try simp only [Act.put, List.setIfInBounds_toArray]
            try simp only [putAll, markAll, dstAt, Act.put, List.getElem_toArray, List.getElem?_toArray, List.getElem_cons_zero, List.getElem_cons_succ, List.getElem?_cons_zero, List.getElem?_cons_succ, Option.bind_some, List.setIfInBounds_toArray, List.set_cons_zero, List.set_cons_succ]
            refine wpAnyH_ready (rs := [7]) (by kernel_rfl) (by simp) ?_
            refine AllReadyH.cons rfl (fun K hK => ?_) ?_
            · rw [if_pos (by rfl)]
              refine wp_make_OwnF (.tmp 26) (.tmp 26) rfl elI (n := n) (lo := W1.heap.size) rfl rfl (by omega) (by simp only [maxLen]; omega) hst.low.size ?_
              rintro ub Wm rfl hoS zS
              rw [made_zerosF] at hoS
              replace hst := hst.addU hoS zS
              clear hoS zS
              refine hK.out _ _ ?_ (fun hHeld => ?_)
              · first | (with_reducible exact KG.out _ hst.low) | exact KG.out _ (hst.low.alloc hst.low.size _)
              clear hK K
              try simp only [Act.put]
              refine wpAnyH_take (i := 8) (v := ?_) rfl (by kernel_rfl) (by kernel_rfl) (by kernel_rfl) (fun _ _ _ h => h) (Or.inl ⟨by rfl, ?_⟩) (by assumption) ?_
              rotate_left
              · intro w hSw
                try dsimp only at hSw
                obtain ⟨hs0_, hs1_⟩ := hSw
                go_simp
                try with_reducible rfl
              try simp only [Act.put]
              try simp only [putAll, markAll, dstAt, Act.put, List.getElem_toArray, List.getElem?_toArray, List.getElem_cons_zero, List.getElem_cons_succ, List.getElem?_cons_zero, List.getElem?_cons_succ, Option.bind_some, List.setIfInBounds_toArray, List.set_cons_zero, List.set_cons_succ]
              refine wpAnyH_ready (rs := [9]) (by kernel_rfl) (by simp) ?_
              refine AllReadyH.cons rfl (fun K hK => ?_) ?_
              · go_simp
                have hsz := hst.low.size
                have e0 := (hst.m _ rfl).1.lt
                have e1 := (hst.s _ rfl).blk_lt _ rfl
                have e2 := (hst.u _ rfl).blk_lt _ rfl
                refine hK.out _ _ ?_ (fun hHeld => ?_)
                · first | (with_reducible exact KG.out _ hst.low) | exact KG.out _ (hst.low.alloc hst.low.size _)
                clear hK K
                try simp only [Act.put, List.setIfInBounds_toArray, List.set_cons_zero, List.set_cons_succ]
                refine wpAnyH_take (i := 10) (v := ?_) rfl (by kernel_rfl) (by kernel_rfl) (by kernel_rfl) (fun _ _ _ h => h) (Or.inl ⟨by rfl, ?_⟩) (by assumption) ?_
                rotate_left
                · intro w hSw
                  try dsimp only at hSw
                  obtain ⟨hs0_, hs1_⟩ := hSw
                  go_simp
                  try with_reducible rfl
                try simp only [Act.put, List.setIfInBounds_toArray]
                refine wpAnyH_done (by kernel_rfl) ?_ _
                refine NoPanic.normal ?_
                go_wp2_with fail
                go_meet
                exact ⟨_, _, _, _, rfl, hsz, by omega, by omega, by omega, Blk.new _ _ _, hst.below ((Below.refl _ _).alloc (Nat.le_refl _) _)⟩
              exact AllReadyH.nil
            exact AllReadyH.nil
          refine AllReadyH.cons rfl (fun K hK => ?_) ?_
          · rw [if_pos (by rfl)]
            refine wp_make_OwnF (.tmp 26) (.tmp 26) rfl elI (n := n) (lo := W1.heap.size) rfl rfl (by omega) (by simp only [maxLen]; omega) hst.low.size ?_
            rintro ub Wm rfl hoS zS
            rw [made_zerosF] at hoS
            replace hst := hst.addU hoS zS
            clear hoS zS
            refine hK.out _ _ ?_ (fun hHeld => ?_)
            · first | (with_reducible exact KG.out _ hst.low) | exact KG.out _ (hst.low.alloc hst.low.size _)
            clear hK K
            try simp only [Act.put, List.setIfInBounds_toArray]
            try simp only [putAll, markAll, dstAt, Act.put, List.getElem_toArray, List.getElem?_toArray, List.getElem_cons_zero, List.getElem_cons_succ, List.getElem?_cons_zero, List.getElem?_cons_succ, Option.bind_some, List.setIfInBounds_toArray, List.set_cons_zero, List.set_cons_succ]
            refine wpAnyH_ready (rs := [3]) (by kernel_rfl) (by simp) ?_
            refine AllReadyH.cons rfl (fun K hK => ?_) ?_
            · rw [if_pos (by rfl)]
              refine wp_make_OwnF (.tmp 22) (.tmp 22) rfl elI (n := ns) (lo := W1.heap.size) rfl rfl (by omega) (by simp only [maxLen]; omega) hst.low.size ?_
              rintro ub Wm rfl hoS zS
              rw [made_zerosF] at hoS
              replace hst := hst.addS hoS zS
              clear hoS zS
              refine hK.out _ _ ?_ (fun hHeld => ?_)
              · first | (with_reducible exact KG.out _ hst.low) | exact KG.out _ (hst.low.alloc hst.low.size _)
              clear hK K
              try simp only [Act.put]
              refine wpAnyH_take (i := 8) (v := ?_) rfl (by kernel_rfl) (by kernel_rfl) (by kernel_rfl) (fun _ _ _ h => h) (Or.inl ⟨by rfl, ?_⟩) (by assumption) ?_
              rotate_left
              · intro w hSw
                try dsimp only at hSw
                obtain ⟨hs0_, hs1_⟩ := hSw
                go_simp
                try with_reducible rfl
              try simp only [Act.put]
              try simp only [putAll, markAll, dstAt, Act.put, List.getElem_toArray, List.getElem?_toArray, List.getElem_cons_zero, List.getElem_cons_succ, List.getElem?_cons_zero, List.getElem?_cons_succ, Option.bind_some, List.setIfInBounds_toArray, List.set_cons_zero, List.set_cons_succ]
              refine wpAnyH_ready (rs := [9]) (by kernel_rfl) (by simp) ?_
              refine AllReadyH.cons rfl (fun K hK => ?_) ?_
              · go_simp
                have hsz := hst.low.size
                have e0 := (hst.m _ rfl).1.lt
                have e1 := (hst.s _ rfl).blk_lt _ rfl
                have e2 := (hst.u _ rfl).blk_lt _ rfl
                refine hK.out _ _ ?_ (fun hHeld => ?_)
                · first | (with_reducible exact KG.out _ hst.low) | exact KG.out _ (hst.low.alloc hst.low.size _)
                clear hK K
                try simp only [Act.put, List.setIfInBounds_toArray, List.set_cons_zero, List.set_cons_succ]
                refine wpAnyH_take (i := 10) (v := ?_) rfl (by kernel_rfl) (by kernel_rfl) (by kernel_rfl) (fun _ _ _ h => h) (Or.inl ⟨by rfl, ?_⟩) (by assumption) ?_
                rotate_left
                · intro w hSw
                  try dsimp only at hSw
                  obtain ⟨hs0_, hs1_⟩ := hSw
                  go_simp
                  try with_reducible rfl
                try simp only [Act.put, List.setIfInBounds_toArray]
                refine wpAnyH_done (by kernel_rfl) ?_ _
                refine NoPanic.normal ?_
                go_wp2_with fail
                go_meet
                exact ⟨_, _, _, _, rfl, hsz, by omega, by omega, by omega, Blk.new _ _ _, hst.below ((Below.refl _ _).alloc (Nat.le_refl _) _)⟩
              exact AllReadyH.nil
            exact AllReadyH.nil
          exact AllReadyH.nil
        exact AllReadyH.nil
      refine AllReadyH.cons rfl (fun K hK => ?_) ?_
      · go_simp
        refine hK.out _ _ ?_ (fun hHeld => ?_)
        · first | (with_reducible exact KG.out _ hst.low) | exact KG.out _ (hst.low.alloc hst.low.size _)
        clear hK K
        try simp only [Act.put, List.setIfInBounds_toArray, List.set_cons_zero, List.set_cons_succ]
        try simp only [putAll, markAll, dstAt, Act.put, List.getElem_toArray, List.getElem?_toArray, List.getElem_cons_zero, List.getElem_cons_succ, List.getElem?_cons_zero, List.getElem?_cons_succ, Option.bind_some, List.setIfInBounds_toArray, List.set_cons_zero, List.set_cons_succ]
        refine wpAnyH_ready (rs := [2, 7]) (by kernel_rfl) (by simp) ?_
        refine AllReadyH.cons rfl (fun K hK => ?_) ?_
        · obtain ⟨hs0_, hs1_⟩ := hHeld
          go_simp
          refine hK.out _ _ ?_ (fun hHeld => ?_)
          · first | (with_reducible exact KG.out _ hst.low) | exact KG.out _ (hst.low.alloc hst.low.size _)
          clear hK K
          try simp only [Act.put, List.setIfInBounds_toArray, List.set_cons_zero, List.set_cons_succ]
          try simp only [putAll, markAll, dstAt, Act.put, List.getElem_toArray, List.getElem?_toArray, List.getElem_cons_zero, List.getElem_cons_succ, List.getElem?_cons_zero, List.getElem?_cons_succ, Option.bind_some, List.setIfInBounds_toArray, List.set_cons_zero, List.set_cons_succ]
          refine wpAnyH_ready (rs := [3, 7]) (by kernel_rfl) (by simp) ?_
          refine AllReadyH.cons rfl (fun K hK => ?_) ?_
          · rw [if_pos (by rfl)]
            refine wp_make_OwnF (.tmp 22) (.tmp 22) rfl elI (n := ns) (lo := W1.heap.size) rfl rfl (by omega) (by simp only [maxLen]; omega) hst.low.size ?_
            rintro ub Wm rfl hoS zS
            rw [made_zerosF] at hoS
            replace hst := hst.addS hoS zS
            clear hoS zS
            refine hK.out _ _ ?_ (fun hHeld => ?_)
            · first | (with_reducible exact KG.out _ hst.low) | exact KG.out _ (hst.low.alloc hst.low.size _)
            clear hK K
            try simp only [Act.put, List.setIfInBounds_toArray]
            try simp only [putAll, markAll, dstAt, Act.put, List.getElem_toArray, List.getElem?_toArray, List.getElem_cons_zero, List.getElem_cons_succ, List.getElem?_cons_zero, List.getElem?_cons_succ, Option.bind_some, List.setIfInBounds_toArray, List.set_cons_zero, List.set_cons_succ]
            refine wpAnyH_ready (rs := [7]) (by kernel_rfl) (by simp) ?_
            refine AllReadyH.cons rfl (fun K hK => ?_) ?_
            · rw [if_pos (by rfl)]
              refine wp_make_OwnF (.tmp 26) (.tmp 26) rfl elI (n := n) (lo := W1.heap.size) rfl rfl (by omega) (by simp only [maxLen]; omega) hst.low.size ?_
              rintro ub Wm rfl hoS zS
              rw [made_zerosF] at hoS
              replace hst := hst.addU hoS zS
              clear hoS zS
              refine hK.out _ _ ?_ (fun hHeld => ?_)
              · first | (with_reducible exact KG.out _ hst.low) | exact KG.out _ (hst.low.alloc hst.low.size _)
              clear hK K
              try simp only [Act.put]
              refine wpAnyH_take (i := 8) (v := ?_) rfl (by kernel_rfl) (by kernel_rfl) (by kernel_rfl) (fun _ _ _ h => h) (Or.inl ⟨by rfl, ?_⟩) (by assumption) ?_
              rotate_left
              · intro w hSw
                try dsimp only at hSw
                obtain ⟨hs0_, hs1_⟩ := hSw
                go_simp
                try with_reducible rfl
              try simp only [Act.put]
              try simp only [putAll, markAll, dstAt, Act.put, List.getElem_toArray, List.getElem?_toArray, List.getElem_cons_zero, List.getElem_cons_succ, List.getElem?_cons_zero, List.getElem?_cons_succ, Option.bind_some, List.setIfInBounds_toArray, List.set_cons_zero, List.set_cons_succ]
              refine wpAnyH_ready (rs := [9]) (by kernel_rfl) (by simp) ?_
              refine AllReadyH.cons rfl (fun K hK => ?_) ?_
              · go_simp
                have hsz := hst.low.size
                have e0 := (hst.m _ rfl).1.lt
                have e1 := (hst.s _ rfl).blk_lt _ rfl
                have e2 := (hst.u _ rfl).blk_lt _ rfl
                refine hK.out _ _ ?_ (fun hHeld => ?_)
                · first | (with_reducible exact KG.out _ hst.low) | exact KG.out _ (hst.low.alloc hst.low.size _)
                clear hK K
                try simp only [Act.put, List.setIfInBounds_toArray, List.set_cons_zero, List.set_cons_succ]
                refine wpAnyH_take (i := 10) (v := ?_) rfl (by kernel_rfl) (by kernel_rfl) (by kernel_rfl) (fun _ _ _ h => h) (Or.inl ⟨by rfl, ?_⟩) (by assumption) ?_
                rotate_left
                · intro w hSw
                  try dsimp only at hSw
                  obtain ⟨hs0_, hs1_⟩ := hSw
                  go_simp
                  try with_reducible rfl
                try simp only [Act.put, List.setIfInBounds_toArray]
                refine wpAnyH_done (by kernel_rfl) ?_ _
                refine NoPanic.normal ?_
                go_wp2_with fail
                go_meet
                exact ⟨_, _, _, _, rfl, hsz, by omega, by omega, by omega, Blk.new _ _ _, hst.below ((Below.refl _ _).alloc (Nat.le_refl _) _)⟩
              exact AllReadyH.nil
            exact AllReadyH.nil
          refine AllReadyH.cons rfl (fun K hK => ?_) ?_
          · rw [if_pos (by rfl)]
            refine wp_make_OwnF (.tmp 26) (.tmp 26) rfl elI (n := n) (lo := W1.heap.size) rfl rfl (by omega) (by simp only [maxLen]; omega) hst.low.size ?_
            rintro ub Wm rfl hoS zS
            rw [made_zerosF] at hoS
            replace hst := hst.addU hoS zS
            clear hoS zS
            refine hK.out _ _ ?_ (fun hHeld => ?_)
            · first | (with_reducible exact KG.out _ hst.low) | exact KG.out _ (hst.low.alloc hst.low.size _)
            clear hK K
            try simp only [Act.put, List.setIfInBounds_toArray]
            try simp only [putAll, markAll, dstAt, Act.put, List.getElem_toArray, List.getElem?_toArray, List.getElem_cons_zero, List.getElem_cons_succ, List.getElem?_cons_zero, List.getElem?_cons_succ, Option.bind_some, List.setIfInBounds_toArray, List.set_cons_zero, List.set_cons_succ]
            refine wpAnyH_ready (rs := [3]) (by kernel_rfl) (by simp) ?_
            refine AllReadyH.cons rfl (fun K hK => ?_) ?_
            · rw [if_pos (by rfl)]
              refine wp_make_OwnF (.tmp 22) (.tmp 22) rfl elI (n := ns) (lo := W1.heap.size) rfl rfl (by omega) (by simp only [maxLen]; omega) hst.low.size ?_
              rintro ub Wm rfl hoS zS
              rw [made_zerosF] at hoS
              replace hst := hst.addS hoS zS
              clear hoS zS
              refine hK.out _ _ ?_ (fun hHeld => ?_)
              · first | (with_reducible exact KG.out _ hst.low) | exact KG.out _ (hst.low.alloc hst.low.size _)
              clear hK K
              try simp only [Act.put]
              refine wpAnyH_take (i := 8) (v := ?_) rfl (by kernel_rfl) (by kernel_rfl) (by kernel_rfl) (fun _ _ _ h => h) (Or.inl ⟨by rfl, ?_⟩) (by assumption) ?_
              rotate_left
              · intro w hSw
                try dsimp only at hSw
                obtain ⟨hs0_, hs1_⟩ := hSw
                go_simp
                try with_reducible rfl
              try simp only [Act.put]
              try simp only [putAll, markAll, dstAt, Act.put, List.getElem_toArray, List.getElem?_toArray, List.getElem_cons_zero, List.getElem_cons_succ, List.getElem?_cons_zero, List.getElem?_cons_succ, Option.bind_some, List.setIfInBounds_toArray, List.set_cons_zero, List.set_cons_succ]
              refine wpAnyH_ready (rs := [9]) (by kernel_rfl) (by simp) ?_
              refine AllReadyH.cons rfl (fun K hK => ?_) ?_
              · go_simp
                have hsz := hst.low.size
                have e0 := (hst.m _ rfl).1.lt
                have e1 := (hst.s _ rfl).blk_lt _ rfl
                have e2 := (hst.u _ rfl).blk_lt _ rfl
                refine hK.out _ _ ?_ (fun hHeld => ?_)
                · first | (with_reducible exact KG.out _ hst.low) | exact KG.out _ (hst.low.alloc hst.low.size _)
                clear hK K
                try simp only [Act.put, List.setIfInBounds_toArray, List.set_cons_zero, List.set_cons_succ]
                refine wpAnyH_take (i := 10) (v := ?_) rfl (by kernel_rfl) (by kernel_rfl) (by kernel_rfl) (fun _ _ _ h => h) (Or.inl ⟨by rfl, ?_⟩) (by assumption) ?_
                rotate_left
                · intro w hSw
                  try dsimp only at hSw
                  obtain ⟨hs0_, hs1_⟩ := hSw
                  go_simp
                  try with_reducible rfl
                try simp only [Act.put, List.setIfInBounds_toArray]
                refine wpAnyH_done (by kernel_rfl) ?_ _
                refine NoPanic.normal ?_
                go_wp2_with fail
                go_meet
                exact ⟨_, _, _, _, rfl, hsz, by omega, by omega, by omega, Blk.new _ _ _, hst.below ((Below.refl _ _).alloc (Nat.le_refl _) _)⟩
              exact AllReadyH.nil
            exact AllReadyH.nil
          exact AllReadyH.nil
        refine AllReadyH.cons rfl (fun K hK => ?_) ?_
        · rw [if_pos (by rfl)]
          refine wp_make_OwnF (.tmp 26) (.tmp 26) rfl elI (n := n) (lo := W1.heap.size) rfl rfl (by omega) (by simp only [maxLen]; omega) hst.low.size ?_
          rintro ub Wm rfl hoS zS
          rw [made_zerosF] at hoS
          replace hst := hst.addU hoS zS
          clear hoS zS
          refine hK.out _ _ ?_ (fun hHeld => ?_)
          · first | (with_reducible exact KG.out _ hst.low) | exact KG.out _ (hst.low.alloc hst.low.size _)
          clear hK K
          try simp only [Act.put, List.setIfInBounds_toArray]
          try simp only [putAll, markAll, dstAt, Act.put, List.getElem_toArray, List.getElem?_toArray, List.getElem_cons_zero, List.getElem_cons_succ, List.getElem?_cons_zero, List.getElem?_cons_succ, Option.bind_some, List.setIfInBounds_toArray, List.set_cons_zero, List.set_cons_succ]
          refine wpAnyH_ready (rs := [2]) (by kernel_rfl) (by simp) ?_
          refine AllReadyH.cons rfl (fun K hK => ?_) ?_
          · obtain ⟨hs0_, hs1_⟩ := hHeld
            go_simp
            refine hK.out _ _ ?_ (fun hHeld => ?_)
            · first | (with_reducible exact KG.out _ hst.low) | exact KG.out _ (hst.low.alloc hst.low.size _)
            clear hK K
            try simp only [Act.put, List.setIfInBounds_toArray, List.set_cons_zero, List.set_cons_succ]
            try simp only [putAll, markAll, dstAt, Act.put, List.getElem_toArray, List.getElem?_toArray, List.getElem_cons_zero, List.getElem_cons_succ, List.getElem?_cons_zero, List.getElem?_cons_succ, Option.bind_some, List.setIfInBounds_toArray, List.set_cons_zero, List.set_cons_succ]
            refine wpAnyH_ready (rs := [3]) (by kernel_rfl) (by simp) ?_
            refine AllReadyH.cons rfl (fun K hK => ?_) ?_
            · rw [if_pos (by rfl)]
              refine wp_make_OwnF (.tmp 22) (.tmp 22) rfl elI (n := ns) (lo := W1.heap.size) rfl rfl (by omega) (by simp only [maxLen]; omega) hst.low.size ?_
              rintro ub Wm rfl hoS zS
              rw [made_zerosF] at hoS
              replace hst := hst.addS hoS zS
              clear hoS zS
              refine hK.out _ _ ?_ (fun hHeld => ?_)
              · first | (with_reducible exact KG.out _ hst.low) | exact KG.out _ (hst.low.alloc hst.low.size _)
              clear hK K
              try simp only [Act.put, List.setIfInBounds_toArray]
              refine wpAnyH_take (i := 8) (v := ?_) rfl (by kernel_rfl) (by kernel_rfl) (by kernel_rfl) (fun _ _ _ h => h) (Or.inl ⟨by rfl, ?_⟩) (by assumption) ?_
              rotate_left
              · intro w hSw
                try dsimp only at hSw
                obtain ⟨hs0_, hs1_⟩ := hSw
                go_simp
                try with_reducible rfl
              try simp only [Act.put]
              try simp only [putAll, markAll, dstAt, Act.put, List.getElem_toArray, List.getElem?_toArray, List.getElem_cons_zero, List.getElem_cons_succ, List.getElem?_cons_zero, List.getElem?_cons_succ, Option.bind_some, List.setIfInBounds_toArray, List.set_cons_zero, List.set_cons_succ]
              refine wpAnyH_ready (rs := [9]) (by kernel_rfl) (by simp) ?_
              refine AllReadyH.cons rfl (fun K hK => ?_) ?_
              · go_simp
                have hsz := hst.low.size
                have e0 := (hst.m _ rfl).1.lt
                have e1 := (hst.s _ rfl).blk_lt _ rfl
                have e2 := (hst.u _ rfl).blk_lt _ rfl
                refine hK.out _ _ ?_ (fun hHeld => ?_)
                · first | (with_reducible exact KG.out _ hst.low) | exact KG.out _ (hst.low.alloc hst.low.size _)
                clear hK K
                try simp only [Act.put, List.setIfInBounds_toArray, List.set_cons_zero, List.set_cons_succ]
                refine wpAnyH_take (i := 10) (v := ?_) rfl (by kernel_rfl) (by kernel_rfl) (by kernel_rfl) (fun _ _ _ h => h) (Or.inl ⟨by rfl, ?_⟩) (by assumption) ?_
                rotate_left
                · intro w hSw
                  try dsimp only at hSw
                  obtain ⟨hs0_, hs1_⟩ := hSw
                  go_simp
                  try with_reducible rfl
                try simp only [Act.put, List.setIfInBounds_toArray]
                refine wpAnyH_done (by kernel_rfl) ?_ _
                refine NoPanic.normal ?_
                go_wp2_with fail
                go_meet
                exact ⟨_, _, _, _, rfl, hsz, by omega, by omega, by omega, Blk.new _ _ _, hst.below ((Below.refl _ _).alloc (Nat.le_refl _) _)⟩
              exact AllReadyH.nil
            exact AllReadyH.nil
          exact AllReadyH.nil
        exact AllReadyH.nil
      exact AllReadyH.nil
    refine AllReadyH.cons rfl (fun K hK => ?_) ?_
    · obtain ⟨hs0_, hs1_⟩ := hHeld
      go_simp
      refine hK.out _ _ ?_ (fun hHeld => ?_)
      · first | (with_reducible exact KG.out _ hst.low) | exact KG.out _ (hst.low.alloc hst.low.size _)
      clear hK K
      try simp only [Act.put, List.setIfInBounds_toArray, List.set_cons_zero, List.set_cons_succ]
      try simp only [putAll, markAll, dstAt, Act.put, List.getElem_toArray, List.getElem?_toArray, List.getElem_cons_zero, List.getElem_cons_succ, List.getElem?_cons_zero, List.getElem?_cons_succ, Option.bind_some, List.setIfInBounds_toArray, List.set_cons_zero, List.set_cons_succ]
      refine wpAnyH_ready (rs := [0, 3, 6]) (by kernel_rfl) (by simp) ?_
      refine AllReadyH.cons rfl (fun K hK => ?_) ?_
      · go_simp
        replace hst := hst.addM
        generalize World.alloc _ (Obj.map #[] 0) = Wx at hst ⊢
        refine hK.out _ _ ?_ (fun hHeld => ?_)
        · first | (with_reducible exact KG.out _ hst.low) | exact KG.out _ (hst.low.alloc hst.low.size _)
        clear hK K
        try simp only [Act.put, List.setIfInBounds_toArray, List.set_cons_zero, List.set_cons_succ]
        try simp only [putAll, markAll, dstAt, Act.put, List.getElem_toArray, List.getElem?_toArray, List.getElem_cons_zero, List.getElem_cons_succ, List.getElem?_cons_zero, List.getElem?_cons_succ, Option.bind_some, List.setIfInBounds_toArray, List.set_cons_zero, List.set_cons_succ]
        refine wpAnyH_ready (rs := [3, 6]) (by kernel_rfl) (by simp) ?_
        refine AllReadyH.cons rfl (fun K hK => ?_) ?_
        · rw [if_pos (by rfl)]
          refine wp_make_OwnF (.tmp 22) (.tmp 22) rfl elI (n := ns) (lo := W1.heap.size) rfl rfl (by omega) (by simp only [maxLen]; omega) hst.low.size ?_
          rintro ub Wm rfl hoS zS
          rw [made_zerosF] at hoS
          replace hst := hst.addS hoS zS
          clear hoS zS
          refine hK.out _ _ ?_ (fun hHeld => ?_)
          · first | (with_reducible exact KG.out _ hst.low) | exact KG.out _ (hst.low.alloc hst.low.size _)
          clear hK K
          try simp only [Act.put, List.setIfInBounds_toArray]
          try simp only [putAll, markAll, dstAt, Act.put, List.getElem_toArray, List.getElem?_toArray, List.getElem_cons_zero, List.getElem_cons_succ, List.getElem?_cons_zero, List.getElem?_cons_succ, Option.bind_some, List.setIfInBounds_toArray, List.set_cons_zero, List.set_cons_succ]
          refine wpAnyH_ready (rs := [6]) (by kernel_rfl) (by simp) ?_
          refine AllReadyH.cons rfl (fun K hK => ?_) ?_
          · go_simp
            refine hK.out _ _ ?_ (fun hHeld => ?_)
            · first | (with_reducible exact KG.out _ hst.low) | exact KG.out _ (hst.low.alloc hst.low.size _)
            clear hK K
            try simp only [Act.put, List.setIfInBounds_toArray, List.set_cons_zero, List.set_cons_succ]
            try simp only [putAll, markAll, dstAt, Act.put, List.getElem_toArray, List.getElem?_toArray, List.getElem_cons_zero, List.getElem_cons_succ, List.getElem?_cons_zero, List.getElem?_cons_succ, Option.bind_some, List.setIfInBounds_toArray, List.set_cons_zero, List.set_cons_succ]
            refine wpAnyH_ready (rs := [7]) (by kernel_rfl) (by simp) ?_
            refine AllReadyH.cons rfl (fun K hK => ?_) ?_
            · rw [if_pos (by rfl)]
              refine wp_make_OwnF (.tmp 26) (.tmp 26) rfl elI (n := n) (lo := W1.heap.size) rfl rfl (by omega) (by simp only [maxLen]; omega) hst.low.size ?_
              rintro ub Wm rfl hoS zS
              rw [made_zerosF] at hoS
              replace hst := hst.addU hoS zS
              clear hoS zS
              refine hK.out _ _ ?_ (fun hHeld => ?_)
              · first | (with_reducible exact KG.out _ hst.low) | exact KG.out _ (hst.low.alloc hst.low.size _)
              clear hK K
              try simp only [Act.put, List.setIfInBounds_toArray]
              refine wpAnyH_take (i := 8) (v := ?_) rfl (by kernel_rfl) (by kernel_rfl) (by kernel_rfl) (fun _ _ _ h => h) (Or.inl ⟨by rfl, ?_⟩) (by assumption) ?_
              rotate_left
              · intro w hSw
                try dsimp only at hSw
                obtain ⟨hs0_, hs1_⟩ := hSw
                go_simp
                try with_reducible rfl
              try simp only [Act.put]
              try simp only [putAll, markAll, dstAt, Act.put, List.getElem_toArray, List.getElem?_toArray, List.getElem_cons_zero, List.getElem_cons_succ, List.getElem?_cons_zero, List.getElem?_cons_succ, Option.bind_some, List.setIfInBounds_toArray, List.set_cons_zero, List.set_cons_succ]
              refine wpAnyH_ready (rs := [9]) (by kernel_rfl) (by simp) ?_
              refine AllReadyH.cons rfl (fun K hK => ?_) ?_
              · go_simp
                have hsz := hst.low.size
                have e0 := (hst.m _ rfl).1.lt
                have e1 := (hst.s _ rfl).blk_lt _ rfl
                have e2 := (hst.u _ rfl).blk_lt _ rfl
                refine hK.out _ _ ?_ (fun hHeld => ?_)
                · first | (with_reducible exact KG.out _ hst.low) | exact KG.out _ (hst.low.alloc hst.low.size _)
                clear hK K
                try simp only [Act.put, List.setIfInBounds_toArray, List.set_cons_zero, List.set_cons_succ]
                refine wpAnyH_take (i := 10) (v := ?_) rfl (by kernel_rfl) (by kernel_rfl) (by kernel_rfl) (fun _ _ _ h => h) (Or.inl ⟨by rfl, ?_⟩) (by assumption) ?_
                rotate_left
                · intro w hSw
                  try dsimp only at hSw
                  obtain ⟨hs0_, hs1_⟩ := hSw
                  go_simp
                  try with_reducible rfl
                try simp only [Act.put, List.setIfInBounds_toArray]
                refine wpAnyH_done (by kernel_rfl) ?_ _
                refine NoPanic.normal ?_
                go_wp2_with fail
                go_meet
                exact ⟨_, _, _, _, rfl, hsz, by omega, by omega, by omega, Blk.new _ _ _, hst.below ((Below.refl _ _).alloc (Nat.le_refl _) _)⟩
              exact AllReadyH.nil
            exact AllReadyH.nil
          exact AllReadyH.nil
        refine AllReadyH.cons rfl (fun K hK => ?_) ?_
        · go_simp
          refine hK.out _ _ ?_ (fun hHeld => ?_)
          · first | (with_reducible exact KG.out _ hst.low) | exact KG.out _ (hst.low.alloc hst.low.size _)
          clear hK K
          try simp only [Act.put, List.setIfInBounds_toArray, List.set_cons_zero, List.set_cons_succ]
          try simp only [putAll, markAll, dstAt, Act.put, List.getElem_toArray, List.getElem?_toArray, List.getElem_cons_zero, List.getElem_cons_succ, List.getElem?_cons_zero, List.getElem?_cons_succ, Option.bind_some, List.setIfInBounds_toArray, List.set_cons_zero, List.set_cons_succ]
          refine wpAnyH_ready (rs := [3, 7]) (by kernel_rfl) (by simp) ?_
          refine AllReadyH.cons rfl (fun K hK => ?_) ?_
          · rw [if_pos (by rfl)]
            refine wp_make_OwnF (.tmp 22) (.tmp 22) rfl elI (n := ns) (lo := W1.heap.size) rfl rfl (by omega) (by simp only [maxLen]; omega) hst.low.size ?_
            rintro ub Wm rfl hoS zS
            rw [made_zerosF] at hoS
            replace hst := hst.addS hoS zS
            clear hoS zS
            refine hK.out _ _ ?_ (fun hHeld => ?_)
            · first | (with_reducible exact KG.out _ hst.low) | exact KG.out _ (hst.low.alloc hst.low.size _)
            clear hK K
            try simp only [Act.put, List.setIfInBounds_toArray]
            try simp only [putAll, markAll, dstAt, Act.put, List.getElem_toArray, List.getElem?_toArray, List.getElem_cons_zero, List.getElem_cons_succ, List.getElem?_cons_zero, List.getElem?_cons_succ, Option.bind_some, List.setIfInBounds_toArray, List.set_cons_zero, List.set_cons_succ]
            refine wpAnyH_ready (rs := [7]) (by kernel_rfl) (by simp) ?_
            refine AllReadyH.cons rfl (fun K hK => ?_) ?_
            · rw [if_pos (by rfl)]
              refine wp_make_OwnF (.tmp 26) (.tmp 26) rfl elI (n := n) (lo := W1.heap.size) rfl rfl (by omega) (by simp only [maxLen]; omega) hst.low.size ?_
              rintro ub Wm rfl hoS zS
              rw [made_zerosF] at hoS
              replace hst := hst.addU hoS zS
              clear hoS zS
              refine hK.out _ _ ?_ (fun hHeld => ?_)
              · first | (with_reducible exact KG.out _ hst.low) | exact KG.out _ (hst.low.alloc hst.low.size _)
              clear hK K
              try simp only [Act.put]
              refine wpAnyH_take (i := 8) (v := ?_) rfl (by kernel_rfl) (by kernel_rfl) (by kernel_rfl) (fun _ _ _ h => h) (Or.inl ⟨by rfl, ?_⟩) (by assumption) ?_
              rotate_left
              · intro w hSw
                try dsimp only at hSw
                obtain ⟨hs0_, hs1_⟩ := hSw
                go_simp
                try with_reducible rfl
              try simp only [Act.put]
              try simp only [putAll, markAll, dstAt, Act.put, List.getElem_toArray, List.getElem?_toArray, List.getElem_cons_zero, List.getElem_cons_succ, List.getElem?_cons_zero, List.getElem?_cons_succ, Option.bind_some, List.setIfInBounds_toArray, List.set_cons_zero, List.set_cons_succ]
              refine wpAnyH_ready (rs := [9]) (by kernel_rfl) (by simp) ?_
              refine AllReadyH.cons rfl (fun K hK => ?_) ?_
              · go_simp
                have hsz := hst.low.size
                have e0 := (hst.m _ rfl).1.lt
                have e1 := (hst.s _ rfl).blk_lt _ rfl
                have e2 := (hst.u _ rfl).blk_lt _ rfl
                refine hK.out _ _ ?_ (fun hHeld => ?_)
                · first | (with_reducible exact KG.out _ hst.low) | exact KG.out _ (hst.low.alloc hst.low.size _)
                clear hK K
                try simp only [Act.put, List.setIfInBounds_toArray, List.set_cons_zero, List.set_cons_succ]
                refine wpAnyH_take (i := 10) (v := ?_) rfl (by kernel_rfl) (by kernel_rfl) (by kernel_rfl) (fun _ _ _ h => h) (Or.inl ⟨by rfl, ?_⟩) (by assumption) ?_
                rotate_left
                · intro w hSw
                  try dsimp only at hSw
                  obtain ⟨hs0_, hs1_⟩ := hSw
                  go_simp
                  try with_reducible rfl
                try simp only [Act.put, List.setIfInBounds_toArray]
                refine wpAnyH_done (by kernel_rfl) ?_ _
                refine NoPanic.normal ?_
                go_wp2_with fail
                go_meet
                exact ⟨_, _, _, _, rfl, hsz, by omega, by omega, by omega, Blk.new _ _ _, hst.below ((Below.refl _ _).alloc (Nat.le_refl _) _)⟩
              exact AllReadyH.nil
            exact AllReadyH.nil
          refine AllReadyH.cons rfl (fun K hK => ?_) ?_
          · rw [if_pos (by rfl)]
            refine wp_make_OwnF (.tmp 26) (.tmp 26) rfl elI (n := n) (lo := W1.heap.size) rfl rfl (by omega) (by simp only [maxLen]; omega) hst.low.size ?_
            rintro ub Wm rfl hoS zS
            rw [made_zerosF] at hoS
            replace hst := hst.addU hoS zS
            clear hoS zS
            refine hK.out _ _ ?_ (fun hHeld => ?_)
            · first | (with_reducible exact KG.out _ hst.low) | exact KG.out _ (hst.low.alloc hst.low.size _)
            clear hK K
            try simp only [Act.put, List.setIfInBounds_toArray]
            try simp only [putAll, markAll, dstAt, Act.put, List.getElem_toArray, List.getElem?_toArray, List.getElem_cons_zero, List.getElem_cons_succ, List.getElem?_cons_zero, List.getElem?_cons_succ, Option.bind_some, List.setIfInBounds_toArray, List.set_cons_zero, List.set_cons_succ]
            refine wpAnyH_ready (rs := [3]) (by kernel_rfl) (by simp) ?_
            refine AllReadyH.cons rfl (fun K hK => ?_) ?_
            · rw [if_pos (by rfl)]
              refine wp_make_OwnF (.tmp 22) (.tmp 22) rfl elI (n := ns) (lo := W1.heap.size) rfl rfl (by omega) (by simp only [maxLen]; omega) hst.low.size ?_
              rintro ub Wm rfl hoS zS
              rw [made_zerosF] at hoS
              replace hst := hst.addS hoS zS
              clear hoS zS
              refine hK.out _ _ ?_ (fun hHeld => ?_)
              · first | (with_reducible exact KG.out _ hst.low) | exact KG.out _ (hst.low.alloc hst.low.size _)
              clear hK K
              try simp only [Act.put]
              refine wpAnyH_take (i := 8) (v := ?_) rfl (by kernel_rfl) (by kernel_rfl) (by kernel_rfl) (fun _ _ _ h => h) (Or.inl ⟨by rfl, ?_⟩) (by assumption) ?_
              rotate_left
              · intro w hSw
                try dsimp only at hSw
                obtain ⟨hs0_, hs1_⟩ := hSw
                go_simp
                try with_reducible rfl
              try simp only [Act.put]
              try simp only [putAll, markAll, dstAt, Act.put, List.getElem_toArray, List.getElem?_toArray, List.getElem_cons_zero, List.getElem_cons_succ, List.getElem?_cons_zero, List.getElem?_cons_succ, Option.bind_some, List.setIfInBounds_toArray, List.set_cons_zero, List.set_cons_succ]
              refine wpAnyH_ready (rs := [9]) (by kernel_rfl) (by simp) ?_
              refine AllReadyH.cons rfl (fun K hK => ?_) ?_
              · go_simp
                have hsz := hst.low.size
                have e0 := (hst.m _ rfl).1.lt
                have e1 := (hst.s _ rfl).blk_lt _ rfl
                have e2 := (hst.u _ rfl).blk_lt _ rfl
                refine hK.out _ _ ?_ (fun hHeld => ?_)
                · first | (with_reducible exact KG.out _ hst.low) | exact KG.out _ (hst.low.alloc hst.low.size _)
                clear hK K
                try simp only [Act.put, List.setIfInBounds_toArray, List.set_cons_zero, List.set_cons_succ]
                refine wpAnyH_take (i := 10) (v := ?_) rfl (by kernel_rfl) (by kernel_rfl) (by kernel_rfl) (fun _ _ _ h => h) (Or.inl ⟨by rfl, ?_⟩) (by assumption) ?_
                rotate_left
                · intro w hSw
                  try dsimp only at hSw
                  obtain ⟨hs0_, hs1_⟩ := hSw
                  go_simp
                  try with_reducible rfl
                try simp only [Act.put, List.setIfInBounds_toArray]
                refine wpAnyH_done (by kernel_rfl) ?_ _
                refine NoPanic.normal ?_
                go_wp2_with fail
                go_meet
                exact ⟨_, _, _, _, rfl, hsz, by omega, by omega, by omega, Blk.new _ _ _, hst.below ((Below.refl _ _).alloc (Nat.le_refl _) _)⟩
              exact AllReadyH.nil
            exact AllReadyH.nil
          exact AllReadyH.nil
        exact AllReadyH.nil
      refine AllReadyH.cons rfl (fun K hK => ?_) ?_
      · rw [if_pos (by rfl)]
        refine wp_make_OwnF (.tmp 22) (.tmp 22) rfl elI (n := ns) (lo := W1.heap.size) rfl rfl (by omega) (by simp only [maxLen]; omega) hst.low.size ?_
        rintro ub Wm rfl hoS zS
        rw [made_zerosF] at hoS
        replace hst := hst.addS hoS zS
        clear hoS zS
        refine hK.out _ _ ?_ (fun hHeld => ?_)
        · first | (with_reducible exact KG.out _ hst.low) | exact KG.out _ (hst.low.alloc hst.low.size _)
        clear hK K
        try simp only [Act.put, List.setIfInBounds_toArray]
        try simp only [putAll, markAll, dstAt, Act.put, List.getElem_toArray, List.getElem?_toArray, List.getElem_cons_zero, List.getElem_cons_succ, List.getElem?_cons_zero, List.getElem?_cons_succ, Option.bind_some, List.setIfInBounds_toArray, List.set_cons_zero, List.set_cons_succ]
        refine wpAnyH_ready (rs := [0, 6]) (by kernel_rfl) (by simp) ?_
        refine AllReadyH.cons rfl (fun K hK => ?_) ?_
        · go_simp
          replace hst := hst.addM
          generalize World.alloc _ (Obj.map #[] 0) = Wx at hst ⊢
          refine hK.out _ _ ?_ (fun hHeld => ?_)
          · first | (with_reducible exact KG.out _ hst.low) | exact KG.out _ (hst.low.alloc hst.low.size _)
          clear hK K
          try simp only [Act.put, List.setIfInBounds_toArray, List.set_cons_zero, List.set_cons_succ]
          try simp only [putAll, markAll, dstAt, Act.put, List.getElem_toArray, List.getElem?_toArray, List.getElem_cons_zero, List.getElem_cons_succ, List.getElem?_cons_zero, List.getElem?_cons_succ, Option.bind_some, List.setIfInBounds_toArray, List.set_cons_zero, List.set_cons_succ]
          refine wpAnyH_ready (rs := [6]) (by kernel_rfl) (by simp) ?_
          refine AllReadyH.cons rfl (fun K hK => ?_) ?_
          · go_simp
            refine hK.out _ _ ?_ (fun hHeld => ?_)
            · first | (with_reducible exact KG.out _ hst.low) | exact KG.out _ (hst.low.alloc hst.low.size _)
            clear hK K
            try simp only [Act.put, List.setIfInBounds_toArray, List.set_cons_zero, List.set_cons_succ]
            try simp only [putAll, markAll, dstAt, Act.put, List.getElem_toArray, List.getElem?_toArray, List.getElem_cons_zero, List.getElem_cons_succ, List.getElem?_cons_zero, List.getElem?_cons_succ, Option.bind_some, List.setIfInBounds_toArray, List.set_cons_zero, List.set_cons_succ]
            refine wpAnyH_ready (rs := [7]) (by kernel_rfl) (by simp) ?_
            refine AllReadyH.cons rfl (fun K hK => ?_) ?_
            · rw [if_pos (by rfl)]
              refine wp_make_OwnF (.tmp 26) (.tmp 26) rfl elI (n := n) (lo := W1.heap.size) rfl rfl (by omega) (by simp only [maxLen]; omega) hst.low.size ?_
              rintro ub Wm rfl hoS zS
              rw [made_zerosF] at hoS
              replace hst := hst.addU hoS zS
              clear hoS zS
              refine hK.out _ _ ?_ (fun hHeld => ?_)
              · first | (with_reducible exact KG.out _ hst.low) | exact KG.out _ (hst.low.alloc hst.low.size _)
              clear hK K
              try simp only [Act.put, List.setIfInBounds_toArray]
              refine wpAnyH_take (i := 8) (v := ?_) rfl (by kernel_rfl) (by kernel_rfl) (by kernel_rfl) (fun _ _ _ h => h) (Or.inl ⟨by rfl, ?_⟩) (by assumption) ?_
              rotate_left
              · intro w hSw
                try dsimp only at hSw
                obtain ⟨hs0_, hs1_⟩ := hSw
                go_simp
                try with_reducible rfl
              try simp only [Act.put]
              try simp only [putAll, markAll, dstAt, Act.put, List.getElem_toArray, List.getElem?_toArray, List.getElem_cons_zero, List.getElem_cons_succ, List.getElem?_cons_zero, List.getElem?_cons_succ, Option.bind_some, List.setIfInBounds_toArray, List.set_cons_zero, List.set_cons_succ]
              refine wpAnyH_ready (rs := [9]) (by kernel_rfl) (by simp) ?_
              refine AllReadyH.cons rfl (fun K hK => ?_) ?_
              · go_simp
                have hsz := hst.low.size
                have e0 := (hst.m _ rfl).1.lt
                have e1 := (hst.s _ rfl).blk_lt _ rfl
                have e2 := (hst.u _ rfl).blk_lt _ rfl
                refine hK.out _ _ ?_ (fun hHeld => ?_)
                · first | (with_reducible exact KG.out _ hst.low) | exact KG.out _ (hst.low.alloc hst.low.size _)
                clear hK K
                try simp only [Act.put, List.setIfInBounds_toArray, List.set_cons_zero, List.set_cons_succ]
                refine wpAnyH_take (i := 10) (v := ?_) rfl (by kernel_rfl) (by kernel_rfl) (by kernel_rfl) (fun _ _ _ h => h) (Or.inl ⟨by rfl, ?_⟩) (by assumption) ?_
                rotate_left
                · intro w hSw
                  try dsimp only at hSw
                  obtain ⟨hs0_, hs1_⟩ := hSw
                  go_simp
                  try with_reducible rfl
                try simp only [Act.put, List.setIfInBounds_toArray]
                refine wpAnyH_done (by kernel_rfl) ?_ _
                refine NoPanic.normal ?_
                go_wp2_with fail
                go_meet
                exact ⟨_, _, _, _, rfl, hsz, by omega, by omega, by omega, Blk.new _ _ _, hst.below ((Below.refl _ _).alloc (Nat.le_refl _) _)⟩
              exact AllReadyH.nil
            exact AllReadyH.nil
          exact AllReadyH.nil
        refine AllReadyH.cons rfl (fun K hK => ?_) ?_
        · go_simp
          refine hK.out _ _ ?_ (fun hHeld => ?_)
          · first | (with_reducible exact KG.out _ hst.low) | exact KG.out _ (hst.low.alloc hst.low.size _)
          clear hK K
          try simp only [Act.put, List.setIfInBounds_toArray, List.set_cons_zero, List.set_cons_succ]
          try simp only [putAll, markAll, dstAt, Act.put, List.getElem_toArray, List.getElem?_toArray, List.getElem_cons_zero, List.getElem_cons_succ, List.getElem?_cons_zero, List.getElem?_cons_succ, Option.bind_some, List.setIfInBounds_toArray, List.set_cons_zero, List.set_cons_succ]
          refine wpAnyH_ready (rs := [0, 7]) (by kernel_rfl) (by simp) ?_
          refine AllReadyH.cons rfl (fun K hK => ?_) ?_
          · go_simp
            replace hst := hst.addM
            generalize World.alloc _ (Obj.map #[] 0) = Wx at hst ⊢
            refine hK.out _ _ ?_ (fun hHeld => ?_)
            · first | (with_reducible exact KG.out _ hst.low) | exact KG.out _ (hst.low.alloc hst.low.size _)
            clear hK K
            try simp only [Act.put, List.setIfInBounds_toArray, List.set_cons_zero, List.set_cons_succ]
            try simp only [putAll, markAll, dstAt, Act.put, List.getElem_toArray, List.getElem?_toArray, List.getElem_cons_zero, List.getElem_cons_succ, List.getElem?_cons_zero, List.getElem?_cons_succ, Option.bind_some, List.setIfInBounds_toArray, List.set_cons_zero, List.set_cons_succ]
            refine wpAnyH_ready (rs := [7]) (by kernel_rfl) (by simp) ?_
            refine AllReadyH.cons rfl (fun K hK => ?_) ?_
            · rw [if_pos (by rfl)]
              refine wp_make_OwnF (.tmp 26) (.tmp 26) rfl elI (n := n) (lo := W1.heap.size) rfl rfl (by omega) (by simp only [maxLen]; omega) hst.low.size ?_
              rintro ub Wm rfl hoS zS
              rw [made_zerosF] at hoS
              replace hst := hst.addU hoS zS
              clear hoS zS
              refine hK.out _ _ ?_ (fun hHeld => ?_)
              · first | (with_reducible exact KG.out _ hst.low) | exact KG.out _ (hst.low.alloc hst.low.size _)
              clear hK K
              try simp only [Act.put, List.setIfInBounds_toArray]
              refine wpAnyH_take (i := 8) (v := ?_) rfl (by kernel_rfl) (by kernel_rfl) (by kernel_rfl) (fun _ _ _ h => h) (Or.inl ⟨by rfl, ?_⟩) (by assumption) ?_
              rotate_left
              · intro w hSw
                try dsimp only at hSw
                obtain ⟨hs0_, hs1_⟩ := hSw
                go_simp
                try with_reducible rfl
              try simp only [Act.put]
              try simp only [putAll, markAll, dstAt, Act.put, List.getElem_toArray, List.getElem?_toArray, List.getElem_cons_zero, List.getElem_cons_succ, List.getElem?_cons_zero, List.getElem?_cons_succ, Option.bind_some, List.setIfInBounds_toArray, List.set_cons_zero, List.set_cons_succ]
              refine wpAnyH_ready (rs := [9]) (by kernel_rfl) (by simp) ?_
              refine AllReadyH.cons rfl (fun K hK => ?_) ?_
              · go_simp
                have hsz := hst.low.size
                have e0 := (hst.m _ rfl).1.lt
                have e1 := (hst.s _ rfl).blk_lt _ rfl
                have e2 := (hst.u _ rfl).blk_lt _ rfl
                refine hK.out _ _ ?_ (fun hHeld => ?_)
                · first | (with_reducible exact KG.out _ hst.low) | exact KG.out _ (hst.low.alloc hst.low.size _)
                clear hK K
                try simp only [Act.put, List.setIfInBounds_toArray, List.set_cons_zero, List.set_cons_succ]
                refine wpAnyH_take (i := 10) (v := ?_) rfl (by kernel_rfl) (by kernel_rfl) (by kernel_rfl) (fun _ _ _ h => h) (Or.inl ⟨by rfl, ?_⟩) (by assumption) ?_
                rotate_left
                · intro w hSw
                  try dsimp only at hSw
                  obtain ⟨hs0_, hs1_⟩ := hSw
                  go_simp
                  try with_reducible rfl
                try simp only [Act.put, List.setIfInBounds_toArray]
                refine wpAnyH_done (by kernel_rfl) ?_ _
                refine NoPanic.normal ?_
                go_wp2_with fail
                go_meet
                exact ⟨_, _, _, _, rfl, hsz, by omega, by omega, by omega, Blk.new _ _ _, hst.below ((Below.refl _ _).alloc (Nat.le_refl _) _)⟩
              exact AllReadyH.nil
            exact AllReadyH.nil
          refine AllReadyH.cons rfl (fun K hK => ?_) ?_
          · rw [if_pos (by rfl)]
            refine wp_make_OwnF (.tmp 26) (.tmp 26) rfl elI (n := n) (lo := W1.heap.size) rfl rfl (by omega) (by simp only [maxLen]; omega) hst.low.size ?_
            rintro ub Wm rfl hoS zS
            rw [made_zerosF] at hoS
            replace hst := hst.addU hoS zS
            clear hoS zS
            refine hK.out _ _ ?_ (fun hHeld => ?_)
            · first | (with_reducible exact KG.out _ hst.low) | exact KG.out _ (hst.low.alloc hst.low.size _)
            clear hK K
            try simp only [Act.put, List.setIfInBounds_toArray]
            try simp only [putAll, markAll, dstAt, Act.put, List.getElem_toArray, List.getElem?_toArray, List.getElem_cons_zero, List.getElem_cons_succ, List.getElem?_cons_zero, List.getElem?_cons_succ, Option.bind_some, List.setIfInBounds_toArray, List.set_cons_zero, List.set_cons_succ]
            refine wpAnyH_ready (rs := [0]) (by kernel_rfl) (by simp) ?_
            refine AllReadyH.cons rfl (fun K hK => ?_) ?_
            · go_simp
              replace hst := hst.addM
              generalize World.alloc _ (Obj.map #[] 0) = Wx at hst ⊢
              refine hK.out _ _ ?_ (fun hHeld => ?_)
              · first | (with_reducible exact KG.out _ hst.low) | exact KG.out _ (hst.low.alloc hst.low.size _)
              clear hK K
              try simp only [Act.put, List.setIfInBounds_toArray, List.set_cons_zero, List.set_cons_succ]
              refine wpAnyH_take (i := 8) (v := ?_) rfl (by kernel_rfl) (by kernel_rfl) (by kernel_rfl) (fun _ _ _ h => h) (Or.inl ⟨by rfl, ?_⟩) (by assumption) ?_
              rotate_left
              · intro w hSw
                try dsimp only at hSw
                obtain ⟨hs0_, hs1_⟩ := hSw
                go_simp
                try with_reducible rfl
              try simp only [Act.put, List.setIfInBounds_toArray]
              try simp only [putAll, markAll, dstAt, Act.put, List.getElem_toArray, List.getElem?_toArray, List.getElem_cons_zero, List.getElem_cons_succ, List.getElem?_cons_zero, List.getElem?_cons_succ, Option.bind_some, List.setIfInBounds_toArray, List.set_cons_zero, List.set_cons_succ]
              refine wpAnyH_ready (rs := [9]) (by kernel_rfl) (by simp) ?_
              refine AllReadyH.cons rfl (fun K hK => ?_) ?_
              · go_simp
                have hsz := hst.low.size
                have e0 := (hst.m _ rfl).1.lt
                have e1 := (hst.s _ rfl).blk_lt _ rfl
                have e2 := (hst.u _ rfl).blk_lt _ rfl
                refine hK.out _ _ ?_ (fun hHeld => ?_)
                · first | (with_reducible exact KG.out _ hst.low) | exact KG.out _ (hst.low.alloc hst.low.size _)
                clear hK K
                try simp only [Act.put, List.setIfInBounds_toArray, List.set_cons_zero, List.set_cons_succ]
                refine wpAnyH_take (i := 10) (v := ?_) rfl (by kernel_rfl) (by kernel_rfl) (by kernel_rfl) (fun _ _ _ h => h) (Or.inl ⟨by rfl, ?_⟩) (by assumption) ?_
                rotate_left
                · intro w hSw
                  try dsimp only at hSw
                  obtain ⟨hs0_, hs1_⟩ := hSw
                  go_simp
                  try with_reducible rfl
                try simp only [Act.put, List.setIfInBounds_toArray]
                refine wpAnyH_done (by kernel_rfl) ?_ _
                refine NoPanic.normal ?_
                go_wp2_with fail
                go_meet
                exact ⟨_, _, _, _, rfl, hsz, by omega, by omega, by omega, Blk.new _ _ _, hst.below ((Below.refl _ _).alloc (Nat.le_refl _) _)⟩
              exact AllReadyH.nil
            exact AllReadyH.nil
          exact AllReadyH.nil
        exact AllReadyH.nil
      refine AllReadyH.cons rfl (fun K hK => ?_) ?_
      · go_simp
        refine hK.out _ _ ?_ (fun hHeld => ?_)
        · first | (with_reducible exact KG.out _ hst.low) | exact KG.out _ (hst.low.alloc hst.low.size _)
        clear hK K
        try simp only [Act.put, List.setIfInBounds_toArray, List.set_cons_zero, List.set_cons_succ]
        try simp only [putAll, markAll, dstAt, Act.put, List.getElem_toArray, List.getElem?_toArray, List.getElem_cons_zero, List.getElem_cons_succ, List.getElem?_cons_zero, List.getElem?_cons_succ, Option.bind_some, List.setIfInBounds_toArray, List.set_cons_zero, List.set_cons_succ]
        refine wpAnyH_ready (rs := [0, 3, 7]) (by kernel_rfl) (by simp) ?_
        refine AllReadyH.cons rfl (fun K hK => ?_) ?_
        · go_simp
          replace hst := hst.addM
          generalize World.alloc _ (Obj.map #[] 0) = Wx at hst ⊢
          refine hK.out _ _ ?_ (fun hHeld => ?_)
          · first | (with_reducible exact KG.out _ hst.low) | exact KG.out _ (hst.low.alloc hst.low.size _)
          clear hK K
          try simp only [Act.put, List.setIfInBounds_toArray, List.set_cons_zero, List.set_cons_succ]
          try simp only [putAll, markAll, dstAt, Act.put, List.getElem_toArray, List.getElem?_toArray, List.getElem_cons_zero, List.getElem_cons_succ, List.getElem?_cons_zero, List.getElem?_cons_succ, Option.bind_some, List.setIfInBounds_toArray, List.set_cons_zero, List.set_cons_succ]
          refine wpAnyH_ready (rs := [3, 7]) (by kernel_rfl) (by simp) ?_
          refine AllReadyH.cons rfl (fun K hK => ?_) ?_
          · rw [if_pos (by rfl)]
            refine wp_make_OwnF (.tmp 22) (.tmp 22) rfl elI (n := ns) (lo := W1.heap.size) rfl rfl (by omega) (by simp only [maxLen]; omega) hst.low.size ?_
            rintro ub Wm rfl hoS zS
            rw [made_zerosF] at hoS
            replace hst := hst.addS hoS zS
            clear hoS zS
            refine hK.out _ _ ?_ (fun hHeld => ?_)
            · first | (with_reducible exact KG.out _ hst.low) | exact KG.out _ (hst.low.alloc hst.low.size _)
            clear hK K
            try simp only [Act.put, List.setIfInBounds_toArray]
            try simp only [putAll, markAll, dstAt, Act.put, List.getElem_toArray, List.getElem?_toArray, List.getElem_cons_zero, List.getElem_cons_succ, List.getElem?_cons_zero, List.getElem?_cons_succ, Option.bind_some, List.setIfInBounds_toArray, List.set_cons_zero, List.set_cons_succ]
            refine wpAnyH_ready (rs := [7]) (by kernel_rfl) (by simp) ?_
            refine AllReadyH.cons rfl (fun K hK => ?_) ?_
            · rw [if_pos (by rfl)]
              refine wp_make_OwnF (.tmp 26) (.tmp 26) rfl elI (n := n) (lo := W1.heap.size) rfl rfl (by omega) (by simp only [maxLen]; omega) hst.low.size ?_
              rintro ub Wm rfl hoS zS
              rw [made_zerosF] at hoS
              replace hst := hst.addU hoS zS
              clear hoS zS
              refine hK.out _ _ ?_ (fun hHeld => ?_)
              · first | (with_reducible exact KG.out _ hst.low) | exact KG.out _ (hst.low.alloc hst.low.size _)
              clear hK K
              try simp only [Act.put]
              refine wpAnyH_take (i := 8) (v := ?_) rfl (by kernel_rfl) (by kernel_rfl) (by kernel_rfl) (fun _ _ _ h => h) (Or.inl ⟨by rfl, ?_⟩) (by assumption) ?_
              rotate_left
              · intro w hSw
                try dsimp only at hSw
                obtain ⟨hs0_, hs1_⟩ := hSw
                go_simp
                try with_reducible rfl
              try simp only [Act.put]
              try simp only [putAll, markAll, dstAt, Act.put, List.getElem_toArray, List.getElem?_toArray, List.getElem_cons_zero, List.getElem_cons_succ, List.getElem?_cons_zero, List.getElem?_cons_succ, Option.bind_some, List.setIfInBounds_toArray, List.set_cons_zero, List.set_cons_succ]
              refine wpAnyH_ready (rs := [9]) (by kernel_rfl) (by simp) ?_
              refine AllReadyH.cons rfl (fun K hK => ?_) ?_
              · go_simp
                have hsz := hst.low.size
                have e0 := (hst.m _ rfl).1.lt
                have e1 := (hst.s _ rfl).blk_lt _ rfl
                have e2 := (hst.u _ rfl).blk_lt _ rfl
                refine hK.out _ _ ?_ (fun hHeld => ?_)
                · first | (with_reducible exact KG.out _ hst.low) | exact KG.out _ (hst.low.alloc hst.low.size _)
                clear hK K
                try simp only [Act.put, List.setIfInBounds_toArray, List.set_cons_zero, List.set_cons_succ]
                refine wpAnyH_take (i := 10) (v := ?_) rfl (by kernel_rfl) (by kernel_rfl) (by kernel_rfl) (fun _ _ _ h => h) (Or.inl ⟨by rfl, ?_⟩) (by assumption) ?_
                rotate_left
                · intro w hSw
                  try dsimp only at hSw
                  obtain ⟨hs0_, hs1_⟩ := hSw
                  go_simp
                  try with_reducible rfl
                try simp only [Act.put, List.setIfInBounds_toArray]
                refine wpAnyH_done (by kernel_rfl) ?_ _
                refine NoPanic.normal ?_
                go_wp2_with fail
                go_meet
                exact ⟨_, _, _, _, rfl, hsz, by omega, by omega, by omega, Blk.new _ _ _, hst.below ((Below.refl _ _).alloc (Nat.le_refl _) _)⟩
              exact AllReadyH.nil
            exact AllReadyH.nil
          refine AllReadyH.cons rfl (fun K hK => ?_) ?_
          · rw [if_pos (by rfl)]
            refine wp_make_OwnF (.tmp 26) (.tmp 26) rfl elI (n := n) (lo := W1.heap.size) rfl rfl (by omega) (by simp only [maxLen]; omega) hst.low.size ?_
            rintro ub Wm rfl hoS zS
            rw [made_zerosF] at hoS
            replace hst := hst.addU hoS zS
            clear hoS zS
            refine hK.out _ _ ?_ (fun hHeld => ?_)
            · first | (with_reducible exact KG.out _ hst.low) | exact KG.out _ (hst.low.alloc hst.low.size _)
            clear hK K
            try simp only [Act.put, List.setIfInBounds_toArray]
            try simp only [putAll, markAll, dstAt, Act.put, List.getElem_toArray, List.getElem?_toArray, List.getElem_cons_zero, List.getElem_cons_succ, List.getElem?_cons_zero, List.getElem?_cons_succ, Option.bind_some, List.setIfInBounds_toArray, List.set_cons_zero, List.set_cons_succ]
            refine wpAnyH_ready (rs := [3]) (by kernel_rfl) (by simp) ?_
            refine AllReadyH.cons rfl (fun K hK => ?_) ?_
            · rw [if_pos (by rfl)]
              refine wp_make_OwnF (.tmp 22) (.tmp 22) rfl elI (n := ns) (lo := W1.heap.size) rfl rfl (by omega) (by simp only [maxLen]; omega) hst.low.size ?_
              rintro ub Wm rfl hoS zS
              rw [made_zerosF] at hoS
              replace hst := hst.addS hoS zS
              clear hoS zS
              refine hK.out _ _ ?_ (fun hHeld => ?_)
              · first | (with_reducible exact KG.out _ hst.low) | exact KG.out _ (hst.low.alloc hst.low.size _)
              clear hK K
              try simp only [Act.put]
              refine wpAnyH_take (i := 8) (v := ?_) rfl (by kernel_rfl) (by kernel_rfl) (by kernel_rfl) (fun _ _ _ h => h) (Or.inl ⟨by rfl, ?_⟩) (by assumption) ?_
              rotate_left
              · intro w hSw
                try dsimp only at hSw
                obtain ⟨hs0_, hs1_⟩ := hSw
                go_simp
                try with_reducible rfl
              try simp only [Act.put]
              try simp only [putAll, markAll, dstAt, Act.put, List.getElem_toArray, List.getElem?_toArray, List.getElem_cons_zero, List.getElem_cons_succ, List.getElem?_cons_zero, List.getElem?_cons_succ, Option.bind_some, List.setIfInBounds_toArray, List.set_cons_zero, List.set_cons_succ]
              refine wpAnyH_ready (rs := [9]) (by kernel_rfl) (by simp) ?_
              refine AllReadyH.cons rfl (fun K hK => ?_) ?_
              · go_simp
                have hsz := hst.low.size
                have e0 := (hst.m _ rfl).1.lt
                have e1 := (hst.s _ rfl).blk_lt _ rfl
                have e2 := (hst.u _ rfl).blk_lt _ rfl
                refine hK.out _ _ ?_ (fun hHeld => ?_)
                · first | (with_reducible exact KG.out _ hst.low) | exact KG.out _ (hst.low.alloc hst.low.size _)
                clear hK K
                try simp only [Act.put, List.setIfInBounds_toArray, List.set_cons_zero, List.set_cons_succ]
                refine wpAnyH_take (i := 10) (v := ?_) rfl (by kernel_rfl) (by kernel_rfl) (by kernel_rfl) (fun _ _ _ h => h) (Or.inl ⟨by rfl, ?_⟩) (by assumption) ?_
                rotate_left
                · intro w hSw
                  try dsimp only at hSw
                  obtain ⟨hs0_, hs1_⟩ := hSw
                  go_simp
                  try with_reducible rfl
                try simp only [Act.put, List.setIfInBounds_toArray]
                refine wpAnyH_done (by kernel_rfl) ?_ _
                refine NoPanic.normal ?_
                go_wp2_with fail
                go_meet
                exact ⟨_, _, _, _, rfl, hsz, by omega, by omega, by omega, Blk.new _ _ _, hst.below ((Below.refl _ _).alloc (Nat.le_refl _) _)⟩
              exact AllReadyH.nil
            exact AllReadyH.nil
          exact AllReadyH.nil
        refine AllReadyH.cons rfl (fun K hK => ?_) ?_
        · rw [if_pos (by rfl)]
          refine wp_make_OwnF (.tmp 22) (.tmp 22) rfl elI (n := ns) (lo := W1.heap.size) rfl rfl (by omega) (by simp only [maxLen]; omega) hst.low.size ?_
          rintro ub Wm rfl hoS zS
          rw [made_zerosF] at hoS
          replace hst := hst.addS hoS zS
          clear hoS zS
          refine hK.out _ _ ?_ (fun hHeld => ?_)
          · first | (with_reducible exact KG.out _ hst.low) | exact KG.out _ (hst.low.alloc hst.low.size _)
          clear hK K
          try simp only [Act.put, List.setIfInBounds_toArray]
          try simp only [putAll, markAll, dstAt, Act.put, List.getElem_toArray, List.getElem?_toArray, List.getElem_cons_zero, List.getElem_cons_succ, List.getElem?_cons_zero, List.getElem?_cons_succ, Option.bind_some, List.setIfInBounds_toArray, List.set_cons_zero, List.set_cons_succ]
          refine wpAnyH_ready (rs := [0, 7]) (by kernel_rfl) (by simp) ?_
          refine AllReadyH.cons rfl (fun K hK => ?_) ?_
          · go_simp
            replace hst := hst.addM
            generalize World.alloc _ (Obj.map #[] 0) = Wx at hst ⊢
            refine hK.out _ _ ?_ (fun hHeld => ?_)
            · first | (with_reducible exact KG.out _ hst.low) | exact KG.out _ (hst.low.alloc hst.low.size _)
            clear hK K
            try simp only [Act.put, List.setIfInBounds_toArray, List.set_cons_zero, List.set_cons_succ]
            try simp only [putAll, markAll, dstAt, Act.put, List.getElem_toArray, List.getElem?_toArray, List.getElem_cons_zero, List.getElem_cons_succ, List.getElem?_cons_zero, List.getElem?_cons_succ, Option.bind_some, List.setIfInBounds_toArray, List.set_cons_zero, List.set_cons_succ]
            refine wpAnyH_ready (rs := [7]) (by kernel_rfl) (by simp) ?_
            refine AllReadyH.cons rfl (fun K hK => ?_) ?_
            · rw [if_pos (by rfl)]
              refine wp_make_OwnF (.tmp 26) (.tmp 26) rfl elI (n := n) (lo := W1.heap.size) rfl rfl (by omega) (by simp only [maxLen]; omega) hst.low.size ?_
              rintro ub Wm rfl hoS zS
              rw [made_zerosF] at hoS
              replace hst := hst.addU hoS zS
              clear hoS zS
              refine hK.out _ _ ?_ (fun hHeld => ?_)
              · first | (with_reducible exact KG.out _ hst.low) | exact KG.out _ (hst.low.alloc hst.low.size _)
              clear hK K
              try simp only [Act.put, List.setIfInBounds_toArray]
              refine wpAnyH_take (i := 8) (v := ?_) rfl (by kernel_rfl) (by kernel_rfl) (by kernel_rfl) (fun _ _ _ h => h) (Or.inl ⟨by rfl, ?_⟩) (by assumption) ?_
              rotate_left
              · intro w hSw
                try dsimp only at hSw
                obtain ⟨hs0_, hs1_⟩ := hSw
                go_simp
                try with_reducible rfl
              try simp only [Act.put]
              try simp only [putAll, markAll, dstAt, Act.put, List.getElem_toArray, List.getElem?_toArray, List.getElem_cons_zero, List.getElem_cons_succ, List.getElem?_cons_zero, List.getElem?_cons_succ, Option.bind_some, List.setIfInBounds_toArray, List.set_cons_zero, List.set_cons_succ]
              refine wpAnyH_ready (rs := [9]) (by kernel_rfl) (by simp) ?_
              refine AllReadyH.cons rfl (fun K hK => ?_) ?_
              · go_simp
                have hsz := hst.low.size
                have e0 := (hst.m _ rfl).1.lt
                have e1 := (hst.s _ rfl).blk_lt _ rfl
                have e2 := (hst.u _ rfl).blk_lt _ rfl
                refine hK.out _ _ ?_ (fun hHeld => ?_)
                · first | (with_reducible exact KG.out _ hst.low) | exact KG.out _ (hst.low.alloc hst.low.size _)
                clear hK K
                try simp only [Act.put, List.setIfInBounds_toArray, List.set_cons_zero, List.set_cons_succ]
                refine wpAnyH_take (i := 10) (v := ?_) rfl (by kernel_rfl) (by kernel_rfl) (by kernel_rfl) (fun _ _ _ h => h) (Or.inl ⟨by rfl, ?_⟩) (by assumption) ?_
                rotate_left
                · intro w hSw
                  try dsimp only at hSw
                  obtain ⟨hs0_, hs1_⟩ := hSw
                  go_simp
                  try with_reducible rfl
                try simp only [Act.put, List.setIfInBounds_toArray]
                refine wpAnyH_done (by kernel_rfl) ?_ _
                refine NoPanic.normal ?_
                go_wp2_with fail
                go_meet
                exact ⟨_, _, _, _, rfl, hsz, by omega, by omega, by omega, Blk.new _ _ _, hst.below ((Below.refl _ _).alloc (Nat.le_refl _) _)⟩
              exact AllReadyH.nil
            exact AllReadyH.nil
          refine AllReadyH.cons rfl (fun K hK => ?_) ?_
          · rw [if_pos (by rfl)]
            refine wp_make_OwnF (.tmp 26) (.tmp 26) rfl elI (n := n) (lo := W1.heap.size) rfl rfl (by omega) (by simp only [maxLen]; omega) hst.low.size ?_
            rintro ub Wm rfl hoS zS
            rw [made_zerosF] at hoS
            replace hst := hst.addU hoS zS
            clear hoS zS
            refine hK.out _ _ ?_ (fun hHeld => ?_)
            · first | (with_reducible exact KG.out _ hst.low) | exact KG.out _ (hst.low.alloc hst.low.size _)
            clear hK K
            try simp only [Act.put]
            try simp only [putAll, markAll, dstAt, Act.put, List.getElem_toArray, List.getElem?_toArray, List.getElem_cons_zero, List.getElem_cons_succ, List.getElem?_cons_zero, List.getElem?_cons_succ, Option.bind_some, List.setIfInBounds_toArray, List.set_cons_zero, List.set_cons_succ]
            refine wpAnyH_ready (rs := [0]) (by kernel_rfl) (by simp) ?_
            refine AllReadyH.cons rfl (fun K hK => ?_) ?_
            · go_simp
              replace hst := hst.addM
              generalize World.alloc _ (Obj.map #[] 0) = Wx at hst ⊢
              refine hK.out _ _ ?_ (fun hHeld => ?_)
              · first | (with_reducible exact KG.out _ hst.low) | exact KG.out _ (hst.low.alloc hst.low.size _)
              clear hK K
              try simp only [Act.put, List.setIfInBounds_toArray, List.set_cons_zero, List.set_cons_succ]
              refine wpAnyH_take (i := 8) (v := ?_) rfl (by kernel_rfl) (by kernel_rfl) (by kernel_rfl) (fun _ _ _ h => h) (Or.inl ⟨by rfl, ?_⟩) (by assumption) ?_
              rotate_left
              · intro w hSw
                try dsimp only at hSw
                obtain ⟨hs0_, hs1_⟩ := hSw
                go_simp
                try with_reducible rfl
              try simp only [Act.put, List.setIfInBounds_toArray]
              try simp only [putAll, markAll, dstAt, Act.put, List.getElem_toArray, List.getElem?_toArray, List.getElem_cons_zero, List.getElem_cons_succ, List.getElem?_cons_zero, List.getElem?_cons_succ, Option.bind_some, List.setIfInBounds_toArray, List.set_cons_zero, List.set_cons_succ]
              refine wpAnyH_ready (rs := [9]) (by kernel_rfl) (by simp) ?_
              refine AllReadyH.cons rfl (fun K hK => ?_) ?_
              · go_simp
                have hsz := hst.low.size
                have e0 := (hst.m _ rfl).1.lt
                have e1 := (hst.s _ rfl).blk_lt _ rfl
                have e2 := (hst.u _ rfl).blk_lt _ rfl
                refine hK.out _ _ ?_ (fun hHeld => ?_)
                · first | (with_reducible exact KG.out _ hst.low) | exact KG.out _ (hst.low.alloc hst.low.size _)
                clear hK K
                try simp only [Act.put, List.setIfInBounds_toArray, List.set_cons_zero, List.set_cons_succ]
                refine wpAnyH_take (i := 10) (v := ?_) rfl (by kernel_rfl) (by kernel_rfl) (by kernel_rfl) (fun _ _ _ h => h) (Or.inl ⟨by rfl, ?_⟩) (by assumption) ?_
                rotate_left
                · intro w hSw
                  try dsimp only at hSw
                  obtain ⟨hs0_, hs1_⟩ := hSw
                  go_simp
                  try with_reducible rfl
                try simp only [Act.put, List.setIfInBounds_toArray]
                refine wpAnyH_done (by kernel_rfl) ?_ _
                refine NoPanic.normal ?_
                go_wp2_with fail
                go_meet
                exact ⟨_, _, _, _, rfl, hsz, by omega, by omega, by omega, Blk.new _ _ _, hst.below ((Below.refl _ _).alloc (Nat.le_refl _) _)⟩
              exact AllReadyH.nil
            exact AllReadyH.nil
          exact AllReadyH.nil
        refine AllReadyH.cons rfl (fun K hK => ?_) ?_
        · rw [if_pos (by rfl)]
          refine wp_make_OwnF (.tmp 26) (.tmp 26) rfl elI (n := n) (lo := W1.heap.size) rfl rfl (by omega) (by simp only [maxLen]; omega) hst.low.size ?_
          rintro ub Wm rfl hoS zS
          rw [made_zerosF] at hoS
          replace hst := hst.addU hoS zS
          clear hoS zS
          refine hK.out _ _ ?_ (fun hHeld => ?_)
          · first | (with_reducible exact KG.out _ hst.low) | exact KG.out _ (hst.low.alloc hst.low.size _)
          clear hK K
          try simp only [Act.put, List.setIfInBounds_toArray]
          try simp only [putAll, markAll, dstAt, Act.put, List.getElem_toArray, List.getElem?_toArray, List.getElem_cons_zero, List.getElem_cons_succ, List.getElem?_cons_zero, List.getElem?_cons_succ, Option.bind_some, List.setIfInBounds_toArray, List.set_cons_zero, List.set_cons_succ]
          refine wpAnyH_ready (rs := [0, 3]) (by kernel_rfl) (by simp) ?_
          refine AllReadyH.cons rfl (fun K hK => ?_) ?_
          · go_simp
            replace hst := hst.addM
            generalize World.alloc _ (Obj.map #[] 0) = Wx at hst ⊢
            refine hK.out _ _ ?_ (fun hHeld => ?_)
            · first | (with_reducible exact KG.out _ hst.low) | exact KG.out _ (hst.low.alloc hst.low.size _)
            clear hK K
            try simp only [Act.put, List.setIfInBounds_toArray, List.set_cons_zero, List.set_cons_succ]
            try simp only [putAll, markAll, dstAt, Act.put, List.getElem_toArray, List.getElem?_toArray, List.getElem_cons_zero, List.getElem_cons_succ, List.getElem?_cons_zero, List.getElem?_cons_succ, Option.bind_some, List.setIfInBounds_toArray, List.set_cons_zero, List.set_cons_succ]
            refine wpAnyH_ready (rs := [3]) (by kernel_rfl) (by simp) ?_
            refine AllReadyH.cons rfl (fun K hK => ?_) ?_
            · rw [if_pos (by rfl)]
              refine wp_make_OwnF (.tmp 22) (.tmp 22) rfl elI (n := ns) (lo := W1.heap.size) rfl rfl (by omega) (by simp only [maxLen]; omega) hst.low.size ?_
              rintro ub Wm rfl hoS zS
              rw [made_zerosF] at hoS
              replace hst := hst.addS hoS zS
              clear hoS zS
              refine hK.out _ _ ?_ (fun hHeld => ?_)
              · first | (with_reducible exact KG.out _ hst.low) | exact KG.out _ (hst.low.alloc hst.low.size _)
              clear hK K
              try simp only [Act.put, List.setIfInBounds_toArray]
              refine wpAnyH_take (i := 8) (v := ?_) rfl (by kernel_rfl) (by kernel_rfl) (by kernel_rfl) (fun _ _ _ h => h) (Or.inl ⟨by rfl, ?_⟩) (by assumption) ?_
              rotate_left
              · intro w hSw
                try dsimp only at hSw
                obtain ⟨hs0_, hs1_⟩ := hSw
                go_simp
                try with_reducible rfl
              try simp only [Act.put]
              try simp only [putAll, markAll, dstAt, Act.put, List.getElem_toArray, List.getElem?_toArray, List.getElem_cons_zero, List.getElem_cons_succ, List.getElem?_cons_zero, List.getElem?_cons_succ, Option.bind_some, List.setIfInBounds_toArray, List.set_cons_zero, List.set_cons_succ]
              refine wpAnyH_ready (rs := [9]) (by kernel_rfl) (by simp) ?_
              refine AllReadyH.cons rfl (fun K hK => ?_) ?_
              · go_simp
                have hsz := hst.low.size
                have e0 := (hst.m _ rfl).1.lt
                have e1 := (hst.s _ rfl).blk_lt _ rfl
                have e2 := (hst.u _ rfl).blk_lt _ rfl
                refine hK.out _ _ ?_ (fun hHeld => ?_)
                · first | (with_reducible exact KG.out _ hst.low) | exact KG.out _ (hst.low.alloc hst.low.size _)
                clear hK K
                try simp only [Act.put, List.setIfInBounds_toArray, List.set_cons_zero, List.set_cons_succ]
                refine wpAnyH_take (i := 10) (v := ?_) rfl (by kernel_rfl) (by kernel_rfl) (by kernel_rfl) (fun _ _ _ h => h) (Or.inl ⟨by rfl, ?_⟩) (by assumption) ?_
                rotate_left
                · intro w hSw
                  try dsimp only at hSw
                  obtain ⟨hs0_, hs1_⟩ := hSw
                  go_simp
                  try with_reducible rfl
                try simp only [Act.put, List.setIfInBounds_toArray]
                refine wpAnyH_done (by kernel_rfl) ?_ _
                refine NoPanic.normal ?_
                go_wp2_with fail
                go_meet
                exact ⟨_, _, _, _, rfl, hsz, by omega, by omega, by omega, Blk.new _ _ _, hst.below ((Below.refl _ _).alloc (Nat.le_refl _) _)⟩
              exact AllReadyH.nil
            exact AllReadyH.nil
          refine AllReadyH.cons rfl (fun K hK => ?_) ?_
          · rw [if_pos (by rfl)]
            refine wp_make_OwnF (.tmp 22) (.tmp 22) rfl elI (n := ns) (lo := W1.heap.size) rfl rfl (by omega) (by simp only [maxLen]; omega) hst.low.size ?_
            rintro ub Wm rfl hoS zS
            rw [made_zerosF] at hoS
            replace hst := hst.addS hoS zS
            clear hoS zS
            refine hK.out _ _ ?_ (fun hHeld => ?_)
            · first | (with_reducible exact KG.out _ hst.low) | exact KG.out _ (hst.low.alloc hst.low.size _)
            clear hK K
            try simp only [Act.put]
            try simp only [putAll, markAll, dstAt, Act.put, List.getElem_toArray, List.getElem?_toArray, List.getElem_cons_zero, List.getElem_cons_succ, List.getElem?_cons_zero, List.getElem?_cons_succ, Option.bind_some, List.setIfInBounds_toArray, List.set_cons_zero, List.set_cons_succ]
            refine wpAnyH_ready (rs := [0]) (by kernel_rfl) (by simp) ?_
            refine AllReadyH.cons rfl (fun K hK => ?_) ?_
            · go_simp
              replace hst := hst.addM
              generalize World.alloc _ (Obj.map #[] 0) = Wx at hst ⊢
              refine hK.out _ _ ?_ (fun hHeld => ?_)
              · first | (with_reducible exact KG.out _ hst.low) | exact KG.out _ (hst.low.alloc hst.low.size _)
              clear hK K
              try simp only [Act.put, List.setIfInBounds_toArray, List.set_cons_zero, List.set_cons_succ]
              refine wpAnyH_take (i := 8) (v := ?_) rfl (by kernel_rfl) (by kernel_rfl) (by kernel_rfl) (fun _ _ _ h => h) (Or.inl ⟨by rfl, ?_⟩) (by assumption) ?_
              rotate_left
              · intro w hSw
                try dsimp only at hSw
                obtain ⟨hs0_, hs1_⟩ := hSw
                go_simp
                try with_reducible rfl
              try simp only [Act.put, List.setIfInBounds_toArray]
              try simp only [putAll, markAll, dstAt, Act.put, List.getElem_toArray, List.getElem?_toArray, List.getElem_cons_zero, List.getElem_cons_succ, List.getElem?_cons_zero, List.getElem?_cons_succ, Option.bind_some, List.setIfInBounds_toArray, List.set_cons_zero, List.set_cons_succ]
              refine wpAnyH_ready (rs := [9]) (by kernel_rfl) (by simp) ?_
              refine AllReadyH.cons rfl (fun K hK => ?_) ?_
              · go_simp
                have hsz := hst.low.size
                have e0 := (hst.m _ rfl).1.lt
                have e1 := (hst.s _ rfl).blk_lt _ rfl
                have e2 := (hst.u _ rfl).blk_lt _ rfl
                refine hK.out _ _ ?_ (fun hHeld => ?_)
                · first | (with_reducible exact KG.out _ hst.low) | exact KG.out _ (hst.low.alloc hst.low.size _)
                clear hK K
                try simp only [Act.put, List.setIfInBounds_toArray, List.set_cons_zero, List.set_cons_succ]
                refine wpAnyH_take (i := 10) (v := ?_) rfl (by kernel_rfl) (by kernel_rfl) (by kernel_rfl) (fun _ _ _ h => h) (Or.inl ⟨by rfl, ?_⟩) (by assumption) ?_
                rotate_left
                · intro w hSw
                  try dsimp only at hSw
                  obtain ⟨hs0_, hs1_⟩ := hSw
                  go_simp
                  try with_reducible rfl
                try simp only [Act.put, List.setIfInBounds_toArray]
                refine wpAnyH_done (by kernel_rfl) ?_ _
                refine NoPanic.normal ?_
                go_wp2_with fail
                go_meet
                exact ⟨_, _, _, _, rfl, hsz, by omega, by omega, by omega, Blk.new _ _ _, hst.below ((Below.refl _ _).alloc (Nat.le_refl _) _)⟩
              exact AllReadyH.nil
            exact AllReadyH.nil
          exact AllReadyH.nil
        exact AllReadyH.nil
      exact AllReadyH.nil
    refine AllReadyH.cons rfl (fun K hK => ?_) ?_
    · go_simp
      refine hK.out _ _ ?_ (fun hHeld => ?_)
      · first | (with_reducible exact KG.out _ hst.low) | exact KG.out _ (hst.low.alloc hst.low.size _)
      clear hK K
      try simp only [Act.put, List.setIfInBounds_toArray, List.set_cons_zero, List.set_cons_succ]
      try simp only [putAll, markAll, dstAt, Act.put, List.getElem_toArray, List.getElem?_toArray, List.getElem_cons_zero, List.getElem_cons_succ, List.getElem?_cons_zero, List.getElem?_cons_succ, Option.bind_some, List.setIfInBounds_toArray, List.set_cons_zero, List.set_cons_succ]
      refine wpAnyH_ready (rs := [0, 2, 7]) (by kernel_rfl) (by simp) ?_
      refine AllReadyH.cons rfl (fun K hK => ?_) ?_
      · go_simp
        replace hst := hst.addM
        generalize World.alloc _ (Obj.map #[] 0) = Wx at hst ⊢
        refine hK.out _ _ ?_ (fun hHeld => ?_)
        · first | (with_reducible exact KG.out _ hst.low) | exact KG.out _ (hst.low.alloc hst.low.size _)
        clear hK K
        try simp only [Act.put, List.setIfInBounds_toArray, List.set_cons_zero, List.set_cons_succ]
        try simp only [putAll, markAll, dstAt, Act.put, List.getElem_toArray, List.getElem?_toArray, List.getElem_cons_zero, List.getElem_cons_succ, List.getElem?_cons_zero, List.getElem?_cons_succ, Option.bind_some, List.setIfInBounds_toArray, List.set_cons_zero, List.set_cons_succ]
        refine wpAnyH_ready (rs := [2, 7]) (by kernel_rfl) (by simp) ?_
        refine AllReadyH.cons rfl (fun K hK => ?_) ?_
        · obtain ⟨hs0_, hs1_⟩ := hHeld
          go_simp
          refine hK.out _ _ ?_ (fun hHeld => ?_)
          · first | (with_reducible exact KG.out _ hst.low) | exact KG.out _ (hst.low.alloc hst.low.size _)
          clear hK K
          try simp only [Act.put, List.setIfInBounds_toArray, List.set_cons_zero, List.set_cons_succ]
          try simp only [putAll, markAll, dstAt, Act.put, List.getElem_toArray, List.getElem?_toArray, List.getElem_cons_zero, List.getElem_cons_succ, List.getElem?_cons_zero, List.getElem?_cons_succ, Option.bind_some, List.setIfInBounds_toArray, List.set_cons_zero, List.set_cons_succ]
          refine wpAnyH_ready (rs := [3, 7]) (by kernel_rfl) (by simp) ?_
          refine AllReadyH.cons rfl (fun K hK => ?_) ?_
          · rw [if_pos (by rfl)]
            refine wp_make_OwnF (.tmp 22) (.tmp 22) rfl elI (n := ns) (lo := W1.heap.size) rfl rfl (by omega) (by simp only [maxLen]; omega) hst.low.size ?_
            rintro ub Wm rfl hoS zS
            rw [made_zerosF] at hoS
            replace hst := hst.addS hoS zS
            clear hoS zS
            refine hK.out _ _ ?_ (fun hHeld => ?_)
            · first | (with_reducible exact KG.out _ hst.low) | exact KG.out _ (hst.low.alloc hst.low.size _)
            clear hK K
            try simp only [Act.put, List.setIfInBounds_toArray]
            try simp only [putAll, markAll, dstAt, Act.put, List.getElem_toArray, List.getElem?_toArray, List.getElem_cons_zero, List.getElem_cons_succ, List.getElem?_cons_zero, List.getElem?_cons_succ, Option.bind_some, List.setIfInBounds_toArray, List.set_cons_zero, List.set_cons_succ]
            refine wpAnyH_ready (rs := [7]) (by kernel_rfl) (by simp) ?_
            refine AllReadyH.cons rfl (fun K hK => ?_) ?_
            · rw [if_pos (by rfl)]
              refine wp_make_OwnF (.tmp 26) (.tmp 26) rfl elI (n := n) (lo := W1.heap.size) rfl rfl (by omega) (by simp only [maxLen]; omega) hst.low.size ?_
              rintro ub Wm rfl hoS zS
              rw [made_zerosF] at hoS
              replace hst := hst.addU hoS zS
              clear hoS zS
              refine hK.out _ _ ?_ (fun hHeld => ?_)
              · first | (with_reducible exact KG.out _ hst.low) | exact KG.out _ (hst.low.alloc hst.low.size _)
              clear hK K
              try simp only [Act.put]
              refine wpAnyH_take (i := 8) (v := ?_) rfl (by kernel_rfl) (by kernel_rfl) (by kernel_rfl) (fun _ _ _ h => h) (Or.inl ⟨by rfl, ?_⟩) (by assumption) ?_
              rotate_left
              · intro w hSw
                try dsimp only at hSw
                obtain ⟨hs0_, hs1_⟩ := hSw
                go_simp
                try with_reducible rfl
              try simp only [Act.put]
              try simp only [putAll, markAll, dstAt, Act.put, List.getElem_toArray, List.getElem?_toArray, List.getElem_cons_zero, List.getElem_cons_succ, List.getElem?_cons_zero, List.getElem?_cons_succ, Option.bind_some, List.setIfInBounds_toArray, List.set_cons_zero, List.set_cons_succ]
              refine wpAnyH_ready (rs := [9]) (by kernel_rfl) (by simp) ?_
              refine AllReadyH.cons rfl (fun K hK => ?_) ?_
              · go_simp
                have hsz := hst.low.size
                have e0 := (hst.m _ rfl).1.lt
                have e1 := (hst.s _ rfl).blk_lt _ rfl
                have e2 := (hst.u _ rfl).blk_lt _ rfl
                refine hK.out _ _ ?_ (fun hHeld => ?_)
                · first | (with_reducible exact KG.out _ hst.low) | exact KG.out _ (hst.low.alloc hst.low.size _)
                clear hK K
                try simp only [Act.put, List.setIfInBounds_toArray, List.set_cons_zero, List.set_cons_succ]
                refine wpAnyH_take (i := 10) (v := ?_) rfl (by kernel_rfl) (by kernel_rfl) (by kernel_rfl) (fun _ _ _ h => h) (Or.inl ⟨by rfl, ?_⟩) (by assumption) ?_
                rotate_left
                · intro w hSw
                  try dsimp only at hSw
                  obtain ⟨hs0_, hs1_⟩ := hSw
                  go_simp
                  try with_reducible rfl
                try simp only [Act.put, List.setIfInBounds_toArray]
                refine wpAnyH_done (by kernel_rfl) ?_ _
                refine NoPanic.normal ?_
                go_wp2_with fail
                go_meet
                exact ⟨_, _, _, _, rfl, hsz, by omega, by omega, by omega, Blk.new _ _ _, hst.below ((Below.refl _ _).alloc (Nat.le_refl _) _)⟩
              exact AllReadyH.nil
            exact AllReadyH.nil
          refine AllReadyH.cons rfl (fun K hK => ?_) ?_
          · rw [if_pos (by rfl)]
            refine wp_make_OwnF (.tmp 26) (.tmp 26) rfl elI (n := n) (lo := W1.heap.size) rfl rfl (by omega) (by simp only [maxLen]; omega) hst.low.size ?_
            rintro ub Wm rfl hoS zS
            rw [made_zerosF] at hoS
            replace hst := hst.addU hoS zS
            clear hoS zS
            refine hK.out _ _ ?_ (fun hHeld => ?_)
            · first | (with_reducible exact KG.out _ hst.low) | exact KG.out _ (hst.low.alloc hst.low.size _)
            clear hK K
            try simp only [Act.put, List.setIfInBounds_toArray]
            try simp only [putAll, markAll, dstAt, Act.put, List.getElem_toArray, List.getElem?_toArray, List.getElem_cons_zero, List.getElem_cons_succ, List.getElem?_cons_zero, List.getElem?_cons_succ, Option.bind_some, List.setIfInBounds_toArray, List.set_cons_zero, List.set_cons_succ]
            refine wpAnyH_ready (rs := [3]) (by kernel_rfl) (by simp) ?_
            refine AllReadyH.cons rfl (fun K hK => ?_) ?_
            · rw [if_pos (by rfl)]
              refine wp_make_OwnF (.tmp 22) (.tmp 22) rfl elI (n := ns) (lo := W1.heap.size) rfl rfl (by omega) (by simp only [maxLen]; omega) hst.low.size ?_
              rintro ub Wm rfl hoS zS
              rw [made_zerosF] at hoS
              replace hst := hst.addS hoS zS
              clear hoS zS
              refine hK.out _ _ ?_ (fun hHeld => ?_)
              · first | (with_reducible exact KG.out _ hst.low) | exact KG.out _ (hst.low.alloc hst.low.size _)
              clear hK K
              try simp only [Act.put]
              refine wpAnyH_take (i := 8) (v := ?_) rfl (by kernel_rfl) (by kernel_rfl) (by kernel_rfl) (fun _ _ _ h => h) (Or.inl ⟨by rfl, ?_⟩) (by assumption) ?_
              rotate_left
              · intro w hSw
                try dsimp only at hSw
                obtain ⟨hs0_, hs1_⟩ := hSw
                go_simp
                try with_reducible rfl
              try simp only [Act.put]
              try simp only [putAll, markAll, dstAt, Act.put, List.getElem_toArray, List.getElem?_toArray, List.getElem_cons_zero, List.getElem_cons_succ, List.getElem?_cons_zero, List.getElem?_cons_succ, Option.bind_some, List.setIfInBounds_toArray, List.set_cons_zero, List.set_cons_succ]
              refine wpAnyH_ready (rs := [9]) (by kernel_rfl) (by simp) ?_
              refine AllReadyH.cons rfl (fun K hK => ?_) ?_
              · go_simp
                have hsz := hst.low.size
                have e0 := (hst.m _ rfl).1.lt
                have e1 := (hst.s _ rfl).blk_lt _ rfl
                have e2 := (hst.u _ rfl).blk_lt _ rfl
                refine hK.out _ _ ?_ (fun hHeld => ?_)
                · first | (with_reducible exact KG.out _ hst.low) | exact KG.out _ (hst.low.alloc hst.low.size _)
                clear hK K
                try simp only [Act.put, List.setIfInBounds_toArray, List.set_cons_zero, List.set_cons_succ]
                refine wpAnyH_take (i := 10) (v := ?_) rfl (by kernel_rfl) (by kernel_rfl) (by kernel_rfl) (fun _ _ _ h => h) (Or.inl ⟨by rfl, ?_⟩) (by assumption) ?_
                rotate_left
                · intro w hSw
                  try dsimp only at hSw
                  obtain ⟨hs0_, hs1_⟩ := hSw
                  go_simp
                  try with_reducible rfl
                try simp only [Act.put, List.setIfInBounds_toArray]
                refine wpAnyH_done (by kernel_rfl) ?_ _
                refine NoPanic.normal ?_
                go_wp2_with fail
                go_meet
                exact ⟨_, _, _, _, rfl, hsz, by omega, by omega, by omega, Blk.new _ _ _, hst.below ((Below.refl _ _).alloc (Nat.le_refl _) _)⟩
              exact AllReadyH.nil
            exact AllReadyH.nil
          exact AllReadyH.nil
        refine AllReadyH.cons rfl (fun K hK => ?_) ?_
        · rw [if_pos (by rfl)]
          refine wp_make_OwnF (.tmp 26) (.tmp 26) rfl elI (n := n) (lo := W1.heap.size) rfl rfl (by omega) (by simp only [maxLen]; omega) hst.low.size ?_
          rintro ub Wm rfl hoS zS
          rw [made_zerosF] at hoS
          replace hst := hst.addU hoS zS
          clear hoS zS
          refine hK.out _ _ ?_ (fun hHeld => ?_)
          · first | (with_reducible exact KG.out _ hst.low) | exact KG.out _ (hst.low.alloc hst.low.size _)
          clear hK K
          try simp only [Act.put, List.setIfInBounds_toArray]
          try simp only [putAll, markAll, dstAt, Act.put, List.getElem_toArray, List.getElem?_toArray, List.getElem_cons_zero, List.getElem_cons_succ, List.getElem?_cons_zero, List.getElem?_cons_succ, Option.bind_some, List.setIfInBounds_toArray, List.set_cons_zero, List.set_cons_succ]
          refine wpAnyH_ready (rs := [2]) (by kernel_rfl) (by simp) ?_
          refine AllReadyH.cons rfl (fun K hK => ?_) ?_
          · obtain ⟨hs0_, hs1_⟩ := hHeld
            go_simp
            refine hK.out _ _ ?_ (fun hHeld => ?_)
            · first | (with_reducible exact KG.out _ hst.low) | exact KG.out _ (hst.low.alloc hst.low.size _)
            clear hK K
            try simp only [Act.put, List.setIfInBounds_toArray, List.set_cons_zero, List.set_cons_succ]
            try simp only [putAll, markAll, dstAt, Act.put, List.getElem_toArray, List.getElem?_toArray, List.getElem_cons_zero, List.getElem_cons_succ, List.getElem?_cons_zero, List.getElem?_cons_succ, Option.bind_some, List.setIfInBounds_toArray, List.set_cons_zero, List.set_cons_succ]
            refine wpAnyH_ready (rs := [3]) (by kernel_rfl) (by simp) ?_
            refine AllReadyH.cons rfl (fun K hK => ?_) ?_
            · rw [if_pos (by rfl)]
              refine wp_make_OwnF (.tmp 22) (.tmp 22) rfl elI (n := ns) (lo := W1.heap.size) rfl rfl (by omega) (by simp only [maxLen]; omega) hst.low.size ?_
              rintro ub Wm rfl hoS zS
              rw [made_zerosF] at hoS
              replace hst := hst.addS hoS zS
              clear hoS zS
              refine hK.out _ _ ?_ (fun hHeld => ?_)
              · first | (with_reducible exact KG.out _ hst.low) | exact KG.out _ (hst.low.alloc hst.low.size _)
              clear hK K
              try simp only [Act.put, List.setIfInBounds_toArray]
              refine wpAnyH_take (i := 8) (v := ?_) rfl (by kernel_rfl) (by kernel_rfl) (by kernel_rfl) (fun _ _ _ h => h) (Or.inl ⟨by rfl, ?_⟩) (by assumption) ?_
              rotate_left
              · intro w hSw
                try dsimp only at hSw
                obtain ⟨hs0_, hs1_⟩ := hSw
                go_simp
                try with_reducible rfl
              try simp only [Act.put]
              try simp only [putAll, markAll, dstAt, Act.put, List.getElem_toArray, List.getElem?_toArray, List.getElem_cons_zero, List.getElem_cons_succ, List.getElem?_cons_zero, List.getElem?_cons_succ, Option.bind_some, List.setIfInBounds_toArray, List.set_cons_zero, List.set_cons_succ]
              refine wpAnyH_ready (rs := [9]) (by kernel_rfl) (by simp) ?_
              refine AllReadyH.cons rfl (fun K hK => ?_) ?_
              · go_simp
                have hsz := hst.low.size
                have e0 := (hst.m _ rfl).1.lt
                have e1 := (hst.s _ rfl).blk_lt _ rfl
                have e2 := (hst.u _ rfl).blk_lt _ rfl
                refine hK.out _ _ ?_ (fun hHeld => ?_)
                · first | (with_reducible exact KG.out _ hst.low) | exact KG.out _ (hst.low.alloc hst.low.size _)
                clear hK K
                try simp only [Act.put, List.setIfInBounds_toArray, List.set_cons_zero, List.set_cons_succ]
                refine wpAnyH_take (i := 10) (v := ?_) rfl (by kernel_rfl) (by kernel_rfl) (by kernel_rfl) (fun _ _ _ h => h) (Or.inl ⟨by rfl, ?_⟩) (by assumption) ?_
                rotate_left
                · intro w hSw
                  try dsimp only at hSw
                  obtain ⟨hs0_, hs1_⟩ := hSw
                  go_simp
                  try with_reducible rfl
                try simp only [Act.put, List.setIfInBounds_toArray]
                refine wpAnyH_done (by kernel_rfl) ?_ _
                refine NoPanic.normal ?_
                go_wp2_with fail
                go_meet
                exact ⟨_, _, _, _, rfl, hsz, by omega, by omega, by omega, Blk.new _ _ _, hst.below ((Below.refl _ _).alloc (Nat.le_refl _) _)⟩
              exact AllReadyH.nil
            exact AllReadyH.nil
          exact AllReadyH.nil
        exact AllReadyH.nil
      refine AllReadyH.cons rfl (fun K hK => ?_) ?_
      · obtain ⟨hs0_, hs1_⟩ := hHeld
        go_simp
        refine hK.out _ _ ?_ (fun hHeld => ?_)
        · first | (with_reducible exact KG.out _ hst.low) | exact KG.out _ (hst.low.alloc hst.low.size _)
        clear hK K
        try simp only [Act.put, List.setIfInBounds_toArray, List.set_cons_zero, List.set_cons_succ]
        try simp only [putAll, markAll, dstAt, Act.put, List.getElem_toArray, List.getElem?_toArray, List.getElem_cons_zero, List.getElem_cons_succ, List.getElem?_cons_zero, List.getElem?_cons_succ, Option.bind_some, List.setIfInBounds_toArray, List.set_cons_zero, List.set_cons_succ]
        refine wpAnyH_ready (rs := [0, 3, 7]) (by kernel_rfl) (by simp) ?_
        refine AllReadyH.cons rfl (fun K hK => ?_) ?_
        · go_simp
          replace hst := hst.addM
          generalize World.alloc _ (Obj.map #[] 0) = Wx at hst ⊢
          refine hK.out _ _ ?_ (fun hHeld => ?_)
          · first | (with_reducible exact KG.out _ hst.low) | exact KG.out _ (hst.low.alloc hst.low.size _)
          clear hK K
          try simp only [Act.put, List.setIfInBounds_toArray, List.set_cons_zero, List.set_cons_succ]
          try simp only [putAll, markAll, dstAt, Act.put, List.getElem_toArray, List.getElem?_toArray, List.getElem_cons_zero, List.getElem_cons_succ, List.getElem?_cons_zero, List.getElem?_cons_succ, Option.bind_some, List.setIfInBounds_toArray, List.set_cons_zero, List.set_cons_succ]
          refine wpAnyH_ready (rs := [3, 7]) (by kernel_rfl) (by simp) ?_
          refine AllReadyH.cons rfl (fun K hK => ?_) ?_
          · rw [if_pos (by rfl)]
            refine wp_make_OwnF (.tmp 22) (.tmp 22) rfl elI (n := ns) (lo := W1.heap.size) rfl rfl (by omega) (by simp only [maxLen]; omega) hst.low.size ?_
            rintro ub Wm rfl hoS zS
            rw [made_zerosF] at hoS
            replace hst := hst.addS hoS zS
            clear hoS zS
            refine hK.out _ _ ?_ (fun hHeld => ?_)
            · first | (with_reducible exact KG.out _ hst.low) | exact KG.out _ (hst.low.alloc hst.low.size _)
            clear hK K
            try simp only [Act.put, List.setIfInBounds_toArray]
            try simp only [putAll, markAll, dstAt, Act.put, List.getElem_toArray, List.getElem?_toArray, List.getElem_cons_zero, List.getElem_cons_succ, List.getElem?_cons_zero, List.getElem?_cons_succ, Option.bind_some, List.setIfInBounds_toArray, List.set_cons_zero, List.set_cons_succ]
            refine wpAnyH_ready (rs := [7]) (by kernel_rfl) (by simp) ?_
            refine AllReadyH.cons rfl (fun K hK => ?_) ?_
            · rw [if_pos (by rfl)]
              refine wp_make_OwnF (.tmp 26) (.tmp 26) rfl elI (n := n) (lo := W1.heap.size) rfl rfl (by omega) (by simp only [maxLen]; omega) hst.low.size ?_
              rintro ub Wm rfl hoS zS
              rw [made_zerosF] at hoS
              replace hst := hst.addU hoS zS
              clear hoS zS
              refine hK.out _ _ ?_ (fun hHeld => ?_)
              · first | (with_reducible exact KG.out _ hst.low) | exact KG.out _ (hst.low.alloc hst.low.size _)
              clear hK K
              try simp only [Act.put]
              refine wpAnyH_take (i := 8) (v := ?_) rfl (by kernel_rfl) (by kernel_rfl) (by kernel_rfl) (fun _ _ _ h => h) (Or.inl ⟨by rfl, ?_⟩) (by assumption) ?_
              rotate_left
              · intro w hSw
                try dsimp only at hSw
                obtain ⟨hs0_, hs1_⟩ := hSw
                go_simp
                try with_reducible rfl
              try simp only [Act.put]
              try simp only [putAll, markAll, dstAt, Act.put, List.getElem_toArray, List.getElem?_toArray, List.getElem_cons_zero, List.getElem_cons_succ, List.getElem?_cons_zero, List.getElem?_cons_succ, Option.bind_some, List.setIfInBounds_toArray, List.set_cons_zero, List.set_cons_succ]
              refine wpAnyH_ready (rs := [9]) (by kernel_rfl) (by simp) ?_
              refine AllReadyH.cons rfl (fun K hK => ?_) ?_
              · go_simp
                have hsz := hst.low.size
                have e0 := (hst.m _ rfl).1.lt
                have e1 := (hst.s _ rfl).blk_lt _ rfl
                have e2 := (hst.u _ rfl).blk_lt _ rfl
                refine hK.out _ _ ?_ (fun hHeld => ?_)
                · first | (with_reducible exact KG.out _ hst.low) | exact KG.out _ (hst.low.alloc hst.low.size _)
                clear hK K
                try simp only [Act.put, List.setIfInBounds_toArray, List.set_cons_zero, List.set_cons_succ]
                refine wpAnyH_take (i := 10) (v := ?_) rfl (by kernel_rfl) (by kernel_rfl) (by kernel_rfl) (fun _ _ _ h => h) (Or.inl ⟨by rfl, ?_⟩) (by assumption) ?_
                rotate_left
                · intro w hSw
                  try dsimp only at hSw
                  obtain ⟨hs0_, hs1_⟩ := hSw
                  go_simp
                  try with_reducible rfl
                try simp only [Act.put, List.setIfInBounds_toArray]
                refine wpAnyH_done (by kernel_rfl) ?_ _
                refine NoPanic.normal ?_
                go_wp2_with fail
                go_meet
                exact ⟨_, _, _, _, rfl, hsz, by omega, by omega, by omega, Blk.new _ _ _, hst.below ((Below.refl _ _).alloc (Nat.le_refl _) _)⟩
              exact AllReadyH.nil
            exact AllReadyH.nil
          refine AllReadyH.cons rfl (fun K hK => ?_) ?_
          · rw [if_pos (by rfl)]
            refine wp_make_OwnF (.tmp 26) (.tmp 26) rfl elI (n := n) (lo := W1.heap.size) rfl rfl (by omega) (by simp only [maxLen]; omega) hst.low.size ?_
            rintro ub Wm rfl hoS zS
            rw [made_zerosF] at hoS
            replace hst := hst.addU hoS zS
            clear hoS zS
            refine hK.out _ _ ?_ (fun hHeld => ?_)
            · first | (with_reducible exact KG.out _ hst.low) | exact KG.out _ (hst.low.alloc hst.low.size _)
            clear hK K
            try simp only [Act.put, List.setIfInBounds_toArray]
            try simp only [putAll, markAll, dstAt, Act.put, List.getElem_toArray, List.getElem?_toArray, List.getElem_cons_zero, List.getElem_cons_succ, List.getElem?_cons_zero, List.getElem?_cons_succ, Option.bind_some, List.setIfInBounds_toArray, List.set_cons_zero, List.set_cons_succ]
            refine wpAnyH_ready (rs := [3]) (by kernel_rfl) (by simp) ?_
            refine AllReadyH.cons rfl (fun K hK => ?_) ?_
            · rw [if_pos (by rfl)]
              refine wp_make_OwnF (.tmp 22) (.tmp 22) rfl elI (n := ns) (lo := W1.heap.size) rfl rfl (by omega) (by simp only [maxLen]; omega) hst.low.size ?_
              rintro ub Wm rfl hoS zS
              rw [made_zerosF] at hoS
              replace hst := hst.addS hoS zS
              clear hoS zS
              refine hK.out _ _ ?_ (fun hHeld => ?_)
              · first | (with_reducible exact KG.out _ hst.low) | exact KG.out _ (hst.low.alloc hst.low.size _)
              clear hK K
              try simp only [Act.put]
              refine wpAnyH_take (i := 8) (v := ?_) rfl (by kernel_rfl) (by kernel_rfl) (by kernel_rfl) (fun _ _ _ h => h) (Or.inl ⟨by rfl, ?_⟩) (by assumption) ?_
              rotate_left
              · intro w hSw
                try dsimp only at hSw
                obtain ⟨hs0_, hs1_⟩ := hSw
                go_simp
                try with_reducible rfl
              try simp only [Act.put]
              try simp only [putAll, markAll, dstAt, Act.put, List.getElem_toArray, List.getElem?_toArray, List.getElem_cons_zero, List.getElem_cons_succ, List.getElem?_cons_zero, List.getElem?_cons_succ, Option.bind_some, List.setIfInBounds_toArray, List.set_cons_zero, List.set_cons_succ]
              refine wpAnyH_ready (rs := [9]) (by kernel_rfl) (by simp) ?_
              refine AllReadyH.cons rfl (fun K hK => ?_) ?_
              · go_simp
                have hsz := hst.low.size
                have e0 := (hst.m _ rfl).1.lt
                have e1 := (hst.s _ rfl).blk_lt _ rfl
                have e2 := (hst.u _ rfl).blk_lt _ rfl
                refine hK.out _ _ ?_ (fun hHeld => ?_)
                · first | (with_reducible exact KG.out _ hst.low) | exact KG.out _ (hst.low.alloc hst.low.size _)
                clear hK K
                try simp only [Act.put, List.setIfInBounds_toArray, List.set_cons_zero, List.set_cons_succ]
                refine wpAnyH_take (i := 10) (v := ?_) rfl (by kernel_rfl) (by kernel_rfl) (by kernel_rfl) (fun _ _ _ h => h) (Or.inl ⟨by rfl, ?_⟩) (by assumption) ?_
                rotate_left
                · intro w hSw
                  try dsimp only at hSw
                  obtain ⟨hs0_, hs1_⟩ := hSw
                  go_simp
                  try with_reducible rfl
                try simp only [Act.put, List.setIfInBounds_toArray]
                refine wpAnyH_done (by kernel_rfl) ?_ _
                refine NoPanic.normal ?_
                go_wp2_with fail
                go_meet
                exact ⟨_, _, _, _, rfl, hsz, by omega, by omega, by omega, Blk.new _ _ _, hst.below ((Below.refl _ _).alloc (Nat.le_refl _) _)⟩
              exact AllReadyH.nil
            exact AllReadyH.nil
          exact AllReadyH.nil
        refine AllReadyH.cons rfl (fun K hK => ?_) ?_
        · rw [if_pos (by rfl)]
          refine wp_make_OwnF (.tmp 22) (.tmp 22) rfl elI (n := ns) (lo := W1.heap.size) rfl rfl (by omega) (by simp only [maxLen]; omega) hst.low.size ?_
          rintro ub Wm rfl hoS zS
          rw [made_zerosF] at hoS
          replace hst := hst.addS hoS zS
          clear hoS zS
          refine hK.out _ _ ?_ (fun hHeld => ?_)
          · first | (with_reducible exact KG.out _ hst.low) | exact KG.out _ (hst.low.alloc hst.low.size _)
          clear hK K
          try simp only [Act.put, List.setIfInBounds_toArray]
          try simp only [putAll, markAll, dstAt, Act.put, List.getElem_toArray, List.getElem?_toArray, List.getElem_cons_zero, List.getElem_cons_succ, List.getElem?_cons_zero, List.getElem?_cons_succ, Option.bind_some, List.setIfInBounds_toArray, List.set_cons_zero, List.set_cons_succ]
          refine wpAnyH_ready (rs := [0, 7]) (by kernel_rfl) (by simp) ?_
          refine AllReadyH.cons rfl (fun K hK => ?_) ?_
          · go_simp
            replace hst := hst.addM
            generalize World.alloc _ (Obj.map #[] 0) = Wx at hst ⊢
            refine hK.out _ _ ?_ (fun hHeld => ?_)
            · first | (with_reducible exact KG.out _ hst.low) | exact KG.out _ (hst.low.alloc hst.low.size _)
            clear hK K
            try simp only [Act.put, List.setIfInBounds_toArray, List.set_cons_zero, List.set_cons_succ]
            try simp only [putAll, markAll, dstAt, Act.put, List.getElem_toArray, List.getElem?_toArray, List.getElem_cons_zero, List.getElem_cons_succ, List.getElem?_cons_zero, List.getElem?_cons_succ, Option.bind_some, List.setIfInBounds_toArray, List.set_cons_zero, List.set_cons_succ]
            refine wpAnyH_ready (rs := [7]) (by kernel_rfl) (by simp) ?_
            refine AllReadyH.cons rfl (fun K hK => ?_) ?_
            · rw [if_pos (by rfl)]
              refine wp_make_OwnF (.tmp 26) (.tmp 26) rfl elI (n := n) (lo := W1.heap.size) rfl rfl (by omega) (by simp only [maxLen]; omega) hst.low.size ?_
              rintro ub Wm rfl hoS zS
              rw [made_zerosF] at hoS
              replace hst := hst.addU hoS zS
              clear hoS zS
              refine hK.out _ _ ?_ (fun hHeld => ?_)
              · first | (with_reducible exact KG.out _ hst.low) | exact KG.out _ (hst.low.alloc hst.low.size _)
              clear hK K
              try simp only [Act.put, List.setIfInBounds_toArray]
              refine wpAnyH_take (i := 8) (v := ?_) rfl (by kernel_rfl) (by kernel_rfl) (by kernel_rfl) (fun _ _ _ h => h) (Or.inl ⟨by rfl, ?_⟩) (by assumption) ?_
              rotate_left
              · intro w hSw
                try dsimp only at hSw
                obtain ⟨hs0_, hs1_⟩ := hSw
                go_simp
                try with_reducible rfl
              try simp only [Act.put]
              try simp only [putAll, markAll, dstAt, Act.put, List.getElem_toArray, List.getElem?_toArray, List.getElem_cons_zero, List.getElem_cons_succ, List.getElem?_cons_zero, List.getElem?_cons_succ, Option.bind_some, List.setIfInBounds_toArray, List.set_cons_zero, List.set_cons_succ]
              refine wpAnyH_ready (rs := [9]) (by kernel_rfl) (by simp) ?_
              refine AllReadyH.cons rfl (fun K hK => ?_) ?_
              · go_simp
                have hsz := hst.low.size
                have e0 := (hst.m _ rfl).1.lt
                have e1 := (hst.s _ rfl).blk_lt _ rfl
                have e2 := (hst.u _ rfl).blk_lt _ rfl
                refine hK.out _ _ ?_ (fun hHeld => ?_)
                · first | (with_reducible exact KG.out _ hst.low) | exact KG.out _ (hst.low.alloc hst.low.size _)
                clear hK K
                try simp only [Act.put, List.setIfInBounds_toArray, List.set_cons_zero, List.set_cons_succ]
                refine wpAnyH_take (i := 10) (v := ?_) rfl (by kernel_rfl) (by kernel_rfl) (by kernel_rfl) (fun _ _ _ h => h) (Or.inl ⟨by rfl, ?_⟩) (by assumption) ?_
                rotate_left
                · intro w hSw
                  try dsimp only at hSw
                  obtain ⟨hs0_, hs1_⟩ := hSw
                  go_simp
                  try with_reducible rfl
                try simp only [Act.put, List.setIfInBounds_toArray]
                refine wpAnyH_done (by kernel_rfl) ?_ _
                refine NoPanic.normal ?_
                go_wp2_with fail
                go_meet
                exact ⟨_, _, _, _, rfl, hsz, by omega, by omega, by omega, Blk.new _ _ _, hst.below ((Below.refl _ _).alloc (Nat.le_refl _) _)⟩
              exact AllReadyH.nil
            exact AllReadyH.nil
          refine AllReadyH.cons rfl (fun K hK => ?_) ?_
          · rw [if_pos (by rfl)]
            refine wp_make_OwnF (.tmp 26) (.tmp 26) rfl elI (n := n) (lo := W1.heap.size) rfl rfl (by omega) (by simp only [maxLen]; omega) hst.low.size ?_
            rintro ub Wm rfl hoS zS
            rw [made_zerosF] at hoS
            replace hst := hst.addU hoS zS
            clear hoS zS
            refine hK.out _ _ ?_ (fun hHeld => ?_)
            · first | (with_reducible exact KG.out _ hst.low) | exact KG.out _ (hst.low.alloc hst.low.size _)
            clear hK K
            try simp only [Act.put]
            try simp only [putAll, markAll, dstAt, Act.put, List.getElem_toArray, List.getElem?_toArray, List.getElem_cons_zero, List.getElem_cons_succ, List.getElem?_cons_zero, List.getElem?_cons_succ, Option.bind_some, List.setIfInBounds_toArray, List.set_cons_zero, List.set_cons_succ]
            refine wpAnyH_ready (rs := [0]) (by kernel_rfl) (by simp) ?_
            refine AllReadyH.cons rfl (fun K hK => ?_) ?_
            · go_simp
              replace hst := hst.addM
              generalize World.alloc _ (Obj.map #[] 0) = Wx at hst ⊢
              refine hK.out _ _ ?_ (fun hHeld => ?_)
              · first | (with_reducible exact KG.out _ hst.low) | exact KG.out _ (hst.low.alloc hst.low.size _)
              clear hK K
              try simp only [Act.put, List.setIfInBounds_toArray, List.set_cons_zero, List.set_cons_succ]
              refine wpAnyH_take (i := 8) (v := ?_) rfl (by kernel_rfl) (by kernel_rfl) (by kernel_rfl) (fun _ _ _ h => h) (Or.inl ⟨by rfl, ?_⟩) (by assumption) ?_
              rotate_left
              · intro w hSw
                try dsimp only at hSw
                obtain ⟨hs0_, hs1_⟩ := hSw
                go_simp
                try with_reducible rfl
              try simp only [Act.put, List.setIfInBounds_toArray]
              try simp only [putAll, markAll, dstAt, Act.put, List.getElem_toArray, List.getElem?_toArray, List.getElem_cons_zero, List.getElem_cons_succ, List.getElem?_cons_zero, List.getElem?_cons_succ, Option.bind_some, List.setIfInBounds_toArray, List.set_cons_zero, List.set_cons_succ]
              refine wpAnyH_ready (rs := [9]) (by kernel_rfl) (by simp) ?_
              refine AllReadyH.cons rfl (fun K hK => ?_) ?_
              · go_simp
                have hsz := hst.low.size
                have e0 := (hst.m _ rfl).1.lt
                have e1 := (hst.s _ rfl).blk_lt _ rfl
                have e2 := (hst.u _ rfl).blk_lt _ rfl
                refine hK.out _ _ ?_ (fun hHeld => ?_)
                · first | (with_reducible exact KG.out _ hst.low) | exact KG.out _ (hst.low.alloc hst.low.size _)
                clear hK K
                try simp only [Act.put, List.setIfInBounds_toArray, List.set_cons_zero, List.set_cons_succ]
                refine wpAnyH_take (i := 10) (v := ?_) rfl (by kernel_rfl) (by kernel_rfl) (by kernel_rfl) (fun _ _ _ h => h) (Or.inl ⟨by rfl, ?_⟩) (by assumption) ?_
                rotate_left
                · intro w hSw
                  try dsimp only at hSw
                  obtain ⟨hs0_, hs1_⟩ := hSw
                  go_simp
                  try with_reducible rfl
                try simp only [Act.put, List.setIfInBounds_toArray]
                refine wpAnyH_done (by kernel_rfl) ?_ _
                refine NoPanic.normal ?_
                go_wp2_with fail
                go_meet
                exact ⟨_, _, _, _, rfl, hsz, by omega, by omega, by omega, Blk.new _ _ _, hst.below ((Below.refl _ _).alloc (Nat.le_refl _) _)⟩
              exact AllReadyH.nil
            exact AllReadyH.nil
          exact AllReadyH.nil
        refine AllReadyH.cons rfl (fun K hK => ?_) ?_
        · rw [if_pos (by rfl)]
          refine wp_make_OwnF (.tmp 26) (.tmp 26) rfl elI (n := n) (lo := W1.heap.size) rfl rfl (by omega) (by simp only [maxLen]; omega) hst.low.size ?_
          rintro ub Wm rfl hoS zS
          rw [made_zerosF] at hoS
          replace hst := hst.addU hoS zS
          clear hoS zS
          refine hK.out _ _ ?_ (fun hHeld => ?_)
          · first | (with_reducible exact KG.out _ hst.low) | exact KG.out _ (hst.low.alloc hst.low.size _)
          clear hK K
          try simp only [Act.put, List.setIfInBounds_toArray]
          try simp only [putAll, markAll, dstAt, Act.put, List.getElem_toArray, List.getElem?_toArray, List.getElem_cons_zero, List.getElem_cons_succ, List.getElem?_cons_zero, List.getElem?_cons_succ, Option.bind_some, List.setIfInBounds_toArray, List.set_cons_zero, List.set_cons_succ]
          refine wpAnyH_ready (rs := [0, 3]) (by kernel_rfl) (by simp) ?_
          refine AllReadyH.cons rfl (fun K hK => ?_) ?_
          · go_simp
            replace hst := hst.addM
            generalize World.alloc _ (Obj.map #[] 0) = Wx at hst ⊢
            refine hK.out _ _ ?_ (fun hHeld => ?_)
            · first | (with_reducible exact KG.out _ hst.low) | exact KG.out _ (hst.low.alloc hst.low.size _)
            clear hK K
            try simp only [Act.put, List.setIfInBounds_toArray, List.set_cons_zero, List.set_cons_succ]
            try simp only [putAll, markAll, dstAt, Act.put, List.getElem_toArray, List.getElem?_toArray, List.getElem_cons_zero, List.getElem_cons_succ, List.getElem?_cons_zero, List.getElem?_cons_succ, Option.bind_some, List.setIfInBounds_toArray, List.set_cons_zero, List.set_cons_succ]
            refine wpAnyH_ready (rs := [3]) (by kernel_rfl) (by simp) ?_
            refine AllReadyH.cons rfl (fun K hK => ?_) ?_
            · rw [if_pos (by rfl)]
              refine wp_make_OwnF (.tmp 22) (.tmp 22) rfl elI (n := ns) (lo := W1.heap.size) rfl rfl (by omega) (by simp only [maxLen]; omega) hst.low.size ?_
              rintro ub Wm rfl hoS zS
              rw [made_zerosF] at hoS
              replace hst := hst.addS hoS zS
              clear hoS zS
              refine hK.out _ _ ?_ (fun hHeld => ?_)
              · first | (with_reducible exact KG.out _ hst.low) | exact KG.out _ (hst.low.alloc hst.low.size _)
              clear hK K
              try simp only [Act.put, List.setIfInBounds_toArray]
              refine wpAnyH_take (i := 8) (v := ?_) rfl (by kernel_rfl) (by kernel_rfl) (by kernel_rfl) (fun _ _ _ h => h) (Or.inl ⟨by rfl, ?_⟩) (by assumption) ?_
              rotate_left
              · intro w hSw
                try dsimp only at hSw
                obtain ⟨hs0_, hs1_⟩ := hSw
                go_simp
                try with_reducible rfl
              try simp only [Act.put]
              try simp only [putAll, markAll, dstAt, Act.put, List.getElem_toArray, List.getElem?_toArray, List.getElem_cons_zero, List.getElem_cons_succ, List.getElem?_cons_zero, List.getElem?_cons_succ, Option.bind_some, List.setIfInBounds_toArray, List.set_cons_zero, List.set_cons_succ]
              refine wpAnyH_ready (rs := [9]) (by kernel_rfl) (by simp) ?_
              refine AllReadyH.cons rfl (fun K hK => ?_) ?_
              · go_simp
                have hsz := hst.low.size
                have e0 := (hst.m _ rfl).1.lt
                have e1 := (hst.s _ rfl).blk_lt _ rfl
                have e2 := (hst.u _ rfl).blk_lt _ rfl
                refine hK.out _ _ ?_ (fun hHeld => ?_)
                · first | (with_reducible exact KG.out _ hst.low) | exact KG.out _ (hst.low.alloc hst.low.size _)
                clear hK K
                try simp only [Act.put, List.setIfInBounds_toArray, List.set_cons_zero, List.set_cons_succ]
                refine wpAnyH_take (i := 10) (v := ?_) rfl (by kernel_rfl) (by kernel_rfl) (by kernel_rfl) (fun _ _ _ h => h) (Or.inl ⟨by rfl, ?_⟩) (by assumption) ?_
                rotate_left
                · intro w hSw
                  try dsimp only at hSw
                  obtain ⟨hs0_, hs1_⟩ := hSw
                  go_simp
                  try with_reducible rfl
                try simp only [Act.put, List.setIfInBounds_toArray]
                refine wpAnyH_done (by kernel_rfl) ?_ _
                refine NoPanic.normal ?_
                go_wp2_with fail
                go_meet
                exact ⟨_, _, _, _, rfl, hsz, by omega, by omega, by omega, Blk.new _ _ _, hst.below ((Below.refl _ _).alloc (Nat.le_refl _) _)⟩
              exact AllReadyH.nil
            exact AllReadyH.nil
          refine AllReadyH.cons rfl (fun K hK => ?_) ?_
          · rw [if_pos (by rfl)]
            refine wp_make_OwnF (.tmp 22) (.tmp 22) rfl elI (n := ns) (lo := W1.heap.size) rfl rfl (by omega) (by simp only [maxLen]; omega) hst.low.size ?_
            rintro ub Wm rfl hoS zS
            rw [made_zerosF] at hoS
            replace hst := hst.addS hoS zS
            clear hoS zS
            refine hK.out _ _ ?_ (fun hHeld => ?_)
            · first | (with_reducible exact KG.out _ hst.low) | exact KG.out _ (hst.low.alloc hst.low.size _)
            clear hK K
            try simp only [Act.put]
            try simp only [putAll, markAll, dstAt, Act.put, List.getElem_toArray, List.getElem?_toArray, List.getElem_cons_zero, List.getElem_cons_succ, List.getElem?_cons_zero, List.getElem?_cons_succ, Option.bind_some, List.setIfInBounds_toArray, List.set_cons_zero, List.set_cons_succ]
            refine wpAnyH_ready (rs := [0]) (by kernel_rfl) (by simp) ?_
            refine AllReadyH.cons rfl (fun K hK => ?_) ?_
            · go_simp
              replace hst := hst.addM
              generalize World.alloc _ (Obj.map #[] 0) = Wx at hst ⊢
              refine hK.out _ _ ?_ (fun hHeld => ?_)
              · first | (with_reducible exact KG.out _ hst.low) | exact KG.out _ (hst.low.alloc hst.low.size _)
              clear hK K
              try simp only [Act.put, List.setIfInBounds_toArray, List.set_cons_zero, List.set_cons_succ]
              refine wpAnyH_take (i := 8) (v := ?_) rfl (by kernel_rfl) (by kernel_rfl) (by kernel_rfl) (fun _ _ _ h => h) (Or.inl ⟨by rfl, ?_⟩) (by assumption) ?_
              rotate_left
              · intro w hSw
                try dsimp only at hSw
                obtain ⟨hs0_, hs1_⟩ := hSw
                go_simp
                try with_reducible rfl
              try simp only [Act.put, List.setIfInBounds_toArray]
              try simp only [putAll, markAll, dstAt, Act.put, List.getElem_toArray, List.getElem?_toArray, List.getElem_cons_zero, List.getElem_cons_succ, List.getElem?_cons_zero, List.getElem?_cons_succ, Option.bind_some, List.setIfInBounds_toArray, List.set_cons_zero, List.set_cons_succ]
              refine wpAnyH_ready (rs := [9]) (by kernel_rfl) (by simp) ?_
              refine AllReadyH.cons rfl (fun K hK => ?_) ?_
              · go_simp
                have hsz := hst.low.size
                have e0 := (hst.m _ rfl).1.lt
                have e1 := (hst.s _ rfl).blk_lt _ rfl
                have e2 := (hst.u _ rfl).blk_lt _ rfl
                refine hK.out _ _ ?_ (fun hHeld => ?_)
                · first | (with_reducible exact KG.out _ hst.low) | exact KG.out _ (hst.low.alloc hst.low.size _)
                clear hK K
                try simp only [Act.put, List.setIfInBounds_toArray, List.set_cons_zero, List.set_cons_succ]
                refine wpAnyH_take (i := 10) (v := ?_) rfl (by kernel_rfl) (by kernel_rfl) (by kernel_rfl) (fun _ _ _ h => h) (Or.inl ⟨by rfl, ?_⟩) (by assumption) ?_
                rotate_left
                · intro w hSw
                  try dsimp only at hSw
                  obtain ⟨hs0_, hs1_⟩ := hSw
                  go_simp
                  try with_reducible rfl
                try simp only [Act.put, List.setIfInBounds_toArray]
                refine wpAnyH_done (by kernel_rfl) ?_ _
                refine NoPanic.normal ?_
                go_wp2_with fail
                go_meet
                exact ⟨_, _, _, _, rfl, hsz, by omega, by omega, by omega, Blk.new _ _ _, hst.below ((Below.refl _ _).alloc (Nat.le_refl _) _)⟩
              exact AllReadyH.nil
            exact AllReadyH.nil
          exact AllReadyH.nil
        exact AllReadyH.nil
      refine AllReadyH.cons rfl (fun K hK => ?_) ?_
      · rw [if_pos (by rfl)]
        refine wp_make_OwnF (.tmp 26) (.tmp 26) rfl elI (n := n) (lo := W1.heap.size) rfl rfl (by omega) (by simp only [maxLen]; omega) hst.low.size ?_
        rintro ub Wm rfl hoS zS
        rw [made_zerosF] at hoS
        replace hst := hst.addU hoS zS
        clear hoS zS
        refine hK.out _ _ ?_ (fun hHeld => ?_)
        · first | (with_reducible exact KG.out _ hst.low) | exact KG.out _ (hst.low.alloc hst.low.size _)
        clear hK K
        try simp only [Act.put, List.setIfInBounds_toArray]
        try simp only [putAll, markAll, dstAt, Act.put, List.getElem_toArray, List.getElem?_toArray, List.getElem_cons_zero, List.getElem_cons_succ, List.getElem?_cons_zero, List.getElem?_cons_succ, Option.bind_some, List.setIfInBounds_toArray, List.set_cons_zero, List.set_cons_succ]
        refine wpAnyH_ready (rs := [0, 2]) (by kernel_rfl) (by simp) ?_
        refine AllReadyH.cons rfl (fun K hK => ?_) ?_
        · go_simp
          replace hst := hst.addM
          generalize World.alloc _ (Obj.map #[] 0) = Wx at hst ⊢
          refine hK.out _ _ ?_ (fun hHeld => ?_)
          · first | (with_reducible exact KG.out _ hst.low) | exact KG.out _ (hst.low.alloc hst.low.size _)
          clear hK K
          try simp only [Act.put, List.setIfInBounds_toArray, List.set_cons_zero, List.set_cons_succ]
          try simp only [putAll, markAll, dstAt, Act.put, List.getElem_toArray, List.getElem?_toArray, List.getElem_cons_zero, List.getElem_cons_succ, List.getElem?_cons_zero, List.getElem?_cons_succ, Option.bind_some, List.setIfInBounds_toArray, List.set_cons_zero, List.set_cons_succ]
          refine wpAnyH_ready (rs := [2]) (by kernel_rfl) (by simp) ?_
          refine AllReadyH.cons rfl (fun K hK => ?_) ?_
          · obtain ⟨hs0_, hs1_⟩ := hHeld
            go_simp
            refine hK.out _ _ ?_ (fun hHeld => ?_)
            · first | (with_reducible exact KG.out _ hst.low) | exact KG.out _ (hst.low.alloc hst.low.size _)
            clear hK K
            try simp only [Act.put, List.setIfInBounds_toArray, List.set_cons_zero, List.set_cons_succ]
            try simp only [putAll, markAll, dstAt, Act.put, List.getElem_toArray, List.getElem?_toArray, List.getElem_cons_zero, List.getElem_cons_succ, List.getElem?_cons_zero, List.getElem?_cons_succ, Option.bind_some, List.setIfInBounds_toArray, List.set_cons_zero, List.set_cons_succ]
            refine wpAnyH_ready (rs := [3]) (by kernel_rfl) (by simp) ?_
            refine AllReadyH.cons rfl (fun K hK => ?_) ?_
            · rw [if_pos (by rfl)]
              refine wp_make_OwnF (.tmp 22) (.tmp 22) rfl elI (n := ns) (lo := W1.heap.size) rfl rfl (by omega) (by simp only [maxLen]; omega) hst.low.size ?_
              rintro ub Wm rfl hoS zS
              rw [made_zerosF] at hoS
              replace hst := hst.addS hoS zS
              clear hoS zS
              refine hK.out _ _ ?_ (fun hHeld => ?_)
              · first | (with_reducible exact KG.out _ hst.low) | exact KG.out _ (hst.low.alloc hst.low.size _)
              clear hK K
              try simp only [Act.put, List.setIfInBounds_toArray]
              refine wpAnyH_take (i := 8) (v := ?_) rfl (by kernel_rfl) (by kernel_rfl) (by kernel_rfl) (fun _ _ _ h => h) (Or.inl ⟨by rfl, ?_⟩) (by assumption) ?_
              rotate_left
              · intro w hSw
                try dsimp only at hSw
                obtain ⟨hs0_, hs1_⟩ := hSw
                go_simp
                try with_reducible rfl
              try simp only [Act.put]
              try simp only [putAll, markAll, dstAt, Act.put, List.getElem_toArray, List.getElem?_toArray, List.getElem_cons_zero, List.getElem_cons_succ, List.getElem?_cons_zero, List.getElem?_cons_succ, Option.bind_some, List.setIfInBounds_toArray, List.set_cons_zero, List.set_cons_succ]
              refine wpAnyH_ready (rs := [9]) (by kernel_rfl) (by simp) ?_
              refine AllReadyH.cons rfl (fun K hK => ?_) ?_
              · go_simp
                have hsz := hst.low.size
                have e0 := (hst.m _ rfl).1.lt
                have e1 := (hst.s _ rfl).blk_lt _ rfl
                have e2 := (hst.u _ rfl).blk_lt _ rfl
                refine hK.out _ _ ?_ (fun hHeld => ?_)
                · first | (with_reducible exact KG.out _ hst.low) | exact KG.out _ (hst.low.alloc hst.low.size _)
                clear hK K
                try simp only [Act.put, List.setIfInBounds_toArray, List.set_cons_zero, List.set_cons_succ]
                refine wpAnyH_take (i := 10) (v := ?_) rfl (by kernel_rfl) (by kernel_rfl) (by kernel_rfl) (fun _ _ _ h => h) (Or.inl ⟨by rfl, ?_⟩) (by assumption) ?_
                rotate_left
                · intro w hSw
                  try dsimp only at hSw
                  obtain ⟨hs0_, hs1_⟩ := hSw
                  go_simp
                  try with_reducible rfl
                try simp only [Act.put, List.setIfInBounds_toArray]
                refine wpAnyH_done (by kernel_rfl) ?_ _
                refine NoPanic.normal ?_
                go_wp2_with fail
                go_meet
                exact ⟨_, _, _, _, rfl, hsz, by omega, by omega, by omega, Blk.new _ _ _, hst.below ((Below.refl _ _).alloc (Nat.le_refl _) _)⟩
              exact AllReadyH.nil
            exact AllReadyH.nil
          exact AllReadyH.nil
        refine AllReadyH.cons rfl (fun K hK => ?_) ?_
        · obtain ⟨hs0_, hs1_⟩ := hHeld
          go_simp
          refine hK.out _ _ ?_ (fun hHeld => ?_)
          · first | (with_reducible exact KG.out _ hst.low) | exact KG.out _ (hst.low.alloc hst.low.size _)
          clear hK K
          try simp only [Act.put, List.setIfInBounds_toArray, List.set_cons_zero, List.set_cons_succ]
          try simp only [putAll, markAll, dstAt, Act.put, List.getElem_toArray, List.getElem?_toArray, List.getElem_cons_zero, List.getElem_cons_succ, List.getElem?_cons_zero, List.getElem?_cons_succ, Option.bind_some, List.setIfInBounds_toArray, List.set_cons_zero, List.set_cons_succ]
          refine wpAnyH_ready (rs := [0, 3]) (by kernel_rfl) (by simp) ?_
          refine AllReadyH.cons rfl (fun K hK => ?_) ?_
          · go_simp
            replace hst := hst.addM
            generalize World.alloc _ (Obj.map #[] 0) = Wx at hst ⊢
            refine hK.out _ _ ?_ (fun hHeld => ?_)
            · first | (with_reducible exact KG.out _ hst.low) | exact KG.out _ (hst.low.alloc hst.low.size _)
            clear hK K
            try simp only [Act.put, List.setIfInBounds_toArray, List.set_cons_zero, List.set_cons_succ]
            try simp only [putAll, markAll, dstAt, Act.put, List.getElem_toArray, List.getElem?_toArray, List.getElem_cons_zero, List.getElem_cons_succ, List.getElem?_cons_zero, List.getElem?_cons_succ, Option.bind_some, List.setIfInBounds_toArray, List.set_cons_zero, List.set_cons_succ]
            refine wpAnyH_ready (rs := [3]) (by kernel_rfl) (by simp) ?_
            refine AllReadyH.cons rfl (fun K hK => ?_) ?_
            · rw [if_pos (by rfl)]
              refine wp_make_OwnF (.tmp 22) (.tmp 22) rfl elI (n := ns) (lo := W1.heap.size) rfl rfl (by omega) (by simp only [maxLen]; omega) hst.low.size ?_
              rintro ub Wm rfl hoS zS
              rw [made_zerosF] at hoS
              replace hst := hst.addS hoS zS
              clear hoS zS
              refine hK.out _ _ ?_ (fun hHeld => ?_)
              · first | (with_reducible exact KG.out _ hst.low) | exact KG.out _ (hst.low.alloc hst.low.size _)
              clear hK K
              try simp only [Act.put, List.setIfInBounds_toArray]
              refine wpAnyH_take (i := 8) (v := ?_) rfl (by kernel_rfl) (by kernel_rfl) (by kernel_rfl) (fun _ _ _ h => h) (Or.inl ⟨by rfl, ?_⟩) (by assumption) ?_
              rotate_left
              · intro w hSw
                try dsimp only at hSw
                obtain ⟨hs0_, hs1_⟩ := hSw
                go_simp
                try with_reducible rfl
              try simp only [Act.put]
              try simp only [putAll, markAll, dstAt, Act.put, List.getElem_toArray, List.getElem?_toArray, List.getElem_cons_zero, List.getElem_cons_succ, List.getElem?_cons_zero, List.getElem?_cons_succ, Option.bind_some, List.setIfInBounds_toArray, List.set_cons_zero, List.set_cons_succ]
              refine wpAnyH_ready (rs := [9]) (by kernel_rfl) (by simp) ?_
              refine AllReadyH.cons rfl (fun K hK => ?_) ?_
              · go_simp
                have hsz := hst.low.size
                have e0 := (hst.m _ rfl).1.lt
                have e1 := (hst.s _ rfl).blk_lt _ rfl
                have e2 := (hst.u _ rfl).blk_lt _ rfl
                refine hK.out _ _ ?_ (fun hHeld => ?_)
                · first | (with_reducible exact KG.out _ hst.low) | exact KG.out _ (hst.low.alloc hst.low.size _)
                clear hK K
                try simp only [Act.put, List.setIfInBounds_toArray, List.set_cons_zero, List.set_cons_succ]
                refine wpAnyH_take (i := 10) (v := ?_) rfl (by kernel_rfl) (by kernel_rfl) (by kernel_rfl) (fun _ _ _ h => h) (Or.inl ⟨by rfl, ?_⟩) (by assumption) ?_
                rotate_left
                · intro w hSw
                  try dsimp only at hSw
                  obtain ⟨hs0_, hs1_⟩ := hSw
                  go_simp
                  try with_reducible rfl
                try simp only [Act.put, List.setIfInBounds_toArray]
                refine wpAnyH_done (by kernel_rfl) ?_ _
                refine NoPanic.normal ?_
                go_wp2_with fail
                go_meet
                exact ⟨_, _, _, _, rfl, hsz, by omega, by omega, by omega, Blk.new _ _ _, hst.below ((Below.refl _ _).alloc (Nat.le_refl _) _)⟩
              exact AllReadyH.nil
            exact AllReadyH.nil
          refine AllReadyH.cons rfl (fun K hK => ?_) ?_
          · rw [if_pos (by rfl)]
            refine wp_make_OwnF (.tmp 22) (.tmp 22) rfl elI (n := ns) (lo := W1.heap.size) rfl rfl (by omega) (by simp only [maxLen]; omega) hst.low.size ?_
            rintro ub Wm rfl hoS zS
            rw [made_zerosF] at hoS
            replace hst := hst.addS hoS zS
            clear hoS zS
            refine hK.out _ _ ?_ (fun hHeld => ?_)
            · first | (with_reducible exact KG.out _ hst.low) | exact KG.out _ (hst.low.alloc hst.low.size _)
            clear hK K
            try simp only [Act.put, List.setIfInBounds_toArray]
            try simp only [putAll, markAll, dstAt, Act.put, List.getElem_toArray, List.getElem?_toArray, List.getElem_cons_zero, List.getElem_cons_succ, List.getElem?_cons_zero, List.getElem?_cons_succ, Option.bind_some, List.setIfInBounds_toArray, List.set_cons_zero, List.set_cons_succ]
            refine wpAnyH_ready (rs := [0]) (by kernel_rfl) (by simp) ?_
            refine AllReadyH.cons rfl (fun K hK => ?_) ?_
            · go_simp
              replace hst := hst.addM
              generalize World.alloc _ (Obj.map #[] 0) = Wx at hst ⊢
              refine hK.out _ _ ?_ (fun hHeld => ?_)
              · first | (with_reducible exact KG.out _ hst.low) | exact KG.out _ (hst.low.alloc hst.low.size _)
              clear hK K
              try simp only [Act.put, List.setIfInBounds_toArray, List.set_cons_zero, List.set_cons_succ]
              refine wpAnyH_take (i := 8) (v := ?_) rfl (by kernel_rfl) (by kernel_rfl) (by kernel_rfl) (fun _ _ _ h => h) (Or.inl ⟨by rfl, ?_⟩) (by assumption) ?_
              rotate_left
              · intro w hSw
                try dsimp only at hSw
                obtain ⟨hs0_, hs1_⟩ := hSw
                go_simp
                try with_reducible rfl
              try simp only [Act.put, List.setIfInBounds_toArray]
              try simp only [putAll, markAll, dstAt, Act.put, List.getElem_toArray, List.getElem?_toArray, List.getElem_cons_zero, List.getElem_cons_succ, List.getElem?_cons_zero, List.getElem?_cons_succ, Option.bind_some, List.setIfInBounds_toArray, List.set_cons_zero, List.set_cons_succ]
              refine wpAnyH_ready (rs := [9]) (by kernel_rfl) (by simp) ?_
              refine AllReadyH.cons rfl (fun K hK => ?_) ?_
              · go_simp
                have hsz := hst.low.size
                have e0 := (hst.m _ rfl).1.lt
                have e1 := (hst.s _ rfl).blk_lt _ rfl
                have e2 := (hst.u _ rfl).blk_lt _ rfl
                refine hK.out _ _ ?_ (fun hHeld => ?_)
                · first | (with_reducible exact KG.out _ hst.low) | exact KG.out _ (hst.low.alloc hst.low.size _)
                clear hK K
                try simp only [Act.put, List.setIfInBounds_toArray, List.set_cons_zero, List.set_cons_succ]
                refine wpAnyH_take (i := 10) (v := ?_) rfl (by kernel_rfl) (by kernel_rfl) (by kernel_rfl) (fun _ _ _ h => h) (Or.inl ⟨by rfl, ?_⟩) (by assumption) ?_
                rotate_left
                · intro w hSw
                  try dsimp only at hSw
                  obtain ⟨hs0_, hs1_⟩ := hSw
                  go_simp
                  try with_reducible rfl
                try simp only [Act.put, List.setIfInBounds_toArray]
                refine wpAnyH_done (by kernel_rfl) ?_ _
                refine NoPanic.normal ?_
                go_wp2_with fail
                go_meet
                exact ⟨_, _, _, _, rfl, hsz, by omega, by omega, by omega, Blk.new _ _ _, hst.below ((Below.refl _ _).alloc (Nat.le_refl _) _)⟩
              exact AllReadyH.nil
            exact AllReadyH.nil
          exact AllReadyH.nil
        exact AllReadyH.nil
      exact AllReadyH.nil
    exact AllReadyH.nil
  case rest =>
    obtain ⟨b, mb, sb, ub, rfl, hb1, n1, n2, n3, hbx, hst⟩ := hcut
    obtain ⟨W2, hW2⟩ : ∃ W2, W2 = wc := ⟨_, rfl⟩
    rw [← hW2] at hbx hst
    rw [← hW2]
    clear hW2 wc
    have z2 := hst.low
    have y2 := y1.trans (z2.mono y1.size)
    have c0b := c0.below' z2
    have c1b := c1.below' z2
    clear c0 c1
    have q0 : W2.cell? ⟨w.heap.size, 0, none⟩ = some (.int .i64 sy) := c0b.cell 0
    have q1 : W2.cell? ⟨w.heap.size, 1, none⟩ = some (.int .i64 (ns : Int)) := c0b.cell 1
    have q2 : W2.cell? ⟨w.heap.size, 2, none⟩ = some (.slice A n k) := c0b.cell 2
    have r0 : W2.cell? ⟨(w.heap.size + 1), 0, none⟩ = some (.int .i64 c.q) := c1b.cell 0
    have r1 : W2.cell? ⟨(w.heap.size + 1), 1, none⟩ = some (.slice B m a) := c1b.cell 1
    have r2 : W2.cell? ⟨(w.heap.size + 1), 2, none⟩ = some (.slice C l d) := c1b.cell 2
    have hmm := hst.m mb rfl
    have hss := hst.s sb rfl
    have huu := hst.u ub rfl
    have hbs : b ≠ mb ∧ b ≠ sb ∧ b ≠ ub ∧ mb ≠ sb ∧ mb ≠ ub ∧ sb ≠ ub := ⟨n1, n2, n3, hst.ms mb sb rfl rfl, hst.mu mb ub rfl rfl, hst.su sb ub rfl rfl⟩
    have hsl := hss.blk_ge sb rfl
    have hul := huu.blk_ge ub rfl
    have hX0 : ∀ x, CtX b mb sb ub x → x < W2.heap.size := by
      rintro x (rfl | rfl | rfl | rfl)
      · exact hbx.lt
      · exact hmm.1.lt
      · exact hss.blk_lt _ rfl
      · exact huu.blk_lt _ rfl
    have hd0 : CtD w b mb sb ub sy rs c ns n 0 0 (CtX b mb sb ub) W2 := ⟨_, _, fun _ h => h, by have := y1.size; omega, by have := y1.size; omega, hbs, hbx, hmm.1, hss.mono y1.size, huu.mono y1.size, SumL.zeros ns, SumL.zeros n⟩
    have HF := Lib.hid (follow_any w W2 sy (ns : Int) A n k rs c B m a C l d N 154 (.pointer (some ⟨b, 0, none⟩)) (.pointer (some ⟨b, 0, none⟩)) _ _ (fun i => CtD w b mb sb ub sy rs c ns n i i) (fun i => CtD w b mb sb ub sy rs c ns n (i + 1) i) (CtX b mb sb ub)
      hr (hx.below y2) (hy.below y2) hn hm hl HG.out (by omega) y2 hX0 hd0 (fun i => CtD.st _ _ _ _ _ _ _ _ _ _ _ _) (fun i => CtD.st _ _ _ _ _ _ _ _ _ _ _ _) (countM_config _) (countM_step _) Try.call319 Try.call320
      (fun i g W hi hal hS => countConfig_any w g sy (ns : Int) A n k rs c b mb sb ub ns n i W (hal.good HG.out) hal HG.out (Int.le_refl _) (by omega) (Nat.le_trans y1.size hsl) hS)
      (fun i g W hi hal hh hS => countStep_any w g sy (ns : Int) A n k rs c b mb sb ub ns n i _ _ W (hal.good HG.out) HRL.out (by omega) (Nat.le_trans y1.size hul) hS))
    clear hbx hd0 hX0 hst
    go_wp2_with fail
    refine HF.out.mono ?_
    rintro e W3 (⟨i', g, _, hE, rfl, hS⟩ | ⟨i', hE, rfl, hz⟩)
    rotate_left
    · have := runN_full hE
      rw [HRUN.out] at this
      cases this
    obtain rfl : i = i' := by
      have := runN_ended hE
      rw [HRUN.out] at this
      exact Option.some.inj this
    obtain ⟨xs, us, L, cl, R, d', hq, sx, su⟩ := hS.ct
    have HFIN : Hid (CountP w sy rs c ns n i (.returned (.tuple #[.pointer (some ⟨b, 0, none⟩), .int .i64 0])) W3) := Lib.hid ⟨b, mb, sb, ub, xs, us, rfl, hq.box, hq.map, hq.lom, hq.sts, hq.rls, by exact_mod_cast sx, su, hq.low⟩
    clear q0 q1 q2 r0 r1 r2 HF hS hE hq sx su
    go_wp2_with fail
    exact bodyPost_ret (v := .tuple #[.pointer (some ⟨b, 0, none⟩), .int .i64 0]) (by simp [results, Try.results116, go_sem]) rfl HFIN.out
end Go.Proofs.Ytbpofkggoolmpaa
