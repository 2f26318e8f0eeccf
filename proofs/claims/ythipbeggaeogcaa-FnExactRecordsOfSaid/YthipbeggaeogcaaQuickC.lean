/-
  Contract of (*impl.quick).config.
-/
import Derived.Test.YthipbeggaeogcaaQuick
import Derived.Deep.CutBlock
namespace Go.Proofs.Ythipbeggaeogcaa
open Go.RowKit

set_option maxRecDepth 100000 in
set_option maxHeartbeats 16000000 in
theorem quickConfig_any (w0 : World) (g : Nat) (sy st : Int) (A : Option Addr) (n k : Nat) (rs : List R3) (c0 : Conf) (i b : Nat) (W : World) (hgd : goodC sy st rs (itC sy rs c0 i)) (hi : i ≤ 1000000) (hS : FS w0 g sy st A n k (itC sy rs c0 i) (QD w0 b sy rs c0 i) W) :
    Calls Try.prog 247 #[.pointer (some ⟨b, 0, none⟩), .pointer (some ⟨g, 0, none⟩), .int .i64 (posF sy rs c0 i)] W fun e W' => (∃ u, e = .returned u) ∧ FS w0 g sy st A n k (itC sy rs c0 i) (QD w0 b sy rs c0 (i + 1)) W' := by
  obtain ⟨P, pc, R, rc, rq, hq, hv⟩ := hS.qx
  obtain ⟨h1, h2, h3, h4, hnl, h5, h6, hx2, hy2, hxm, hym, hrsv⟩ := conf_parts hgd
  have HCONF : Hid (∀ X W, RunC X W w0.heap.size g sy st A n k (itC sy rs c0 i) → Calls Try.prog 249 #[.pointer (some ⟨g, 0, none⟩)] W (NewConf W (itC sy rs c0 i).q (itC sy rs c0 i).xs (itC sy rs c0 i).ys)) := Lib.hid (fun X W h => by
    have := config_any g sy st A n k (itC sy rs c0 i).q w0.heap.size (itC sy rs c0 i).xs.reverse (itC sy rs c0 i).ys.reverse W (SidesX.sides h) (by rw [List.length_reverse]; omega) (by rw [List.length_reverse]; omega)
    rwa [List.reverse_reverse, List.reverse_reverse] at this)
  have hrl : rq.length ≤ i := by have := congrArg List.length hv; rw [List.length_map] at this; rw [this]; exact exF_len _ _ _ _
  have HV := Lib.hid hv
  have HPN := Lib.hid (posTo_next sy rs c0 i)
  have HFIN : Hid (∀ (c : Conf) (P R : Option Addr) (pc rc : Nat) (rq : List Rq) (l u : Int) (W : World), c = itC sy rs c0 i → (exF sy rs c0 (i + 1)).1 = l → (exF sy rs c0 (i + 1)).2.1 = u → rq.map Rq.val = (exF sy rs c0 (i + 1)).2.2 → QX w0 b g sy st A n k c (i + 1) (posTo sy rs c0 i ++ [posF sy rs c0 i]) rq l u P pc R rc W → FS w0 g sy st A n k (itC sy rs c0 i) (QD w0 b sy rs c0 (i + 1)) W) := Lib.hid (fun c P R pc rc rq l u W hc hl hu hr h => by
    subst hc; subst hl; subst hu
    rw [← posTo_next] at h
    exact h.fs hr)
  have HE : Hid (exF sy rs c0 (i + 1) = if (exF sy rs c0 i).2.1 < posF sy rs c0 i then ((exF sy rs c0 i).1, posF sy rs c0 i, (exF sy rs c0 i).2.2 ++ [((i : Int), 1, (itC sy rs c0 i).q)])
    else if posF sy rs c0 i < (exF sy rs c0 i).1 then (posF sy rs c0 i, (exF sy rs c0 i).2.1, (exF sy rs c0 i).2.2 ++ [((i : Int), -1, (itC sy rs c0 i).q)])
    else exF sy rs c0 i) := Lib.hid rfl
  clear hS hv hgd h1 h2 h3 h4 hnl h5 h6 hx2 hy2 hxm hym hrsv
  generalize hcc : itC sy rs c0 i = cc at *
  have HCC := Lib.hid hcc
  clear hcc
  generalize posTo sy rs c0 i = ps at *
  generalize posF sy rs c0 i = p at *
  obtain ⟨ex, hex⟩ : ∃ ex, ex = exF sy rs c0 i := ⟨_, rfl⟩
  rw [← hex] at HV HE hq
  clear hex
  obtain ⟨l, u, rcs⟩ := ex
  dsimp only at HV HE hq
  have x0 := hq.box.cell 0
  have x1 := hq.box.cell 1
  have x2 : W.cell? ⟨b, 2, none⟩ = some (.int .i64 l) := hq.box.cell 2
  have x3 : W.cell? ⟨b, 3, none⟩ = some (.int .i64 u) := hq.box.cell 3
  have f2 := hq.box.frozen 2
  have f3 := hq.box.frozen 3
  by_cases hup : u < p
  · have HEX : Hid (exF sy rs c0 (i + 1) = (l, p, rcs ++ [((i : Int), 1, cc.q)])) := Lib.hid (by rw [HE.out, if_pos hup])
    go_enter Try.func247, Try.ntmps247
    go_upto_block 0 with fail
    go_cut [36] (fun _ wx => ∃ (A2 : Option Addr) (c2 : Nat) (t : Rq), QX w0 b g sy st A n k cc i ps (rq ++ [t]) l p P pc A2 c2 wx ∧ Hid (t.val = ((i : Int), 1, cc.q)))
    case first =>
      go_upto_region 2 with fail
      replace hq := hq.setu p
      generalize W.setCell ⟨b, 3, none⟩ (.int .i64 p) = W1 at *
      clear x0 x1 x2 x3 f2 f3
      refine wp_region_noPanic ?_
      refine wp_region_held_drew (S := (fun w' => w'.cell? ⟨b, 0, none⟩ = some (.slice P i pc))) (by kernel_rfl) ?_ (fun hHeld => ?_)
      · exact hq.box.cell 0
      have hqd_ : QX w0 b g sy st A n k cc i ps rq l p P pc R rc W1.drew := hq.below (show Below W1.heap.size W1 W1.drew from below_drewN (Below.refl _ _) 1)
      clear hq
      have hq := hqd_
      clear hqd_
      generalize W1.drew = Wc at *
      refine wpAnyH_take (i := 0) (v := ?_) rfl (by kernel_rfl) (by kernel_rfl) (by kernel_rfl) (fun _ _ _ h => h) (Or.inl ⟨by rfl, ?_⟩) (by assumption) ?_
      rotate_left
      · intro w hSw
        try dsimp only at hSw
        go_simp
        try with_reducible rfl
      try simp only [Act.put, List.setIfInBounds_toArray]
      refine wpAnyH_take (i := 1) (v := ?_) rfl (by kernel_rfl) (by kernel_rfl) (by kernel_rfl) (fun _ _ _ h => h) (Or.inl ⟨by rfl, ?_⟩) (by assumption) ?_
      rotate_left
      · intro w hSw
        try dsimp only at hSw
        go_simp
        try with_reducible rfl
      try simp only [Act.put]
      refine wpAnyH_take (i := 2) (v := ?_) rfl (by kernel_rfl) (by kernel_rfl) (by kernel_rfl) (fun _ _ _ h => h) (Or.inl ⟨by rfl, ?_⟩) (by assumption) ?_
      rotate_left
      · intro w hSw
        try dsimp only at hSw
        go_simp
        try with_reducible rfl
      try simp only [Act.put]
      refine wpAnyH_take (i := 3) (v := ?_) rfl (by kernel_rfl) (by kernel_rfl) (by kernel_rfl) (fun _ _ _ h => h) (Or.inl ⟨by rfl, ?_⟩) (by assumption) ?_
      rotate_left
      · intro w hSw
        try dsimp only at hSw
        go_simp
        try with_reducible rfl
      try simp only [Act.put]
      refine wpAnyH_take (i := 4) (v := ?_) rfl (by kernel_rfl) (by kernel_rfl) (by kernel_rfl) (fun _ _ _ h => h) (Or.inl ⟨by rfl, ?_⟩) (by assumption) ?_
      rotate_left
      · intro w hSw
        try dsimp only at hSw
        go_simp
        try with_reducible rfl
      try simp only [Act.put]
      refine wpAnyH_take (i := 6) (v := ?_) rfl (by kernel_rfl) (by kernel_rfl) (by kernel_rfl) (fun _ _ _ h => h) (Or.inl ⟨by rfl, ?_⟩) (by assumption) ?_
      rotate_left
      · intro w hSw
        try dsimp only at hSw
        go_simp
        try with_reducible rfl
      try simp only [Act.put]
      refine wpAnyH_take (i := 7) (v := ?_) rfl (by kernel_rfl) (by kernel_rfl) (by kernel_rfl) (fun _ _ _ h => h) (Or.inl ⟨by rfl, ?_⟩) (by assumption) ?_
      rotate_left
      · intro w hSw
        try dsimp only at hSw
        go_simp
        try with_reducible rfl
      try simp only [Act.put]
      refine wpAnyH_take (i := 8) (v := ?_) rfl (by kernel_rfl) (by kernel_rfl) (by kernel_rfl) (fun _ _ _ h => h) (Or.inl ⟨by rfl, ?_⟩) (by assumption) ?_
      rotate_left
      · intro w hSw
        try dsimp only at hSw
        go_simp
        try with_reducible rfl
      try simp only [Act.put]
      refine wpAnyH_take (i := 9) (v := ?_) rfl (by kernel_rfl) (by kernel_rfl) (by kernel_rfl) (fun _ _ _ h => h) (Or.inl ⟨by rfl, ?_⟩) (by assumption) ?_
      rotate_left
      · intro w hSw
        try dsimp only at hSw
        go_simp
        try with_reducible rfl
      try simp only [Act.put]
      refine wpAnyH_take (i := 10) (v := ?_) rfl (by kernel_rfl) (by kernel_rfl) (by kernel_rfl) (fun _ _ _ h => h) (Or.inl ⟨by rfl, ?_⟩) (by assumption) ?_
      rotate_left
      · intro w hSw
        try dsimp only at hSw
        go_simp
        try with_reducible rfl
      try simp only [Act.put]
      refine wpAnyH_take (i := 12) (v := ?_) rfl (by kernel_rfl) (by kernel_rfl) (by kernel_rfl) (fun _ _ _ h => h) (Or.inl ⟨by rfl, ?_⟩) (by assumption) ?_
      rotate_left
      · intro w hSw
        try dsimp only at hSw
        go_simp
        try with_reducible rfl
      try simp only [Act.put]
      refine wpAnyH_ready (rs := [5, 11]) (by kernel_rfl) (by simp) ?_
      refine AllReadyH.cons rfl (fun K hK => ?_) ?_
      · have cc1 := hq.box.cell 1
        go_simp
        clear cc1
        refine hK.out _ _ ?_ (fun hHeld => ?_)
        · first | exact hqF.box.cell 0 | exact hb3.cell 0 | exact hq.box.cell 0
        clear hK K
        try simp only [Act.put, List.setIfInBounds_toArray, List.set_cons_zero, List.set_cons_succ]
        refine wpAnyH_ready (rs := [11]) (by kernel_rfl) (by simp) ?_
        refine AllReadyH.cons rfl (fun K hK => ?_) ?_
        · go_simp
          refine (sizeI_any _ _ _ _ (by omega)).mono ?_
          rintro e wc_ ⟨rfl, rfl⟩
          refine hK.out _ _ ?_ (fun hHeld => ?_)
          · first | exact hqF.box.cell 0 | exact hb3.cell 0 | exact hq.box.cell 0
          clear hK K
          try simp only [Act.put, List.setIfInBounds_toArray, List.set_cons_zero, List.set_cons_succ]
          refine wpAnyH_ready (rs := [13]) (by kernel_rfl) (by simp) ?_
          refine AllReadyH.cons rfl (fun K hK => ?_) ?_
          · go_simp
            refine (HCONF.out _ _ hq.run).mono ?_
            rintro e Wd ⟨L7, a7, R7, d7, rfl, _, _, _, z7⟩
            replace hq := hq.below z7
            clear z7
            refine hK.out _ _ ?_ (fun hHeld => ?_)
            · first | exact hqF.box.cell 0 | exact hb3.cell 0 | exact hq.box.cell 0
            clear hK K
            try simp only [Act.put, List.setIfInBounds_toArray, List.set_cons_zero, List.set_cons_succ]
            refine wpAnyH_take (i := 14) (v := ?_) rfl (by kernel_rfl) (by kernel_rfl) (by kernel_rfl) (fun _ _ _ h => h) (Or.inl ⟨by rfl, ?_⟩) (by assumption) ?_
            rotate_left
            · intro w hSw
              try dsimp only at hSw
              go_simp
              try with_reducible rfl
            try simp only [Act.put, List.setIfInBounds_toArray]
            refine wpAnyH_ready (rs := [15]) (by kernel_rfl) (by simp) ?_
            refine AllReadyH.cons rfl (fun K hK => ?_) ?_
            · go_simp
              have hqd := hq
              replace hq := hq.below ((Below.refl _ _).alloc (Nat.le_refl _) (.cells #[.int .i64 (i : Int), .int .i64 (1), .int .i64 cc.q, .slice L7 cc.xs.length a7, .slice R7 cc.ys.length d7] 194))
              refine hK.out _ _ ?_ (fun hHeld => ?_)
              · first | exact hqF.box.cell 0 | exact hb3.cell 0 | exact hq.box.cell 0
              clear hK K
              try simp only [Act.put, List.setIfInBounds_toArray, List.set_cons_zero, List.set_cons_succ]
              refine wpAnyH_ready (rs := [16]) (by kernel_rfl) (by simp) ?_
              refine AllReadyH.cons rfl (fun K hK => ?_) ?_
              · rw [if_pos (by rfl)]
                refine wp_append_Own (.tmp 22) (.tmp 32) rfl elRec (lo := w0.heap.size) rfl hq.recs rfl (Rq.new Wd ⟨(i : Int), 1, cc.q, L7, cc.xs.length, a7, R7, cc.ys.length, d7⟩) (fun u hu => Rq.one [⟨(i : Int), 1, cc.q, L7, cc.xs.length, a7, R7, cc.ys.length, d7⟩] u (by simpa using hu)) (by omega) (by simp only [maxLen]; omega) hq.low.size ?_
                intro A3 c3 W3 ho3 hg3 hw3
                have hqF := hq.rec_ (t := ⟨(i : Int), 1, cc.q, L7, cc.xs.length, a7, R7, cc.ys.length, d7⟩) ho3 hg3 hw3.1
                have hb3 := hq.box.grown hq.recs hg3 (by decide)
                refine hK.out _ _ ?_ (fun hHeld => ?_)
                · first | exact hqF.box.cell 0 | exact hb3.cell 0 | exact hq.box.cell 0
                clear hK K
                try simp only [Act.put, List.setIfInBounds_toArray]
                refine wpAnyH_take (i := 17) (v := ?_) rfl (by kernel_rfl) (by kernel_rfl) (by kernel_rfl) (fun _ _ _ h => h) (Or.inl ⟨by rfl, ?_⟩) (by assumption) ?_
                rotate_left
                · intro w hSw
                  try dsimp only at hSw
                  go_simp
                  try with_reducible rfl
                try simp only [Act.put]
                refine wpAnyH_take (i := 18) (v := ?_) rfl (by kernel_rfl) (by kernel_rfl) (by kernel_rfl) (fun _ _ _ h => h) (Or.inl ⟨by rfl, ?_⟩) (by assumption) ?_
                rotate_left
                · intro w hSw
                  try dsimp only at hSw
                  go_simp
                  try with_reducible rfl
                try simp only [Act.put]
                refine wpAnyH_take (i := 19) (v := ?_) rfl (by kernel_rfl) (by kernel_rfl) (by kernel_rfl) (fun _ _ _ h => h) (Or.inl ⟨by rfl, ?_⟩) (by assumption) ?_
                rotate_left
                · intro w hSw
                  try dsimp only at hSw
                  go_simp
                  try with_reducible rfl
                try simp only [Act.put]
                refine wpAnyH_ready (rs := [20]) (by kernel_rfl) (by simp) ?_
                refine AllReadyH.cons rfl (fun K hK => ?_) ?_
                · have cc1 := hb3.cell 1
                  have ff1 := hb3.frozen 1
                  go_simp
                  clear cc1 ff1
                  refine hK.out _ _ ?_ (fun hHeld => ?_)
                  · first | exact hqF.box.cell 0 | exact hb3.cell 0 | exact hq.box.cell 0
                  clear hK K
                  try simp only [Act.put, List.setIfInBounds_toArray]
                  refine wpAnyH_done (by kernel_rfl) ?_ _
                  refine NoPanic.normal ?_
                  go_wp2_with fail
                  go_meet
                  exact ⟨A3, c3, _, hqF, rfl⟩
                exact AllReadyH.nil
              exact AllReadyH.nil
            exact AllReadyH.nil
          exact AllReadyH.nil
        exact AllReadyH.nil
      refine AllReadyH.cons rfl (fun K hK => ?_) ?_
      · go_simp
        refine (sizeI_any _ _ _ _ (by omega)).mono ?_
        rintro e wc_ ⟨rfl, rfl⟩
        refine hK.out _ _ ?_ (fun hHeld => ?_)
        · first | exact hqF.box.cell 0 | exact hb3.cell 0 | exact hq.box.cell 0
        clear hK K
        try simp only [Act.put, List.setIfInBounds_toArray, List.set_cons_zero, List.set_cons_succ]
        refine wpAnyH_ready (rs := [5, 13]) (by kernel_rfl) (by simp) ?_
        refine AllReadyH.cons rfl (fun K hK => ?_) ?_
        · have cc1 := hq.box.cell 1
          go_simp
          clear cc1
          refine hK.out _ _ ?_ (fun hHeld => ?_)
          · first | exact hqF.box.cell 0 | exact hb3.cell 0 | exact hq.box.cell 0
          clear hK K
          try simp only [Act.put, List.setIfInBounds_toArray, List.set_cons_zero, List.set_cons_succ]
          refine wpAnyH_ready (rs := [13]) (by kernel_rfl) (by simp) ?_
          refine AllReadyH.cons rfl (fun K hK => ?_) ?_
          · go_simp
            refine (HCONF.out _ _ hq.run).mono ?_
            rintro e Wd ⟨L7, a7, R7, d7, rfl, _, _, _, z7⟩
            replace hq := hq.below z7
            clear z7
            refine hK.out _ _ ?_ (fun hHeld => ?_)
            · first | exact hqF.box.cell 0 | exact hb3.cell 0 | exact hq.box.cell 0
            clear hK K
            try simp only [Act.put, List.setIfInBounds_toArray, List.set_cons_zero, List.set_cons_succ]
            refine wpAnyH_take (i := 14) (v := ?_) rfl (by kernel_rfl) (by kernel_rfl) (by kernel_rfl) (fun _ _ _ h => h) (Or.inl ⟨by rfl, ?_⟩) (by assumption) ?_
            rotate_left
            · intro w hSw
              try dsimp only at hSw
              go_simp
              try with_reducible rfl
            try simp only [Act.put, List.setIfInBounds_toArray]
            refine wpAnyH_ready (rs := [15]) (by kernel_rfl) (by simp) ?_
            refine AllReadyH.cons rfl (fun K hK => ?_) ?_
            · go_simp
              have hqd := hq
              replace hq := hq.below ((Below.refl _ _).alloc (Nat.le_refl _) (.cells #[.int .i64 (i : Int), .int .i64 (1), .int .i64 cc.q, .slice L7 cc.xs.length a7, .slice R7 cc.ys.length d7] 194))
              refine hK.out _ _ ?_ (fun hHeld => ?_)
              · first | exact hqF.box.cell 0 | exact hb3.cell 0 | exact hq.box.cell 0
              clear hK K
              try simp only [Act.put, List.setIfInBounds_toArray, List.set_cons_zero, List.set_cons_succ]
              refine wpAnyH_ready (rs := [16]) (by kernel_rfl) (by simp) ?_
              refine AllReadyH.cons rfl (fun K hK => ?_) ?_
              · rw [if_pos (by rfl)]
                refine wp_append_Own (.tmp 22) (.tmp 32) rfl elRec (lo := w0.heap.size) rfl hq.recs rfl (Rq.new Wd ⟨(i : Int), 1, cc.q, L7, cc.xs.length, a7, R7, cc.ys.length, d7⟩) (fun u hu => Rq.one [⟨(i : Int), 1, cc.q, L7, cc.xs.length, a7, R7, cc.ys.length, d7⟩] u (by simpa using hu)) (by omega) (by simp only [maxLen]; omega) hq.low.size ?_
                intro A3 c3 W3 ho3 hg3 hw3
                have hqF := hq.rec_ (t := ⟨(i : Int), 1, cc.q, L7, cc.xs.length, a7, R7, cc.ys.length, d7⟩) ho3 hg3 hw3.1
                have hb3 := hq.box.grown hq.recs hg3 (by decide)
                refine hK.out _ _ ?_ (fun hHeld => ?_)
                · first | exact hqF.box.cell 0 | exact hb3.cell 0 | exact hq.box.cell 0
                clear hK K
                try simp only [Act.put, List.setIfInBounds_toArray]
                refine wpAnyH_take (i := 17) (v := ?_) rfl (by kernel_rfl) (by kernel_rfl) (by kernel_rfl) (fun _ _ _ h => h) (Or.inl ⟨by rfl, ?_⟩) (by assumption) ?_
                rotate_left
                · intro w hSw
                  try dsimp only at hSw
                  go_simp
                  try with_reducible rfl
                try simp only [Act.put]
                refine wpAnyH_take (i := 18) (v := ?_) rfl (by kernel_rfl) (by kernel_rfl) (by kernel_rfl) (fun _ _ _ h => h) (Or.inl ⟨by rfl, ?_⟩) (by assumption) ?_
                rotate_left
                · intro w hSw
                  try dsimp only at hSw
                  go_simp
                  try with_reducible rfl
                try simp only [Act.put]
                refine wpAnyH_take (i := 19) (v := ?_) rfl (by kernel_rfl) (by kernel_rfl) (by kernel_rfl) (fun _ _ _ h => h) (Or.inl ⟨by rfl, ?_⟩) (by assumption) ?_
                rotate_left
                · intro w hSw
                  try dsimp only at hSw
                  go_simp
                  try with_reducible rfl
                try simp only [Act.put]
                refine wpAnyH_ready (rs := [20]) (by kernel_rfl) (by simp) ?_
                refine AllReadyH.cons rfl (fun K hK => ?_) ?_
                · have cc1 := hb3.cell 1
                  have ff1 := hb3.frozen 1
                  go_simp
                  clear cc1 ff1
                  refine hK.out _ _ ?_ (fun hHeld => ?_)
                  · first | exact hqF.box.cell 0 | exact hb3.cell 0 | exact hq.box.cell 0
                  clear hK K
                  try simp only [Act.put, List.setIfInBounds_toArray]
                  refine wpAnyH_done (by kernel_rfl) ?_ _
                  refine NoPanic.normal ?_
                  go_wp2_with fail
                  go_meet
                  exact ⟨A3, c3, _, hqF, rfl⟩
                exact AllReadyH.nil
              exact AllReadyH.nil
            exact AllReadyH.nil
          exact AllReadyH.nil
        refine AllReadyH.cons rfl (fun K hK => ?_) ?_
        · go_simp
          refine (HCONF.out _ _ hq.run).mono ?_
          rintro e Wd ⟨L7, a7, R7, d7, rfl, _, _, _, z7⟩
          replace hq := hq.below z7
          clear z7
          refine hK.out _ _ ?_ (fun hHeld => ?_)
          · first | exact hqF.box.cell 0 | exact hb3.cell 0 | exact hq.box.cell 0
          clear hK K
          try simp only [Act.put, List.setIfInBounds_toArray, List.set_cons_zero, List.set_cons_succ]
          refine wpAnyH_take (i := 14) (v := ?_) rfl (by kernel_rfl) (by kernel_rfl) (by kernel_rfl) (fun _ _ _ h => h) (Or.inl ⟨by rfl, ?_⟩) (by assumption) ?_
          rotate_left
          · intro w hSw
            try dsimp only at hSw
            go_simp
            try with_reducible rfl
          try simp only [Act.put, List.setIfInBounds_toArray]
          refine wpAnyH_ready (rs := [5, 15]) (by kernel_rfl) (by simp) ?_
          refine AllReadyH.cons rfl (fun K hK => ?_) ?_
          · have cc1 := hq.box.cell 1
            go_simp
            clear cc1
            refine hK.out _ _ ?_ (fun hHeld => ?_)
            · first | exact hqF.box.cell 0 | exact hb3.cell 0 | exact hq.box.cell 0
            clear hK K
            try simp only [Act.put, List.setIfInBounds_toArray, List.set_cons_zero, List.set_cons_succ]
            refine wpAnyH_ready (rs := [15]) (by kernel_rfl) (by simp) ?_
            refine AllReadyH.cons rfl (fun K hK => ?_) ?_
            · go_simp
              have hqd := hq
              replace hq := hq.below ((Below.refl _ _).alloc (Nat.le_refl _) (.cells #[.int .i64 (i : Int), .int .i64 (1), .int .i64 cc.q, .slice L7 cc.xs.length a7, .slice R7 cc.ys.length d7] 194))
              refine hK.out _ _ ?_ (fun hHeld => ?_)
              · first | exact hqF.box.cell 0 | exact hb3.cell 0 | exact hq.box.cell 0
              clear hK K
              try simp only [Act.put, List.setIfInBounds_toArray, List.set_cons_zero, List.set_cons_succ]
              refine wpAnyH_ready (rs := [16]) (by kernel_rfl) (by simp) ?_
              refine AllReadyH.cons rfl (fun K hK => ?_) ?_
              · rw [if_pos (by rfl)]
                refine wp_append_Own (.tmp 22) (.tmp 32) rfl elRec (lo := w0.heap.size) rfl hq.recs rfl (Rq.new Wd ⟨(i : Int), 1, cc.q, L7, cc.xs.length, a7, R7, cc.ys.length, d7⟩) (fun u hu => Rq.one [⟨(i : Int), 1, cc.q, L7, cc.xs.length, a7, R7, cc.ys.length, d7⟩] u (by simpa using hu)) (by omega) (by simp only [maxLen]; omega) hq.low.size ?_
                intro A3 c3 W3 ho3 hg3 hw3
                have hqF := hq.rec_ (t := ⟨(i : Int), 1, cc.q, L7, cc.xs.length, a7, R7, cc.ys.length, d7⟩) ho3 hg3 hw3.1
                have hb3 := hq.box.grown hq.recs hg3 (by decide)
                refine hK.out _ _ ?_ (fun hHeld => ?_)
                · first | exact hqF.box.cell 0 | exact hb3.cell 0 | exact hq.box.cell 0
                clear hK K
                try simp only [Act.put, List.setIfInBounds_toArray]
                refine wpAnyH_take (i := 17) (v := ?_) rfl (by kernel_rfl) (by kernel_rfl) (by kernel_rfl) (fun _ _ _ h => h) (Or.inl ⟨by rfl, ?_⟩) (by assumption) ?_
                rotate_left
                · intro w hSw
                  try dsimp only at hSw
                  go_simp
                  try with_reducible rfl
                try simp only [Act.put]
                refine wpAnyH_take (i := 18) (v := ?_) rfl (by kernel_rfl) (by kernel_rfl) (by kernel_rfl) (fun _ _ _ h => h) (Or.inl ⟨by rfl, ?_⟩) (by assumption) ?_
                rotate_left
                · intro w hSw
                  try dsimp only at hSw
                  go_simp
                  try with_reducible rfl
                try simp only [Act.put]
                refine wpAnyH_take (i := 19) (v := ?_) rfl (by kernel_rfl) (by kernel_rfl) (by kernel_rfl) (fun _ _ _ h => h) (Or.inl ⟨by rfl, ?_⟩) (by assumption) ?_
                rotate_left
                · intro w hSw
                  try dsimp only at hSw
                  go_simp
                  try with_reducible rfl
                try simp only [Act.put]
                refine wpAnyH_ready (rs := [20]) (by kernel_rfl) (by simp) ?_
                refine AllReadyH.cons rfl (fun K hK => ?_) ?_
                · have cc1 := hb3.cell 1
                  have ff1 := hb3.frozen 1
                  go_simp
                  clear cc1 ff1
                  refine hK.out _ _ ?_ (fun hHeld => ?_)
                  · first | exact hqF.box.cell 0 | exact hb3.cell 0 | exact hq.box.cell 0
                  clear hK K
                  try simp only [Act.put, List.setIfInBounds_toArray]
                  refine wpAnyH_done (by kernel_rfl) ?_ _
                  refine NoPanic.normal ?_
                  go_wp2_with fail
                  go_meet
                  exact ⟨A3, c3, _, hqF, rfl⟩
                exact AllReadyH.nil
              exact AllReadyH.nil
            exact AllReadyH.nil
          refine AllReadyH.cons rfl (fun K hK => ?_) ?_
          · go_simp
            have hqd := hq
            replace hq := hq.below ((Below.refl _ _).alloc (Nat.le_refl _) (.cells #[.int .i64 (i : Int), .int .i64 (1), .int .i64 cc.q, .slice L7 cc.xs.length a7, .slice R7 cc.ys.length d7] 194))
            refine hK.out _ _ ?_ (fun hHeld => ?_)
            · first | exact hqF.box.cell 0 | exact hb3.cell 0 | exact hq.box.cell 0
            clear hK K
            try simp only [Act.put, List.setIfInBounds_toArray, List.set_cons_zero, List.set_cons_succ]
            refine wpAnyH_ready (rs := [5]) (by kernel_rfl) (by simp) ?_
            refine AllReadyH.cons rfl (fun K hK => ?_) ?_
            · have cc1 := hq.box.cell 1
              go_simp
              clear cc1
              refine hK.out _ _ ?_ (fun hHeld => ?_)
              · first | exact hqF.box.cell 0 | exact hb3.cell 0 | exact hq.box.cell 0
              clear hK K
              try simp only [Act.put, List.setIfInBounds_toArray, List.set_cons_zero, List.set_cons_succ]
              refine wpAnyH_ready (rs := [16]) (by kernel_rfl) (by simp) ?_
              refine AllReadyH.cons rfl (fun K hK => ?_) ?_
              · rw [if_pos (by rfl)]
                refine wp_append_Own (.tmp 22) (.tmp 32) rfl elRec (lo := w0.heap.size) rfl hq.recs rfl (Rq.new Wd ⟨(i : Int), 1, cc.q, L7, cc.xs.length, a7, R7, cc.ys.length, d7⟩) (fun u hu => Rq.one [⟨(i : Int), 1, cc.q, L7, cc.xs.length, a7, R7, cc.ys.length, d7⟩] u (by simpa using hu)) (by omega) (by simp only [maxLen]; omega) hq.low.size ?_
                intro A3 c3 W3 ho3 hg3 hw3
                have hqF := hq.rec_ (t := ⟨(i : Int), 1, cc.q, L7, cc.xs.length, a7, R7, cc.ys.length, d7⟩) ho3 hg3 hw3.1
                have hb3 := hq.box.grown hq.recs hg3 (by decide)
                refine hK.out _ _ ?_ (fun hHeld => ?_)
                · first | exact hqF.box.cell 0 | exact hb3.cell 0 | exact hq.box.cell 0
                clear hK K
                try simp only [Act.put, List.setIfInBounds_toArray]
                refine wpAnyH_take (i := 17) (v := ?_) rfl (by kernel_rfl) (by kernel_rfl) (by kernel_rfl) (fun _ _ _ h => h) (Or.inl ⟨by rfl, ?_⟩) (by assumption) ?_
                rotate_left
                · intro w hSw
                  try dsimp only at hSw
                  go_simp
                  try with_reducible rfl
                try simp only [Act.put]
                refine wpAnyH_take (i := 18) (v := ?_) rfl (by kernel_rfl) (by kernel_rfl) (by kernel_rfl) (fun _ _ _ h => h) (Or.inl ⟨by rfl, ?_⟩) (by assumption) ?_
                rotate_left
                · intro w hSw
                  try dsimp only at hSw
                  go_simp
                  try with_reducible rfl
                try simp only [Act.put]
                refine wpAnyH_take (i := 19) (v := ?_) rfl (by kernel_rfl) (by kernel_rfl) (by kernel_rfl) (fun _ _ _ h => h) (Or.inl ⟨by rfl, ?_⟩) (by assumption) ?_
                rotate_left
                · intro w hSw
                  try dsimp only at hSw
                  go_simp
                  try with_reducible rfl
                try simp only [Act.put]
                refine wpAnyH_ready (rs := [20]) (by kernel_rfl) (by simp) ?_
                refine AllReadyH.cons rfl (fun K hK => ?_) ?_
                · have cc1 := hb3.cell 1
                  have ff1 := hb3.frozen 1
                  go_simp
                  clear cc1 ff1
                  refine hK.out _ _ ?_ (fun hHeld => ?_)
                  · first | exact hqF.box.cell 0 | exact hb3.cell 0 | exact hq.box.cell 0
                  clear hK K
                  try simp only [Act.put, List.setIfInBounds_toArray]
                  refine wpAnyH_done (by kernel_rfl) ?_ _
                  refine NoPanic.normal ?_
                  go_wp2_with fail
                  go_meet
                  exact ⟨A3, c3, _, hqF, rfl⟩
                exact AllReadyH.nil
              exact AllReadyH.nil
            exact AllReadyH.nil
          exact AllReadyH.nil
        exact AllReadyH.nil
      exact AllReadyH.nil
    case rest =>
      obtain ⟨A2, c2, t, hq2, ht⟩ := hcut
      have HV2 : Hid ((rq ++ [t]).map Rq.val = (exF sy rs c0 (i + 1)).2.2) := Lib.hid (by rw [HEX.out, List.map_append, HV.out, List.map_cons, ht.out]; rfl)
      have HL2 : Hid ((exF sy rs c0 (i + 1)).1 = l) := Lib.hid (by rw [HEX.out])
      have HU2 : Hid ((exF sy rs c0 (i + 1)).2.1 = p) := Lib.hid (by rw [HEX.out])
      clear ht
      have x0 := hq2.box.cell 0
      have hq3 := hq2.below ((Below.refl _ _).alloc (Nat.le_refl _) (.cells #[.int .i64 p] 2))
      go_wp2_with (at_builtin; refine wpList_append_Own rfl (.tmp 73) (.tmp 75) rfl elI (lo := w0.heap.size) rfl hq3.pos rfl (Rd.new1 _ (.int .i64 p) _) (by simp [Value.oneCell']) (by omega) (by simp only [maxLen]; omega) hq3.low.size ?_; intro A5 c5 w5 ho5 hg5 hw5; have hb5 := hq3.box.grown hq3.pos hg5 (by decide); have y0 := hb5.cell 0; have g0 := hb5.frozen 0)
      rw [ints_snoc] at ho5
      have hqE := hq3.pos_ ho5 hg5 hw5.1
      go_wp2_with fail
      exact bodyPost_end (results_none rfl _ _ _) rfl ⟨⟨_, rfl⟩, HFIN.out cc _ _ _ _ _ _ _ _ rfl HL2.out HU2.out HV2.out hqE⟩
  · by_cases hdn : p < l
    · have HEX : Hid (exF sy rs c0 (i + 1) = (p, u, rcs ++ [((i : Int), -1, cc.q)])) := Lib.hid (by rw [HE.out, if_neg hup, if_pos hdn])
      go_enter Try.func247, Try.ntmps247
      go_upto_block 0 with fail
      go_cut [36] (fun _ wx => ∃ (A2 : Option Addr) (c2 : Nat) (t : Rq), QX w0 b g sy st A n k cc i ps (rq ++ [t]) p u P pc A2 c2 wx ∧ Hid (t.val = ((i : Int), -1, cc.q)))
      case first =>
        go_upto_region 5 with fail
        replace hq := hq.setl p
        generalize W.setCell ⟨b, 2, none⟩ (.int .i64 p) = W1 at *
        clear x0 x1 x2 x3 f2 f3
        refine wp_region_noPanic ?_
        refine wp_region_held_drew (S := (fun w' => w'.cell? ⟨b, 0, none⟩ = some (.slice P i pc))) (by kernel_rfl) ?_ (fun hHeld => ?_)
        · exact hq.box.cell 0
        have hqd_ : QX w0 b g sy st A n k cc i ps rq p u P pc R rc W1.drew := hq.below (show Below W1.heap.size W1 W1.drew from below_drewN (Below.refl _ _) 1)
        clear hq
        have hq := hqd_
        clear hqd_
        generalize W1.drew = Wc at *
        refine wpAnyH_take (i := 0) (v := ?_) rfl (by kernel_rfl) (by kernel_rfl) (by kernel_rfl) (fun _ _ _ h => h) (Or.inl ⟨by rfl, ?_⟩) (by assumption) ?_
        rotate_left
        · intro w hSw
          try dsimp only at hSw
          go_simp
          try with_reducible rfl
        try simp only [Act.put, List.setIfInBounds_toArray]
        refine wpAnyH_take (i := 1) (v := ?_) rfl (by kernel_rfl) (by kernel_rfl) (by kernel_rfl) (fun _ _ _ h => h) (Or.inl ⟨by rfl, ?_⟩) (by assumption) ?_
        rotate_left
        · intro w hSw
          try dsimp only at hSw
          go_simp
          try with_reducible rfl
        try simp only [Act.put]
        refine wpAnyH_take (i := 2) (v := ?_) rfl (by kernel_rfl) (by kernel_rfl) (by kernel_rfl) (fun _ _ _ h => h) (Or.inl ⟨by rfl, ?_⟩) (by assumption) ?_
        rotate_left
        · intro w hSw
          try dsimp only at hSw
          go_simp
          try with_reducible rfl
        try simp only [Act.put]
        refine wpAnyH_take (i := 3) (v := ?_) rfl (by kernel_rfl) (by kernel_rfl) (by kernel_rfl) (fun _ _ _ h => h) (Or.inl ⟨by rfl, ?_⟩) (by assumption) ?_
        rotate_left
        · intro w hSw
          try dsimp only at hSw
          go_simp
          try with_reducible rfl
        try simp only [Act.put]
        refine wpAnyH_take (i := 4) (v := ?_) rfl (by kernel_rfl) (by kernel_rfl) (by kernel_rfl) (fun _ _ _ h => h) (Or.inl ⟨by rfl, ?_⟩) (by assumption) ?_
        rotate_left
        · intro w hSw
          try dsimp only at hSw
          go_simp
          try with_reducible rfl
        try simp only [Act.put]
        refine wpAnyH_take (i := 6) (v := ?_) rfl (by kernel_rfl) (by kernel_rfl) (by kernel_rfl) (fun _ _ _ h => h) (Or.inl ⟨by rfl, ?_⟩) (by assumption) ?_
        rotate_left
        · intro w hSw
          try dsimp only at hSw
          go_simp
          try with_reducible rfl
        try simp only [Act.put]
        refine wpAnyH_take (i := 7) (v := ?_) rfl (by kernel_rfl) (by kernel_rfl) (by kernel_rfl) (fun _ _ _ h => h) (Or.inl ⟨by rfl, ?_⟩) (by assumption) ?_
        rotate_left
        · intro w hSw
          try dsimp only at hSw
          go_simp
          try with_reducible rfl
        try simp only [Act.put]
        refine wpAnyH_take (i := 8) (v := ?_) rfl (by kernel_rfl) (by kernel_rfl) (by kernel_rfl) (fun _ _ _ h => h) (Or.inl ⟨by rfl, ?_⟩) (by assumption) ?_
        rotate_left
        · intro w hSw
          try dsimp only at hSw
          go_simp
          try with_reducible rfl
        try simp only [Act.put]
        refine wpAnyH_take (i := 9) (v := ?_) rfl (by kernel_rfl) (by kernel_rfl) (by kernel_rfl) (fun _ _ _ h => h) (Or.inl ⟨by rfl, ?_⟩) (by assumption) ?_
        rotate_left
        · intro w hSw
          try dsimp only at hSw
          go_simp
          try with_reducible rfl
        try simp only [Act.put]
        refine wpAnyH_take (i := 10) (v := ?_) rfl (by kernel_rfl) (by kernel_rfl) (by kernel_rfl) (fun _ _ _ h => h) (Or.inl ⟨by rfl, ?_⟩) (by assumption) ?_
        rotate_left
        · intro w hSw
          try dsimp only at hSw
          go_simp
          try with_reducible rfl
        try simp only [Act.put]
        refine wpAnyH_take (i := 12) (v := ?_) rfl (by kernel_rfl) (by kernel_rfl) (by kernel_rfl) (fun _ _ _ h => h) (Or.inl ⟨by rfl, ?_⟩) (by assumption) ?_
        rotate_left
        · intro w hSw
          try dsimp only at hSw
          go_simp
          try with_reducible rfl
        try simp only [Act.put]
        refine wpAnyH_ready (rs := [5, 11]) (by kernel_rfl) (by simp) ?_
        refine AllReadyH.cons rfl (fun K hK => ?_) ?_
        · have cc1 := hq.box.cell 1
          go_simp
          clear cc1
          refine hK.out _ _ ?_ (fun hHeld => ?_)
          · first | exact hqF.box.cell 0 | exact hb3.cell 0 | exact hq.box.cell 0
          clear hK K
          try simp only [Act.put, List.setIfInBounds_toArray, List.set_cons_zero, List.set_cons_succ]
          refine wpAnyH_ready (rs := [11]) (by kernel_rfl) (by simp) ?_
          refine AllReadyH.cons rfl (fun K hK => ?_) ?_
          · go_simp
            refine (sizeI_any _ _ _ _ (by omega)).mono ?_
            rintro e wc_ ⟨rfl, rfl⟩
            refine hK.out _ _ ?_ (fun hHeld => ?_)
            · first | exact hqF.box.cell 0 | exact hb3.cell 0 | exact hq.box.cell 0
            clear hK K
            try simp only [Act.put, List.setIfInBounds_toArray, List.set_cons_zero, List.set_cons_succ]
            refine wpAnyH_ready (rs := [13]) (by kernel_rfl) (by simp) ?_
            refine AllReadyH.cons rfl (fun K hK => ?_) ?_
            · go_simp
              refine (HCONF.out _ _ hq.run).mono ?_
              rintro e Wd ⟨L7, a7, R7, d7, rfl, _, _, _, z7⟩
              replace hq := hq.below z7
              clear z7
              refine hK.out _ _ ?_ (fun hHeld => ?_)
              · first | exact hqF.box.cell 0 | exact hb3.cell 0 | exact hq.box.cell 0
              clear hK K
              try simp only [Act.put, List.setIfInBounds_toArray, List.set_cons_zero, List.set_cons_succ]
              refine wpAnyH_take (i := 14) (v := ?_) rfl (by kernel_rfl) (by kernel_rfl) (by kernel_rfl) (fun _ _ _ h => h) (Or.inl ⟨by rfl, ?_⟩) (by assumption) ?_
              rotate_left
              · intro w hSw
                try dsimp only at hSw
                go_simp
                try with_reducible rfl
              try simp only [Act.put, List.setIfInBounds_toArray]
              refine wpAnyH_ready (rs := [15]) (by kernel_rfl) (by simp) ?_
              refine AllReadyH.cons rfl (fun K hK => ?_) ?_
              · go_simp
                have hqd := hq
                replace hq := hq.below ((Below.refl _ _).alloc (Nat.le_refl _) (.cells #[.int .i64 (i : Int), .int .i64 (-1), .int .i64 cc.q, .slice L7 cc.xs.length a7, .slice R7 cc.ys.length d7] 194))
                refine hK.out _ _ ?_ (fun hHeld => ?_)
                · first | exact hqF.box.cell 0 | exact hb3.cell 0 | exact hq.box.cell 0
                clear hK K
                try simp only [Act.put, List.setIfInBounds_toArray, List.set_cons_zero, List.set_cons_succ]
                refine wpAnyH_ready (rs := [16]) (by kernel_rfl) (by simp) ?_
                refine AllReadyH.cons rfl (fun K hK => ?_) ?_
                · rw [if_pos (by rfl)]
                  refine wp_append_Own (.tmp 53) (.tmp 63) rfl elRec (lo := w0.heap.size) rfl hq.recs rfl (Rq.new Wd ⟨(i : Int), -1, cc.q, L7, cc.xs.length, a7, R7, cc.ys.length, d7⟩) (fun u hu => Rq.one [⟨(i : Int), -1, cc.q, L7, cc.xs.length, a7, R7, cc.ys.length, d7⟩] u (by simpa using hu)) (by omega) (by simp only [maxLen]; omega) hq.low.size ?_
                  intro A3 c3 W3 ho3 hg3 hw3
                  have hqF := hq.rec_ (t := ⟨(i : Int), -1, cc.q, L7, cc.xs.length, a7, R7, cc.ys.length, d7⟩) ho3 hg3 hw3.1
                  have hb3 := hq.box.grown hq.recs hg3 (by decide)
                  refine hK.out _ _ ?_ (fun hHeld => ?_)
                  · first | exact hqF.box.cell 0 | exact hb3.cell 0 | exact hq.box.cell 0
                  clear hK K
                  try simp only [Act.put, List.setIfInBounds_toArray]
                  refine wpAnyH_take (i := 17) (v := ?_) rfl (by kernel_rfl) (by kernel_rfl) (by kernel_rfl) (fun _ _ _ h => h) (Or.inl ⟨by rfl, ?_⟩) (by assumption) ?_
                  rotate_left
                  · intro w hSw
                    try dsimp only at hSw
                    go_simp
                    try with_reducible rfl
                  try simp only [Act.put]
                  refine wpAnyH_take (i := 18) (v := ?_) rfl (by kernel_rfl) (by kernel_rfl) (by kernel_rfl) (fun _ _ _ h => h) (Or.inl ⟨by rfl, ?_⟩) (by assumption) ?_
                  rotate_left
                  · intro w hSw
                    try dsimp only at hSw
                    go_simp
                    try with_reducible rfl
                  try simp only [Act.put]
                  refine wpAnyH_take (i := 19) (v := ?_) rfl (by kernel_rfl) (by kernel_rfl) (by kernel_rfl) (fun _ _ _ h => h) (Or.inl ⟨by rfl, ?_⟩) (by assumption) ?_
                  rotate_left
                  · intro w hSw
                    try dsimp only at hSw
                    go_simp
                    try with_reducible rfl
                  try simp only [Act.put]
                  refine wpAnyH_ready (rs := [20]) (by kernel_rfl) (by simp) ?_
                  refine AllReadyH.cons rfl (fun K hK => ?_) ?_
                  · have cc1 := hb3.cell 1
                    have ff1 := hb3.frozen 1
                    go_simp
                    clear cc1 ff1
                    refine hK.out _ _ ?_ (fun hHeld => ?_)
                    · first | exact hqF.box.cell 0 | exact hb3.cell 0 | exact hq.box.cell 0
                    clear hK K
                    try simp only [Act.put, List.setIfInBounds_toArray]
                    refine wpAnyH_done (by kernel_rfl) ?_ _
                    refine NoPanic.normal ?_
                    go_wp2_with fail
                    go_meet
                    exact ⟨A3, c3, _, hqF, rfl⟩
                  exact AllReadyH.nil
                exact AllReadyH.nil
              exact AllReadyH.nil
            exact AllReadyH.nil
          exact AllReadyH.nil
        refine AllReadyH.cons rfl (fun K hK => ?_) ?_
        · go_simp
          refine (sizeI_any _ _ _ _ (by omega)).mono ?_
          rintro e wc_ ⟨rfl, rfl⟩
          refine hK.out _ _ ?_ (fun hHeld => ?_)
          · first | exact hqF.box.cell 0 | exact hb3.cell 0 | exact hq.box.cell 0
          clear hK K
          try simp only [Act.put, List.setIfInBounds_toArray, List.set_cons_zero, List.set_cons_succ]
          refine wpAnyH_ready (rs := [5, 13]) (by kernel_rfl) (by simp) ?_
          refine AllReadyH.cons rfl (fun K hK => ?_) ?_
          · have cc1 := hq.box.cell 1
            go_simp
            clear cc1
            refine hK.out _ _ ?_ (fun hHeld => ?_)
            · first | exact hqF.box.cell 0 | exact hb3.cell 0 | exact hq.box.cell 0
            clear hK K
            try simp only [Act.put, List.setIfInBounds_toArray, List.set_cons_zero, List.set_cons_succ]
            refine wpAnyH_ready (rs := [13]) (by kernel_rfl) (by simp) ?_
            refine AllReadyH.cons rfl (fun K hK => ?_) ?_
            · go_simp
              refine (HCONF.out _ _ hq.run).mono ?_
              rintro e Wd ⟨L7, a7, R7, d7, rfl, _, _, _, z7⟩
              replace hq := hq.below z7
              clear z7
              refine hK.out _ _ ?_ (fun hHeld => ?_)
              · first | exact hqF.box.cell 0 | exact hb3.cell 0 | exact hq.box.cell 0
              clear hK K
              try simp only [Act.put, List.setIfInBounds_toArray, List.set_cons_zero, List.set_cons_succ]
              refine wpAnyH_take (i := 14) (v := ?_) rfl (by kernel_rfl) (by kernel_rfl) (by kernel_rfl) (fun _ _ _ h => h) (Or.inl ⟨by rfl, ?_⟩) (by assumption) ?_
              rotate_left
              · intro w hSw
                try dsimp only at hSw
                go_simp
                try with_reducible rfl
              try simp only [Act.put, List.setIfInBounds_toArray]
              refine wpAnyH_ready (rs := [15]) (by kernel_rfl) (by simp) ?_
              refine AllReadyH.cons rfl (fun K hK => ?_) ?_
              · go_simp
                have hqd := hq
                replace hq := hq.below ((Below.refl _ _).alloc (Nat.le_refl _) (.cells #[.int .i64 (i : Int), .int .i64 (-1), .int .i64 cc.q, .slice L7 cc.xs.length a7, .slice R7 cc.ys.length d7] 194))
                refine hK.out _ _ ?_ (fun hHeld => ?_)
                · first | exact hqF.box.cell 0 | exact hb3.cell 0 | exact hq.box.cell 0
                clear hK K
                try simp only [Act.put, List.setIfInBounds_toArray, List.set_cons_zero, List.set_cons_succ]
                refine wpAnyH_ready (rs := [16]) (by kernel_rfl) (by simp) ?_
                refine AllReadyH.cons rfl (fun K hK => ?_) ?_
                · rw [if_pos (by rfl)]
                  refine wp_append_Own (.tmp 53) (.tmp 63) rfl elRec (lo := w0.heap.size) rfl hq.recs rfl (Rq.new Wd ⟨(i : Int), -1, cc.q, L7, cc.xs.length, a7, R7, cc.ys.length, d7⟩) (fun u hu => Rq.one [⟨(i : Int), -1, cc.q, L7, cc.xs.length, a7, R7, cc.ys.length, d7⟩] u (by simpa using hu)) (by omega) (by simp only [maxLen]; omega) hq.low.size ?_
                  intro A3 c3 W3 ho3 hg3 hw3
                  have hqF := hq.rec_ (t := ⟨(i : Int), -1, cc.q, L7, cc.xs.length, a7, R7, cc.ys.length, d7⟩) ho3 hg3 hw3.1
                  have hb3 := hq.box.grown hq.recs hg3 (by decide)
                  refine hK.out _ _ ?_ (fun hHeld => ?_)
                  · first | exact hqF.box.cell 0 | exact hb3.cell 0 | exact hq.box.cell 0
                  clear hK K
                  try simp only [Act.put, List.setIfInBounds_toArray]
                  refine wpAnyH_take (i := 17) (v := ?_) rfl (by kernel_rfl) (by kernel_rfl) (by kernel_rfl) (fun _ _ _ h => h) (Or.inl ⟨by rfl, ?_⟩) (by assumption) ?_
                  rotate_left
                  · intro w hSw
                    try dsimp only at hSw
                    go_simp
                    try with_reducible rfl
                  try simp only [Act.put]
                  refine wpAnyH_take (i := 18) (v := ?_) rfl (by kernel_rfl) (by kernel_rfl) (by kernel_rfl) (fun _ _ _ h => h) (Or.inl ⟨by rfl, ?_⟩) (by assumption) ?_
                  rotate_left
                  · intro w hSw
                    try dsimp only at hSw
                    go_simp
                    try with_reducible rfl
                  try simp only [Act.put]
                  refine wpAnyH_take (i := 19) (v := ?_) rfl (by kernel_rfl) (by kernel_rfl) (by kernel_rfl) (fun _ _ _ h => h) (Or.inl ⟨by rfl, ?_⟩) (by assumption) ?_
                  rotate_left
                  · intro w hSw
                    try dsimp only at hSw
                    go_simp
                    try with_reducible rfl
                  try simp only [Act.put]
                  refine wpAnyH_ready (rs := [20]) (by kernel_rfl) (by simp) ?_
                  refine AllReadyH.cons rfl (fun K hK => ?_) ?_
                  · have cc1 := hb3.cell 1
                    have ff1 := hb3.frozen 1
                    go_simp
                    clear cc1 ff1
                    refine hK.out _ _ ?_ (fun hHeld => ?_)
                    · first | exact hqF.box.cell 0 | exact hb3.cell 0 | exact hq.box.cell 0
                    clear hK K
                    try simp only [Act.put, List.setIfInBounds_toArray]
                    refine wpAnyH_done (by kernel_rfl) ?_ _
                    refine NoPanic.normal ?_
                    go_wp2_with fail
                    go_meet
                    exact ⟨A3, c3, _, hqF, rfl⟩
                  exact AllReadyH.nil
                exact AllReadyH.nil
              exact AllReadyH.nil
            exact AllReadyH.nil
          refine AllReadyH.cons rfl (fun K hK => ?_) ?_
          · go_simp
            refine (HCONF.out _ _ hq.run).mono ?_
            rintro e Wd ⟨L7, a7, R7, d7, rfl, _, _, _, z7⟩
            replace hq := hq.below z7
            clear z7
            refine hK.out _ _ ?_ (fun hHeld => ?_)
            · first | exact hqF.box.cell 0 | exact hb3.cell 0 | exact hq.box.cell 0
            clear hK K
            try simp only [Act.put, List.setIfInBounds_toArray, List.set_cons_zero, List.set_cons_succ]
            refine wpAnyH_take (i := 14) (v := ?_) rfl (by kernel_rfl) (by kernel_rfl) (by kernel_rfl) (fun _ _ _ h => h) (Or.inl ⟨by rfl, ?_⟩) (by assumption) ?_
            rotate_left
            · intro w hSw
              try dsimp only at hSw
              go_simp
              try with_reducible rfl
            try simp only [Act.put, List.setIfInBounds_toArray]
            refine wpAnyH_ready (rs := [5, 15]) (by kernel_rfl) (by simp) ?_
            refine AllReadyH.cons rfl (fun K hK => ?_) ?_
            · have cc1 := hq.box.cell 1
              go_simp
              clear cc1
              refine hK.out _ _ ?_ (fun hHeld => ?_)
              · first | exact hqF.box.cell 0 | exact hb3.cell 0 | exact hq.box.cell 0
              clear hK K
              try simp only [Act.put, List.setIfInBounds_toArray, List.set_cons_zero, List.set_cons_succ]
              refine wpAnyH_ready (rs := [15]) (by kernel_rfl) (by simp) ?_
              refine AllReadyH.cons rfl (fun K hK => ?_) ?_
              · go_simp
                have hqd := hq
                replace hq := hq.below ((Below.refl _ _).alloc (Nat.le_refl _) (.cells #[.int .i64 (i : Int), .int .i64 (-1), .int .i64 cc.q, .slice L7 cc.xs.length a7, .slice R7 cc.ys.length d7] 194))
                refine hK.out _ _ ?_ (fun hHeld => ?_)
                · first | exact hqF.box.cell 0 | exact hb3.cell 0 | exact hq.box.cell 0
                clear hK K
                try simp only [Act.put, List.setIfInBounds_toArray, List.set_cons_zero, List.set_cons_succ]
                refine wpAnyH_ready (rs := [16]) (by kernel_rfl) (by simp) ?_
                refine AllReadyH.cons rfl (fun K hK => ?_) ?_
                · rw [if_pos (by rfl)]
                  refine wp_append_Own (.tmp 53) (.tmp 63) rfl elRec (lo := w0.heap.size) rfl hq.recs rfl (Rq.new Wd ⟨(i : Int), -1, cc.q, L7, cc.xs.length, a7, R7, cc.ys.length, d7⟩) (fun u hu => Rq.one [⟨(i : Int), -1, cc.q, L7, cc.xs.length, a7, R7, cc.ys.length, d7⟩] u (by simpa using hu)) (by omega) (by simp only [maxLen]; omega) hq.low.size ?_
                  intro A3 c3 W3 ho3 hg3 hw3
                  have hqF := hq.rec_ (t := ⟨(i : Int), -1, cc.q, L7, cc.xs.length, a7, R7, cc.ys.length, d7⟩) ho3 hg3 hw3.1
                  have hb3 := hq.box.grown hq.recs hg3 (by decide)
                  refine hK.out _ _ ?_ (fun hHeld => ?_)
                  · first | exact hqF.box.cell 0 | exact hb3.cell 0 | exact hq.box.cell 0
                  clear hK K
                  try simp only [Act.put, List.setIfInBounds_toArray]
                  refine wpAnyH_take (i := 17) (v := ?_) rfl (by kernel_rfl) (by kernel_rfl) (by kernel_rfl) (fun _ _ _ h => h) (Or.inl ⟨by rfl, ?_⟩) (by assumption) ?_
                  rotate_left
                  · intro w hSw
                    try dsimp only at hSw
                    go_simp
                    try with_reducible rfl
                  try simp only [Act.put]
                  refine wpAnyH_take (i := 18) (v := ?_) rfl (by kernel_rfl) (by kernel_rfl) (by kernel_rfl) (fun _ _ _ h => h) (Or.inl ⟨by rfl, ?_⟩) (by assumption) ?_
                  rotate_left
                  · intro w hSw
                    try dsimp only at hSw
                    go_simp
                    try with_reducible rfl
                  try simp only [Act.put]
                  refine wpAnyH_take (i := 19) (v := ?_) rfl (by kernel_rfl) (by kernel_rfl) (by kernel_rfl) (fun _ _ _ h => h) (Or.inl ⟨by rfl, ?_⟩) (by assumption) ?_
                  rotate_left
                  · intro w hSw
                    try dsimp only at hSw
                    go_simp
                    try with_reducible rfl
                  try simp only [Act.put]
                  refine wpAnyH_ready (rs := [20]) (by kernel_rfl) (by simp) ?_
                  refine AllReadyH.cons rfl (fun K hK => ?_) ?_
                  · have cc1 := hb3.cell 1
                    have ff1 := hb3.frozen 1
                    go_simp
                    clear cc1 ff1
                    refine hK.out _ _ ?_ (fun hHeld => ?_)
                    · first | exact hqF.box.cell 0 | exact hb3.cell 0 | exact hq.box.cell 0
                    clear hK K
                    try simp only [Act.put, List.setIfInBounds_toArray]
                    refine wpAnyH_done (by kernel_rfl) ?_ _
                    refine NoPanic.normal ?_
                    go_wp2_with fail
                    go_meet
                    exact ⟨A3, c3, _, hqF, rfl⟩
                  exact AllReadyH.nil
                exact AllReadyH.nil
              exact AllReadyH.nil
            refine AllReadyH.cons rfl (fun K hK => ?_) ?_
            · go_simp
              have hqd := hq
              replace hq := hq.below ((Below.refl _ _).alloc (Nat.le_refl _) (.cells #[.int .i64 (i : Int), .int .i64 (-1), .int .i64 cc.q, .slice L7 cc.xs.length a7, .slice R7 cc.ys.length d7] 194))
              refine hK.out _ _ ?_ (fun hHeld => ?_)
              · first | exact hqF.box.cell 0 | exact hb3.cell 0 | exact hq.box.cell 0
              clear hK K
              try simp only [Act.put, List.setIfInBounds_toArray, List.set_cons_zero, List.set_cons_succ]
              refine wpAnyH_ready (rs := [5]) (by kernel_rfl) (by simp) ?_
              refine AllReadyH.cons rfl (fun K hK => ?_) ?_
              · have cc1 := hq.box.cell 1
                go_simp
                clear cc1
                refine hK.out _ _ ?_ (fun hHeld => ?_)
                · first | exact hqF.box.cell 0 | exact hb3.cell 0 | exact hq.box.cell 0
                clear hK K
                try simp only [Act.put, List.setIfInBounds_toArray, List.set_cons_zero, List.set_cons_succ]
                refine wpAnyH_ready (rs := [16]) (by kernel_rfl) (by simp) ?_
                refine AllReadyH.cons rfl (fun K hK => ?_) ?_
                · rw [if_pos (by rfl)]
                  refine wp_append_Own (.tmp 53) (.tmp 63) rfl elRec (lo := w0.heap.size) rfl hq.recs rfl (Rq.new Wd ⟨(i : Int), -1, cc.q, L7, cc.xs.length, a7, R7, cc.ys.length, d7⟩) (fun u hu => Rq.one [⟨(i : Int), -1, cc.q, L7, cc.xs.length, a7, R7, cc.ys.length, d7⟩] u (by simpa using hu)) (by omega) (by simp only [maxLen]; omega) hq.low.size ?_
                  intro A3 c3 W3 ho3 hg3 hw3
                  have hqF := hq.rec_ (t := ⟨(i : Int), -1, cc.q, L7, cc.xs.length, a7, R7, cc.ys.length, d7⟩) ho3 hg3 hw3.1
                  have hb3 := hq.box.grown hq.recs hg3 (by decide)
                  refine hK.out _ _ ?_ (fun hHeld => ?_)
                  · first | exact hqF.box.cell 0 | exact hb3.cell 0 | exact hq.box.cell 0
                  clear hK K
                  try simp only [Act.put, List.setIfInBounds_toArray]
                  refine wpAnyH_take (i := 17) (v := ?_) rfl (by kernel_rfl) (by kernel_rfl) (by kernel_rfl) (fun _ _ _ h => h) (Or.inl ⟨by rfl, ?_⟩) (by assumption) ?_
                  rotate_left
                  · intro w hSw
                    try dsimp only at hSw
                    go_simp
                    try with_reducible rfl
                  try simp only [Act.put]
                  refine wpAnyH_take (i := 18) (v := ?_) rfl (by kernel_rfl) (by kernel_rfl) (by kernel_rfl) (fun _ _ _ h => h) (Or.inl ⟨by rfl, ?_⟩) (by assumption) ?_
                  rotate_left
                  · intro w hSw
                    try dsimp only at hSw
                    go_simp
                    try with_reducible rfl
                  try simp only [Act.put]
                  refine wpAnyH_take (i := 19) (v := ?_) rfl (by kernel_rfl) (by kernel_rfl) (by kernel_rfl) (fun _ _ _ h => h) (Or.inl ⟨by rfl, ?_⟩) (by assumption) ?_
                  rotate_left
                  · intro w hSw
                    try dsimp only at hSw
                    go_simp
                    try with_reducible rfl
                  try simp only [Act.put]
                  refine wpAnyH_ready (rs := [20]) (by kernel_rfl) (by simp) ?_
                  refine AllReadyH.cons rfl (fun K hK => ?_) ?_
                  · have cc1 := hb3.cell 1
                    have ff1 := hb3.frozen 1
                    go_simp
                    clear cc1 ff1
                    refine hK.out _ _ ?_ (fun hHeld => ?_)
                    · first | exact hqF.box.cell 0 | exact hb3.cell 0 | exact hq.box.cell 0
                    clear hK K
                    try simp only [Act.put, List.setIfInBounds_toArray]
                    refine wpAnyH_done (by kernel_rfl) ?_ _
                    refine NoPanic.normal ?_
                    go_wp2_with fail
                    go_meet
                    exact ⟨A3, c3, _, hqF, rfl⟩
                  exact AllReadyH.nil
                exact AllReadyH.nil
              exact AllReadyH.nil
            exact AllReadyH.nil
          exact AllReadyH.nil
        exact AllReadyH.nil
      case rest =>
        obtain ⟨A2, c2, t, hq2, ht⟩ := hcut
        have HV2 : Hid ((rq ++ [t]).map Rq.val = (exF sy rs c0 (i + 1)).2.2) := Lib.hid (by rw [HEX.out, List.map_append, HV.out, List.map_cons, ht.out]; rfl)
        have HL2 : Hid ((exF sy rs c0 (i + 1)).1 = p) := Lib.hid (by rw [HEX.out])
        have HU2 : Hid ((exF sy rs c0 (i + 1)).2.1 = u) := Lib.hid (by rw [HEX.out])
        clear ht
        have x0 := hq2.box.cell 0
        have hq3 := hq2.below ((Below.refl _ _).alloc (Nat.le_refl _) (.cells #[.int .i64 p] 2))
        go_wp2_with (at_builtin; refine wpList_append_Own rfl (.tmp 73) (.tmp 75) rfl elI (lo := w0.heap.size) rfl hq3.pos rfl (Rd.new1 _ (.int .i64 p) _) (by simp [Value.oneCell']) (by omega) (by simp only [maxLen]; omega) hq3.low.size ?_; intro A5 c5 w5 ho5 hg5 hw5; have hb5 := hq3.box.grown hq3.pos hg5 (by decide); have y0 := hb5.cell 0; have g0 := hb5.frozen 0)
        rw [ints_snoc] at ho5
        have hqE := hq3.pos_ ho5 hg5 hw5.1
        go_wp2_with fail
        exact bodyPost_end (results_none rfl _ _ _) rfl ⟨⟨_, rfl⟩, HFIN.out cc _ _ _ _ _ _ _ _ rfl HL2.out HU2.out HV2.out hqE⟩
    · have HEX : Hid (exF sy rs c0 (i + 1) = (l, u, rcs)) := Lib.hid (by rw [HE.out, if_neg hup, if_neg hdn])
      have HV2 : Hid (rq.map Rq.val = (exF sy rs c0 (i + 1)).2.2) := Lib.hid (by rw [HEX.out, HV.out])
      have HL2 : Hid ((exF sy rs c0 (i + 1)).1 = l) := Lib.hid (by rw [HEX.out])
      have HU2 : Hid ((exF sy rs c0 (i + 1)).2.1 = u) := Lib.hid (by rw [HEX.out])
      have hq3 := hq.below ((Below.refl _ _).alloc (Nat.le_refl _) (.cells #[.int .i64 p] 2))
      go_enter Try.func247, Try.ntmps247
      go_wp2_with (at_builtin; refine wpList_append_Own rfl (.tmp 73) (.tmp 75) rfl elI (lo := w0.heap.size) rfl hq3.pos rfl (Rd.new1 _ (.int .i64 p) _) (by simp [Value.oneCell']) (by omega) (by simp only [maxLen]; omega) hq3.low.size ?_; intro A5 c5 w5 ho5 hg5 hw5; have hb5 := hq3.box.grown hq3.pos hg5 (by decide); have y0 := hb5.cell 0; have g0 := hb5.frozen 0)
      rw [ints_snoc] at ho5
      have hqE := hq3.pos_ ho5 hg5 hw5.1
      go_wp2_with fail
      exact bodyPost_end (results_none rfl _ _ _) rfl ⟨⟨_, rfl⟩, HFIN.out cc _ _ _ _ _ _ _ _ rfl HL2.out HU2.out HV2.out hqE⟩
end Go.Proofs.Ythipbeggaeogcaa
