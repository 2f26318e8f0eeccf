/-
  Contract of the reference's TraceCyclic.
-/
import Derived.Test.YthipbeggaeogcaaTrCycP
import Derived.Test.YthipbeggaeogcaaRunCycS
import Derived.Deep.DeepCutAuto
namespace Go.Proofs.Ythipbeggaeogcaa
open Go.RowKit

theorem OTs.set_turn {w : World} {lo n c g i : Nat} {A : Option Addr} {ts : List Tm} {cur : Array Value} (h : OTs w lo A n c ts) (hb : Blk w g 30 cur) (hA : blk A ≠ some g) (u : Value) : OTs (w.setCell ⟨g, i, none⟩ u) lo A n c ts := OTs.set_cfg h hb hA u

set_option maxRecDepth 100000 in
set_option maxHeartbeats 8000000 in
theorem traceCycS_any (A : Option Addr) (n c : Nat) (ts : List Sl) (a : Int) (C : Option Addr) (l r : Nat) (xs : List Int) (b : Int) (w : World) (hx : SII w A n ts) (hz : SI w C l xs) (hn : n ≤ 1048576) (hns : ∀ t ∈ ts, t.xs.length ≤ 1048576) (hl : l ≤ 1048576) :
    Calls Try.prog 25 #[.agg #[.slice A n c], .agg #[.int .i64 a, .slice C l r], .int .i64 b] w (NewTs w (traceCycF (nums ts) ⟨a, xs⟩ b)) := by
  obtain rfl : xs.length = l := hz.len
  obtain ⟨x, hx_⟩ : ∃ x : Tu, x = ⟨a, xs⟩ := ⟨_, rfl⟩
  obtain ⟨s, hs_⟩ : ∃ s, s = cycSys (nums ts) := ⟨_, rfl⟩
  rw [← hx_]
  have HS := Lib.hid hs_
  have HX := Lib.hid hx_
  clear hs_ hx_
  obtain ⟨W, hW_⟩ : ∃ W, W = (w.alloc (.cells #[.slice A n c] 33)).alloc (.cells #[.int .i64 a, .slice C xs.length r] 30) := ⟨_, rfl⟩
  have s_1 : (w.alloc (.cells #[.slice A n c] 33)).heap.size = w.heap.size + 1 := by simp
  have b0 : Blk W w.heap.size 33 #[.slice A n c] := by rw [hW_]; exact (Blk.new w _ _).alloc _
  have b1 : Blk W (w.heap.size + 1) 30 #[.int .i64 a, .slice C xs.length r] := by rw [hW_, ← s_1]; exact Blk.new _ _ _
  have y0 : Below w.heap.size w W := by rw [hW_]; exact ((Below.refl _ _).alloc (Nat.le_refl _) _).alloc (by simp) _
  have HW := Lib.hid hW_
  clear hW_ s_1
  have ht : CyclAt W w.heap.size A n c := b0.cell 0
  have hf : TurnAt W (w.heap.size + 1) a C xs.length r := ⟨b1.cell 0, b1.cell 1⟩
  go_enter Try.func25, Try.ntmps25
  go_wp2_with fail
  rw [← HW.out]
  refine (l09AskCyclic_any _ _ _ _ _ ts _ _ _ _ xs _ ht hf (hx.below y0) (hz.below y0) hn hl hns).mono ?_
  rintro e w' ⟨rfl, q, rfl⟩
  have y2 := below_drewN y0 q
  have t2 : CyclAt (W.drewN q) w.heap.size A n c := ht
  have c1 := b1.drewN q
  generalize W.drewN q = w2 at *
  have hg2 : w.heap.size + 1 < w2.heap.size := c1.lt
  rw [← HX.out]
  cases a1 : validTurnB (nums ts) x
  · have HF := Lib.hid (traceCycF_bad (b := b) a1)
    clear a1
    rw [if_neg (by decide)]
    go_wp2_with fail
    exact bodyPost_ret (v := .tuple #[.slice none 0 0, .int .i64 1]) (by simp [results, Try.results25, go_sem]) rfl (newTs_nil HF.out y2)
  rw [if_pos rfl]
  have A1 := Lib.hid a1
  have h6 : xs.length ≤ 1000 := by have := (validTurn_parts a1).2.2.2.2.2.1; rwa [HX.out] at this
  clear a1
  cases a2 : inB b 0 60
  · have HF := Lib.hid (traceCycF_range A1.out a2)
    have A2 := Lib.hid a2
    clear a2
    go_wp2_with (go_at_call 82; refine (l00In_is A2.out _).mono ?_; rintro e w' ⟨rfl, rfl⟩)
    exact bodyPost_ret (v := .tuple #[.slice none 0 0, .int .i64 2]) (by simp [results, Try.results25, go_sem]) rfl (newTs_nil HF.out y2)
  have A2 := Lib.hid a2
  have hb := (inB_iff _ _ _).1 a2
  obtain ⟨N, rfl⟩ : ∃ N : Nat, b = (N : Int) := ⟨b.toNat, by omega⟩
  clear a2
  have hq := hz.below y2
  have KEEP : Hid (∀ cur, Below w2.heap.size w2 cur → cur.cell? ⟨w.heap.size + 1, 0, none⟩ = some (.int .i64 a) ∧ cur.cell? ⟨w.heap.size + 1, 1, none⟩ = some (.slice C xs.length r)) := fun cur h =>
    ⟨(c1.below' h).cell 0, (c1.below' h).cell 1⟩
  have p0 : w2.cell? ⟨(w.heap.size + 1), 0, none⟩ = some (.int .i64 a) := c1.cell 0
  have p1 : w2.cell? ⟨(w.heap.size + 1), 1, none⟩ = some (.slice C xs.length r) := c1.cell 1
  go_upto_region 6 with (go_at_call 82; refine (l00In_is A2.out _).mono ?_; rintro e w' ⟨rfl, rfl⟩)
  go_cut [9] (fun s9 wx => ∃ k0 L1 a1, s9 = .slice (some ⟨k0, 0, none⟩) 1 1 ∧ OTs wx w2.heap.size (some ⟨k0, 0, none⟩) 1 1 [⟨a, L1, a1, xs⟩] ∧ Below w2.heap.size w2 wx)
  case first =>
    go_region_held3 (fun w' => w'.cell? ⟨w.heap.size + 1, 0, none⟩ = some (.int .i64 a) ∧ w'.cell? ⟨w.heap.size + 1, 1, none⟩ = some (.slice C xs.length r))
      (first
        | (go_keep; done)
        | (exact KEEP.out _ zz)
        | (exact KEEP.out _ (zz.alloc zz.size _)))
      (first
        | (go_at_call 83; refine (l00Own_any _ _ _ xs _ (by exact hq.drewN _) (by omega)).mono ?_; rintro e w' ⟨A2', c2', rfl, ho, hb'⟩
           have zz : Below w2.heap.size w2 w' := below_undrew hb'))
    all_goals
      go_wp2_with fail
      go_meet
      have hs : Own (w'.alloc (.cells #[.int .i64 a, .slice A2' xs.length c2'] 30)) w2.heap.size 30 2 (some ⟨w'.heap.size, 0, none⟩) 1 1 ([⟨a, A2', c2', xs⟩].flatMap Tm.cells) :=
        Own.lit w' #[.int .i64 a, .slice A2' xs.length c2'] _ 1 2 w2.heap.size rfl (by simp [maxLen]) zz.size
      exact ⟨w'.heap.size, A2', c2', rfl, OTs.one hs (ho.alloc _), zz.alloc zz.size _⟩
  case rest =>
    obtain ⟨k0, L1, a1, rfl, hO6, z6⟩ := hcut
    obtain ⟨w6, hw6⟩ : ∃ w6, w6 = wc := ⟨_, rfl⟩
    subst hw6
    have hk0 := hO6.spine.blk_lt k0 rfl
    have c16 := c1.below' z6
    have hq6 := hq.below z6
    have y6 := y2.trans (z6.mono y2.size)
    have KEEP6 : Hid (∀ cur, Below w6.heap.size w6 cur → cur.cell? ⟨w.heap.size + 1, 0, none⟩ = some (.int .i64 a) ∧ cur.cell? ⟨w.heap.size + 1, 1, none⟩ = some (.slice C xs.length r)) := fun cur h =>
      ⟨(c16.below' h).cell 0, (c16.below' h).cell 1⟩
    have ZA : Hid (∀ q, Below w6.heap.size w6 ((w6.drewN q).alloc (.cells #[.int .i64 0, .slice none 0 0] 30))) := Lib.hid fun q => (below_drewN (Below.refl _ _) q).alloc (Nat.le_refl _) _
    clear p0 p1
    have p0 : w6.cell? ⟨(w.heap.size + 1), 0, none⟩ = some (.int .i64 a) := c16.cell 0
    have p1 : w6.cell? ⟨(w.heap.size + 1), 1, none⟩ = some (.slice C xs.length r) := c16.cell 1
    go_upto_region 7 with fail
    go_cut [10] (fun s10 wx => ∃ k Q2 r2, s10 = .pointer (some ⟨k, 0, none⟩) ∧ w6.heap.size ≤ k ∧ Blk wx k 30 #[.int .i64 a, .slice Q2 xs.length r2] ∧ Own wx w6.heap.size 2 1 Q2 xs.length r2 (ints xs) ∧ Below w6.heap.size w6 wx)
    case first =>
      go_region_held3 (fun w' => w'.cell? ⟨w.heap.size + 1, 0, none⟩ = some (.int .i64 a) ∧ w'.cell? ⟨w.heap.size + 1, 1, none⟩ = some (.slice C xs.length r))
        (first
          | (go_keep; done)
          | (exact KEEP6.out _ zz)
          | (exact KEEP6.out _ (zz.alloc zz.size _))
          | (exact KEEP6.out _ (ZA.out _))
          | (exact KEEP6.out _ ((zz.setCell (Nat.le_refl _) _).setCell (Nat.le_refl _) _)))
        (first
          | (go_at_call 83; refine (l00Own_any _ _ _ xs _ (by first | exact hq6.drewN _ | exact (hq6.drewN _).alloc _) (by omega)).mono ?_; rintro e w' ⟨A2', c2', rfl, ho, hb'⟩
             first
               | (have zz : Below w6.heap.size w6 w' := below_undrew hb')
               | (have zz : Below w6.heap.size w6 w' := (ZA.out _).trans (hb'.mono (by simp))
                  have ba : Blk w' w6.heap.size 30 #[.int .i64 0, .slice none 0 0] := (Blk.new w6 30 #[.int .i64 0, .slice none 0 0]).below' (below_undrew (n := 1) hb')
                  have p0 : w'.cell? ⟨w6.heap.size, 0, none⟩ = some (.int .i64 0) := ba.cell 0
                  have p1 : w'.cell? ⟨w6.heap.size, 1, none⟩ = some (.slice none 0 0) := ba.cell 1
                  have q0 := ba.frozen 0
                  have q1 := ba.frozen 1)))
      all_goals
        go_wp2_with fail
        go_meet
        first
          | exact ⟨w6.heap.size, A2', c2', rfl, Nat.le_refl _, turn_set ba _ _, (turn_far ho (by simp) _ _).mono (by simp), turn_below zz (Nat.le_refl _) _ _⟩
          | exact ⟨w'.heap.size, A2', c2', rfl, zz.size, Blk.new w' _ _, (ho.alloc _).mono (by simp), zz.alloc zz.size _⟩
    case rest =>
      obtain ⟨k, Q2, r2, rfl, hk, hB, hO, hZ⟩ := hcut
      have hx0 : x.at_ = a ∧ x.word = xs := by rw [HX.out]; exact ⟨rfl, rfl⟩
      clear p0 p1
      have HG : Hid (∀ i, s.Alive x i → validTurnB (nums ts) (s.it x i) = true ∧ (s.it x i).word.length ≤ 1000) := Lib.hid (fun i hi => by
        rw [HS.out] at hi ⊢
        have h1 := cycAlive_good A1.out hi
        exact ⟨h1, (validTurn_parts h1).2.2.2.2.2.1⟩)
      have hkA : blk (some ⟨k0, 0, none⟩) ≠ some k := by simp [blk]; omega
      have hO7 := hO6.below hZ
      have hY7 : Below w2.heap.size w2 _ := z6.trans (hZ.mono z6.size)
      have hw26 := z6.size
      have htu : Hid (tus [⟨a, L1, a1, xs⟩] = tusTo s x 1) := Lib.hid (by simp [tus, tusTo, Tm.tu, Sys.it, HX.out])
      have hB0 : Blk wc k 30 #[.int .i64 (s.it x 0).at_, .slice Q2 (s.it x 0).word.length r2] := by
        show Blk _ k _ #[.int .i64 x.at_, .slice Q2 x.word.length r2]; rw [hx0.1, hx0.2]; exact hB
      have hO0 : Own wc w2.heap.size 2 1 Q2 (s.it x 0).word.length r2 (ints (s.it x 0).word) := by
        show Own _ _ _ _ _ x.word.length _ (ints x.word); rw [hx0.2]; exact hO.mono hw26
      generalize ([⟨a, L1, a1, xs⟩] : List Tm) = us0 at *
      clear hB hO hO6 z6 hZ KEEP KEEP6 ZA c16 hq6
      go_wp2_with fail
      go_loopw [2, 9] (fun sn v wr => ∃ (i : Nat) (A' : Option Addr) (a' : Nat) (us : List Tm) (Q : Option Addr) (cq : Nat), sn = .int .i64 ((N : Int) - (i : Int)) ∧ v = .slice A' (i + 1) a' ∧ i ≤ N ∧ s.Alive x i ∧ OTs wr w2.heap.size A' (i + 1) a' us ∧ Hid (tus us = tusTo s x (i + 1)) ∧ Blk wr k 30 #[.int .i64 (s.it x i).at_, .slice Q (s.it x i).word.length cq] ∧ Own wr w2.heap.size 2 1 Q (s.it x i).word.length cq (ints (s.it x i).word) ∧ Hid (blk A' ≠ some k) ∧ Below w2.heap.size w2 wr) (fun sn _ _ => (intOf sn).toNat)
      case atStart => exact ⟨0, _, 1, us0, Q2, r2, by simp, rfl, Nat.zero_le _, Sys.Alive.zero _ _, hO7, htu, hB0, hO0, hkA, hY7⟩
      case round =>
        obtain ⟨i, A', a', us, Q, cq, rfl, rfl, hi, hal, hO, hcf, hB, hQ, hAf, hY⟩ := hrel
        obtain ⟨hvi, hlen⟩ := HG.out i hal
        have HAL := Lib.hid hal
        have HVI := Lib.hid hvi
        clear hal hvi hO7 htu hB0 hO0 hkA hY7 hk0
        have hcap := hQ.le
        have z0 : wr.cell? ⟨k, 0, none⟩ = some (.int .i64 (s.it x i).at_) := hB.cell 0
        have z1 : wr.cell? ⟨k, 1, none⟩ = some (.slice Q (s.it x i).word.length cq) := hB.cell 1
        have yY := y2.trans (hY.mono y2.size)
        by_cases hlt : i < N
        rotate_left
        · have hgt : decide ((0 : Int) < (N : Int) - (i : Int)) = false := by simp; omega
          have hiN : i = N := by omega
          have HE : Hid ((cycSys (nums ts)).Ended x N i) := Lib.hid (by rw [← HS.out]; exact ⟨hi, HAL.out, .inl hiN⟩)
          have HF := Lib.hid (traceCycF_ended A1.out A2.out HE.out)
          have HCF : Hid (tus us = tusTo (cycSys (nums ts)) x (i + 1)) := Lib.hid (by rw [← HS.out]; exact hcf.out)
          clear hiN
          go_wp2_with fail
          exact bodyPost_ret (v := .tuple #[.slice A' (i + 1) a', .int .i64 0]) (by simp [results, Try.results25, go_sem]) rfl (newTs_of HF.out HCF.out (hO.mono y2.size) yY)
        have hgt : decide ((0 : Int) < (N : Int) - (i : Int)) = true := by simp; omega
        by_cases hh : (s.it x i).word.length = 0
        · have hd : ¬ 0 < (s.it x i).word.length := by omega
          have HE : Hid ((cycSys (nums ts)).Ended x N i) := Lib.hid (by
            rw [← HS.out]
            refine ⟨hi, HAL.out, .inr ?_⟩
            rw [HS.out] at hh ⊢
            show decide (((cycSys (nums ts)).it x i).word.length = 0) = true
            simpa using hh)
          have HF := Lib.hid (traceCycF_ended A1.out A2.out HE.out)
          have HCF : Hid (tus us = tusTo (cycSys (nums ts)) x (i + 1)) := Lib.hid (by rw [← HS.out]; exact hcf.out)
          clear hh
          go_wp2_with fail
          refine bodyPost_ret (v := .tuple #[.slice A' (i + 1) a', .int .i64 0]) ?_ rfl ?_
          · simp [results, Try.results25, go_sem]
          · exact newTs_of HF.out HCF.out (hO.mono y2.size) yY
        have hd : 0 < (s.it x i).word.length := by omega
        have HH : Hid (s.halt (s.it x i) = false) := Lib.hid (by
          rw [HS.out] at hh ⊢
          show decide (((cycSys (nums ts)).it x i).word.length = 0) = false
          simpa using hh)
        have hstep := l09Next_g (f := k) (C := Q) (r := cq) (x := s.it x i) (t2.below hY) ⟨hB.cell 0, hB.cell 1⟩ ((hx.below y2).below hY) hQ.rd HVI.out (by rw [← HS.out]; exact HH.out) hcap
        rw [← HS.out] at hstep
        have HSTEP := Lib.hid hstep
        clear hstep hh
        go_wp2_with fail
        refine HSTEP.out.mono ?_
        rintro e W3 ⟨Q3, c3, rfl, ho3, hb3⟩
        have hY3 : Below w2.heap.size w2 W3 := hY.trans (hb3.mono hY.size)
        have HNX : Hid (s.it x (i + 1) = s.next (s.it x i)) := Lib.hid rfl
        have hvn : s.room (s.it x i) = true → (s.next (s.it x i)).word.length ≤ 1000 := fun h => (HG.out (i + 1) (HAL.out.step HH.out h)).2
        have HVN := Lib.hid hvn
        clear hvn z0 z1 HSTEP
        have HTN : Hid (tusTo s x (i + 1 + 1) = tusTo s x (i + 1) ++ [s.next (s.it x i)]) := Lib.hid (tusTo_next s x (i + 1))
        generalize s.next (s.it x i) = nx at *
        obtain ⟨w5, hW_⟩ : ∃ W_, W_ = W3.alloc (.cells #[.int .i64 nx.at_, .slice Q3 nx.word.length c3] 30) := ⟨_, rfl⟩
        have b5 : Blk w5 W3.heap.size 30 #[.int .i64 nx.at_, .slice Q3 nx.word.length c3] := by rw [hW_]; exact Blk.new W3 _ _
        have z5 : Below W3.heap.size W3 w5 := by rw [hW_]; exact (Below.refl _ _).alloc (Nat.le_refl _) _
        have Hw5 := Lib.hid hW_
        clear hW_
        have hB5 := (hB.below' hb3).below' z5
        have hO5 := (hO.below hb3).below z5
        have hY5 := hY3.trans (z5.mono hY3.size)
        have hkl := hB.lt
        have hs3 := hb3.size
        have z0 : w5.cell? ⟨W3.heap.size, 0, none⟩ = some (.int .i64 nx.at_) := b5.cell 0
        have z1 : w5.cell? ⟨W3.heap.size, 1, none⟩ = some (.slice Q3 nx.word.length c3) := b5.cell 1
        have yy0 : w5.cell? ⟨k, 0, none⟩ = some (.int .i64 (s.it x i).at_) := hB5.cell 0
        have yy1 : w5.cell? ⟨k, 1, none⟩ = some (.slice Q (s.it x i).word.length cq) := hB5.cell 1
        have fk0 := hB5.frozen 0
        have fk1 := hB5.frozen 1
        go_upto_region 11 with fail
        rw [← Hw5.out]
        cases hr : s.room (s.it x i) with
        | false =>
          have HFU : Hid ((cycSys (nums ts)).Full x N i) := Lib.hid (by rw [← HS.out]; exact ⟨hlt, HAL.out, HH.out, hr⟩)
          have HF := Lib.hid (traceCycF_full A1.out A2.out HFU.out)
          clear hr
          go_wp2_with fail
          exact bodyPost_ret (v := .tuple #[.slice none 0 0, .int .i64 5]) (by simp [results, Try.results25, go_sem]) rfl (newTs_nil HF.out (y2.trans (hY5.mono y2.size)))
        | true =>
          have HR := Lib.hid hr
          have hnl := HVN.out hr
          have HAL1 := Lib.hid (HAL.out.step HH.out hr)
          clear hr
          go_upto_region 14 with fail
          have hkw : w2.heap.size ≤ k := by omega
          have hB8 := turn_set hB5 (.int .i64 nx.at_) (.slice Q3 nx.word.length c3)
          have hY8 := turn_below hY5 hkw (.int .i64 nx.at_) (.slice Q3 nx.word.length c3)
          have hO8 := (hO5.set_turn hB5 hAf.out (.int .i64 nx.at_) (i := 0)).set_turn (hB5.set_ 0 _) hAf.out (.slice Q3 nx.word.length c3) (i := 1)
          have hQ8 := turn_far2 hB5 ((ho3.below z5).mono hY.size) (.int .i64 nx.at_) (.slice Q3 nx.word.length c3)
          generalize (w5.setCell ⟨k, 0, none⟩ (.int .i64 nx.at_)).setCell ⟨k, 1, none⟩ (.slice Q3 nx.word.length c3) = W8 at *
          clear z0 z1 yy0 yy1 fk0 fk1 hB5 hO5 hY5 b5 z5 hY3 hb3 ho3 hB hO hQ hY yY
          have e80 : W8.cell? ⟨k, 0, none⟩ = some (.int .i64 nx.at_) := hB8.cell 0
          have e81 : W8.cell? ⟨k, 1, none⟩ = some (.slice Q3 nx.word.length c3) := hB8.cell 1
          have hkW : k < W8.heap.size := hB8.lt
          refine wp_region_any (by kernel_rfl) ?_
          try (change wpAny _ _ _ _ _ _ _ (World.drew _))
          refine wpAny_take (i := 0) (v := ?_) rfl (by kernel_rfl) (by kernel_rfl) (by kernel_rfl) (fun _ _ _ h => h) (Or.inl ⟨by rfl, ?_⟩) ?_
          rotate_left
          · intro w
            go_simp
            try with_reducible rfl
          try simp only [Act.put, List.setIfInBounds_toArray]
          refine wpAny_take (i := 1) (v := ?_) rfl (by kernel_rfl) (by kernel_rfl) (by kernel_rfl) (fun _ _ _ h => h) (Or.inl ⟨by rfl, ?_⟩) ?_
          rotate_left
          · intro w
            go_simp
            try with_reducible rfl
          try simp only [Act.put]
          refine wpAny_take (i := 3) (v := ?_) rfl (by kernel_rfl) (by kernel_rfl) (by kernel_rfl) (fun _ _ _ h => h) (Or.inl ⟨by rfl, ?_⟩) ?_
          rotate_left
          · intro w
            go_simp
            try with_reducible rfl
          try simp only [Act.put]
          refine wpAny_ready (rs := [2, 4]) (by kernel_rfl) (by simp) ?_
          refine AllReady.cons rfl (fun K hK => ?_) ?_
          · go_simp
            refine hK _ _ ?_
            clear hK K
            try simp only [Act.put, List.setIfInBounds_toArray, List.set_cons_zero, List.set_cons_succ]
            refine wpAny_ready (rs := [4]) (by kernel_rfl) (by simp) ?_
            refine AllReady.cons rfl (fun K hK => ?_) ?_
            · go_simp
              refine hK _ _ ?_
              clear hK K
              try simp only [Act.put, List.setIfInBounds_toArray, List.set_cons_zero, List.set_cons_succ]
              refine wpAny_ready (rs := [5]) (by kernel_rfl) (by simp) ?_
              refine AllReady.cons rfl (fun K hK => ?_) ?_
              · go_simp
                refine (l00Own_any _ _ _ nx.word _ (Rd.drewN hQ8.rd 1) (by omega)).mono ?_
                rintro e W9 ⟨A9, a9, rfl, o9, z9'⟩
                have z9 : Below W8.heap.size W8 W9 := below_undrew (n := 1) z9'
                have e90 : W9.cell? ⟨k, 0, none⟩ = some (.int .i64 nx.at_) := (hB8.below' z9).cell 0
                have hO9 := hO8.below z9
                clear z9'
                refine hK _ _ ?_
                clear hK K
                try simp only [Act.put, List.setIfInBounds_toArray, List.set_cons_zero, List.set_cons_succ]
                refine wpAny_ready (rs := [6]) (by kernel_rfl) (by simp) ?_
                refine AllReady.cons rfl (fun K hK => ?_) ?_
                · go_simp
                  refine hK _ _ ?_
                  clear hK K
                  try simp only [Act.put, List.setIfInBounds_toArray, List.set_cons_zero, List.set_cons_succ]
                  refine wpAny_ready (rs := [7]) (by kernel_rfl) (by simp) ?_
                  refine AllReady.cons rfl (fun K hK => ?_) ?_
                  · go_simp
                    refine hK _ _ ?_
                    clear hK K
                    try simp only [Act.put, List.setIfInBounds_toArray, List.set_cons_zero, List.set_cons_succ]
                    refine wpAny_ready (rs := [8]) (by kernel_rfl) (by simp) ?_
                    refine AllReady.cons rfl (fun K hK => ?_) ?_
                    · rw [if_pos (by rfl)]
                      refine wp_append_Own (.tmp 54) (.tmp 61) rfl elTurn (lo := w2.heap.size) rfl (hO9.spine.alloc _) rfl (Tm.new W9 ⟨nx.at_, A9, a9, nx.word⟩) (fun u hu => Tm.one [⟨nx.at_, A9, a9, nx.word⟩] u (by simpa using hu)) (by omega) (by simp only [maxLen]; omega) (by have := z9.size; have := hY8.size; simp; omega) ?_
                      intro A10 c10 W10 h10 hg10 hw10
                      refine hK _ _ ?_
                      clear hK K
                      try simp only [Act.put, List.setIfInBounds_toArray]
                      refine wpAny_ready (rs := [9]) (by kernel_rfl) (by simp) ?_
                      refine AllReady.cons rfl (fun K hK => ?_) ?_
                      · go_simp
                        refine hK _ _ ?_
                        clear hK K
                        try simp only [Act.put, List.setIfInBounds_toArray, List.set_cons_zero, List.set_cons_succ]
                        refine wpAny_done (by kernel_rfl) ?_ _
                        have hOs : OTs W10 w2.heap.size A10 (i + 1 + 1) c10 (us ++ [⟨nx.at_, A9, a9, nx.word⟩]) := OTs.snoc (wa := W8) hO8 (Nat.le_refl _) (hO9.alloc _) h10 hg10 (o9.alloc _) hY8.size
                        have hA10 : Hid (blk A10 ≠ some k) := by
                          have h9 := z9.size
                          rcases hw10.1 with h | h
                          · exact Lib.hid (by rw [h]; exact hAf.out)
                          · exact Lib.hid (by rw [h]; simp; omega)
                        have hk9 : k < W9.heap.size := (hB8.below' z9).lt
                        have hb10 : W10.heap[k]? = W9.heap[k]? := (hg10.block k (by simp; omega) (fun e => hAf.out e.symm)).trans (Below.heap_alloc _ _ _ hk9)
                        have hB10 : Blk W10 k 30 #[.int .i64 (s.it x (i + 1)).at_, .slice Q3 (s.it x (i + 1)).word.length c3] := by rw [HNX.out]; exact hb10.trans (hB8.below' z9)
                        have hQ10 : Own W10 w2.heap.size 2 1 Q3 (s.it x (i + 1)).word.length c3 (ints (s.it x (i + 1)).word) := by rw [HNX.out]; exact ((hQ8.below z9).alloc _).grown_apt (hO9.alloc _).spine hg10 (by decide)
                        have hY10 : Below w2.heap.size w2 W10 := Own.below_of (hO9.alloc _).spine ((hY8.trans (z9.mono hY8.size)).alloc (by have := z9.size; have := hY8.size; omega) _) hg10 (by have := z9.size; have := hY8.size; simp; omega)
                        have HCF : Hid (tus (us ++ [⟨nx.at_, A9, a9, nx.word⟩]) = tusTo s x (i + 1 + 1)) := Lib.hid (by rw [HTN.out, tus_append, hcf.out]; rfl)
                        go_wp2_with fail
                        go_roundw
                        case rel => exact ⟨i + 1, A10, c10, _, Q3, c3, by go_num, rfl, by omega, HAL1.out, hOs, HCF, hB10, hQ10, hA10, hY10⟩
                        case measure => simp [intOf]; omega
                      exact AllReady.nil
                    exact AllReady.nil
                  exact AllReady.nil
                exact AllReady.nil
              exact AllReady.nil
            exact AllReady.nil
          refine AllReady.cons rfl (fun K hK => ?_) ?_
          · go_simp
            refine hK _ _ ?_
            clear hK K
            try simp only [Act.put, List.setIfInBounds_toArray, List.set_cons_zero, List.set_cons_succ]
            refine wpAny_ready (rs := [2, 5]) (by kernel_rfl) (by simp) ?_
            refine AllReady.cons rfl (fun K hK => ?_) ?_
            · go_simp
              refine hK _ _ ?_
              clear hK K
              try simp only [Act.put, List.setIfInBounds_toArray, List.set_cons_zero, List.set_cons_succ]
              refine wpAny_ready (rs := [5]) (by kernel_rfl) (by simp) ?_
              refine AllReady.cons rfl (fun K hK => ?_) ?_
              · go_simp
                refine (l00Own_any _ _ _ nx.word _ (Rd.drewN hQ8.rd 1) (by omega)).mono ?_
                rintro e W9 ⟨A9, a9, rfl, o9, z9'⟩
                have z9 : Below W8.heap.size W8 W9 := below_undrew (n := 1) z9'
                have e90 : W9.cell? ⟨k, 0, none⟩ = some (.int .i64 nx.at_) := (hB8.below' z9).cell 0
                have hO9 := hO8.below z9
                clear z9'
                refine hK _ _ ?_
                clear hK K
                try simp only [Act.put, List.setIfInBounds_toArray, List.set_cons_zero, List.set_cons_succ]
                refine wpAny_ready (rs := [6]) (by kernel_rfl) (by simp) ?_
                refine AllReady.cons rfl (fun K hK => ?_) ?_
                · go_simp
                  refine hK _ _ ?_
                  clear hK K
                  try simp only [Act.put, List.setIfInBounds_toArray, List.set_cons_zero, List.set_cons_succ]
                  refine wpAny_ready (rs := [7]) (by kernel_rfl) (by simp) ?_
                  refine AllReady.cons rfl (fun K hK => ?_) ?_
                  · go_simp
                    refine hK _ _ ?_
                    clear hK K
                    try simp only [Act.put, List.setIfInBounds_toArray, List.set_cons_zero, List.set_cons_succ]
                    refine wpAny_ready (rs := [8]) (by kernel_rfl) (by simp) ?_
                    refine AllReady.cons rfl (fun K hK => ?_) ?_
                    · rw [if_pos (by rfl)]
                      refine wp_append_Own (.tmp 54) (.tmp 61) rfl elTurn (lo := w2.heap.size) rfl (hO9.spine.alloc _) rfl (Tm.new W9 ⟨nx.at_, A9, a9, nx.word⟩) (fun u hu => Tm.one [⟨nx.at_, A9, a9, nx.word⟩] u (by simpa using hu)) (by omega) (by simp only [maxLen]; omega) (by have := z9.size; have := hY8.size; simp; omega) ?_
                      intro A10 c10 W10 h10 hg10 hw10
                      refine hK _ _ ?_
                      clear hK K
                      try simp only [Act.put, List.setIfInBounds_toArray]
                      refine wpAny_ready (rs := [9]) (by kernel_rfl) (by simp) ?_
                      refine AllReady.cons rfl (fun K hK => ?_) ?_
                      · go_simp
                        refine hK _ _ ?_
                        clear hK K
                        try simp only [Act.put, List.setIfInBounds_toArray, List.set_cons_zero, List.set_cons_succ]
                        refine wpAny_done (by kernel_rfl) ?_ _
                        have hOs : OTs W10 w2.heap.size A10 (i + 1 + 1) c10 (us ++ [⟨nx.at_, A9, a9, nx.word⟩]) := OTs.snoc (wa := W8) hO8 (Nat.le_refl _) (hO9.alloc _) h10 hg10 (o9.alloc _) hY8.size
                        have hA10 : Hid (blk A10 ≠ some k) := by
                          have h9 := z9.size
                          rcases hw10.1 with h | h
                          · exact Lib.hid (by rw [h]; exact hAf.out)
                          · exact Lib.hid (by rw [h]; simp; omega)
                        have hk9 : k < W9.heap.size := (hB8.below' z9).lt
                        have hb10 : W10.heap[k]? = W9.heap[k]? := (hg10.block k (by simp; omega) (fun e => hAf.out e.symm)).trans (Below.heap_alloc _ _ _ hk9)
                        have hB10 : Blk W10 k 30 #[.int .i64 (s.it x (i + 1)).at_, .slice Q3 (s.it x (i + 1)).word.length c3] := by rw [HNX.out]; exact hb10.trans (hB8.below' z9)
                        have hQ10 : Own W10 w2.heap.size 2 1 Q3 (s.it x (i + 1)).word.length c3 (ints (s.it x (i + 1)).word) := by rw [HNX.out]; exact ((hQ8.below z9).alloc _).grown_apt (hO9.alloc _).spine hg10 (by decide)
                        have hY10 : Below w2.heap.size w2 W10 := Own.below_of (hO9.alloc _).spine ((hY8.trans (z9.mono hY8.size)).alloc (by have := z9.size; have := hY8.size; omega) _) hg10 (by have := z9.size; have := hY8.size; simp; omega)
                        have HCF : Hid (tus (us ++ [⟨nx.at_, A9, a9, nx.word⟩]) = tusTo s x (i + 1 + 1)) := Lib.hid (by rw [HTN.out, tus_append, hcf.out]; rfl)
                        go_wp2_with fail
                        go_roundw
                        case rel => exact ⟨i + 1, A10, c10, _, Q3, c3, by go_num, rfl, by omega, HAL1.out, hOs, HCF, hB10, hQ10, hA10, hY10⟩
                        case measure => simp [intOf]; omega
                      exact AllReady.nil
                    exact AllReady.nil
                  exact AllReady.nil
                exact AllReady.nil
              exact AllReady.nil
            refine AllReady.cons rfl (fun K hK => ?_) ?_
            · go_simp
              refine (l00Own_any _ _ _ nx.word _ (Rd.drewN hQ8.rd 1) (by omega)).mono ?_
              rintro e W9 ⟨A9, a9, rfl, o9, z9'⟩
              have z9 : Below W8.heap.size W8 W9 := below_undrew (n := 1) z9'
              have e90 : W9.cell? ⟨k, 0, none⟩ = some (.int .i64 nx.at_) := (hB8.below' z9).cell 0
              have hO9 := hO8.below z9
              clear z9'
              refine hK _ _ ?_
              clear hK K
              try simp only [Act.put, List.setIfInBounds_toArray, List.set_cons_zero, List.set_cons_succ]
              refine wpAny_ready (rs := [2]) (by kernel_rfl) (by simp) ?_
              refine AllReady.cons rfl (fun K hK => ?_) ?_
              · go_simp
                refine hK _ _ ?_
                clear hK K
                try simp only [Act.put, List.setIfInBounds_toArray, List.set_cons_zero, List.set_cons_succ]
                refine wpAny_ready (rs := [6]) (by kernel_rfl) (by simp) ?_
                refine AllReady.cons rfl (fun K hK => ?_) ?_
                · go_simp
                  refine hK _ _ ?_
                  clear hK K
                  try simp only [Act.put, List.setIfInBounds_toArray, List.set_cons_zero, List.set_cons_succ]
                  refine wpAny_ready (rs := [7]) (by kernel_rfl) (by simp) ?_
                  refine AllReady.cons rfl (fun K hK => ?_) ?_
                  · go_simp
                    refine hK _ _ ?_
                    clear hK K
                    try simp only [Act.put, List.setIfInBounds_toArray, List.set_cons_zero, List.set_cons_succ]
                    refine wpAny_ready (rs := [8]) (by kernel_rfl) (by simp) ?_
                    refine AllReady.cons rfl (fun K hK => ?_) ?_
                    · rw [if_pos (by rfl)]
                      refine wp_append_Own (.tmp 54) (.tmp 61) rfl elTurn (lo := w2.heap.size) rfl (hO9.spine.alloc _) rfl (Tm.new W9 ⟨nx.at_, A9, a9, nx.word⟩) (fun u hu => Tm.one [⟨nx.at_, A9, a9, nx.word⟩] u (by simpa using hu)) (by omega) (by simp only [maxLen]; omega) (by have := z9.size; have := hY8.size; simp; omega) ?_
                      intro A10 c10 W10 h10 hg10 hw10
                      refine hK _ _ ?_
                      clear hK K
                      try simp only [Act.put, List.setIfInBounds_toArray]
                      refine wpAny_ready (rs := [9]) (by kernel_rfl) (by simp) ?_
                      refine AllReady.cons rfl (fun K hK => ?_) ?_
                      · go_simp
                        refine hK _ _ ?_
                        clear hK K
                        try simp only [Act.put, List.setIfInBounds_toArray, List.set_cons_zero, List.set_cons_succ]
                        refine wpAny_done (by kernel_rfl) ?_ _
                        have hOs : OTs W10 w2.heap.size A10 (i + 1 + 1) c10 (us ++ [⟨nx.at_, A9, a9, nx.word⟩]) := OTs.snoc (wa := W8) hO8 (Nat.le_refl _) (hO9.alloc _) h10 hg10 (o9.alloc _) hY8.size
                        have hA10 : Hid (blk A10 ≠ some k) := by
                          have h9 := z9.size
                          rcases hw10.1 with h | h
                          · exact Lib.hid (by rw [h]; exact hAf.out)
                          · exact Lib.hid (by rw [h]; simp; omega)
                        have hk9 : k < W9.heap.size := (hB8.below' z9).lt
                        have hb10 : W10.heap[k]? = W9.heap[k]? := (hg10.block k (by simp; omega) (fun e => hAf.out e.symm)).trans (Below.heap_alloc _ _ _ hk9)
                        have hB10 : Blk W10 k 30 #[.int .i64 (s.it x (i + 1)).at_, .slice Q3 (s.it x (i + 1)).word.length c3] := by rw [HNX.out]; exact hb10.trans (hB8.below' z9)
                        have hQ10 : Own W10 w2.heap.size 2 1 Q3 (s.it x (i + 1)).word.length c3 (ints (s.it x (i + 1)).word) := by rw [HNX.out]; exact ((hQ8.below z9).alloc _).grown_apt (hO9.alloc _).spine hg10 (by decide)
                        have hY10 : Below w2.heap.size w2 W10 := Own.below_of (hO9.alloc _).spine ((hY8.trans (z9.mono hY8.size)).alloc (by have := z9.size; have := hY8.size; omega) _) hg10 (by have := z9.size; have := hY8.size; simp; omega)
                        have HCF : Hid (tus (us ++ [⟨nx.at_, A9, a9, nx.word⟩]) = tusTo s x (i + 1 + 1)) := Lib.hid (by rw [HTN.out, tus_append, hcf.out]; rfl)
                        go_wp2_with fail
                        go_roundw
                        case rel => exact ⟨i + 1, A10, c10, _, Q3, c3, by go_num, rfl, by omega, HAL1.out, hOs, HCF, hB10, hQ10, hA10, hY10⟩
                        case measure => simp [intOf]; omega
                      exact AllReady.nil
                    exact AllReady.nil
                  exact AllReady.nil
                exact AllReady.nil
              exact AllReady.nil
            exact AllReady.nil
          exact AllReady.nil
end Go.Proofs.Ythipbeggaeogcaa
