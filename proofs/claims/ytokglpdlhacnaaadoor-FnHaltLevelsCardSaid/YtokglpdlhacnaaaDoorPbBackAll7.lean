/-
  The program's next level of partial configurations ((*level).next).
-/
import Derived.Test.YtokglpdlhacnaaaDoorPbBackAll4
import Derived.Test.YtokglpdlhacnaaaDoorPbBackAll6
namespace Go.Proofs.YtokglpdlhacnaaaDoor
open Go.RowKit

/-- A level in memory, at block g. -/
def Lev (W : World) (g : Nat) (sy st : Int) (B : Option Addr) (m k : Nat) (A : Option Addr) (n c : Nat) (s : Int) : Prop :=
  Blk W g 98 #[.int .i64 sy, .int .i64 st, .slice B m k, .slice A n c, .int .i64 s]
/-- What next leaves: the next level where it fits and enough steps are left, else the code 5. -/
def NextPost (w : World) (g : Nat) (sy st : Int) (B : Option Addr) (m k : Nat) (rs : List R3) (lv : List Pa) (s : Int) (e : Ending) (w' : World) : Prop :=
  (((lv.length : Int) ≤ s ∧ ∃ l A c ts, nextF sy rs lv = some l ∧ e = .returned (.int .i64 0) ∧ Lev w' g sy st B m k A ts.length c (s - lv.length) ∧ OPs w' w.heap.size A ts.length c ts ∧ pas ts = l) ∨
    ((s < (lv.length : Int) ∨ nextF sy rs lv = none) ∧ e = .returned (.int .i64 5))) ∧ Kb g w w'
set_option maxRecDepth 100000 in
set_option maxHeartbeats 8000000 in
theorem levelNext_any (g lo : Nat) (sy st : Int) (B : Option Addr) (m k : Nat) (rs : List R3) (A : Option Addr) (n c : Nat) (lv : List Pm) (s : Int) (w : World) (hL : Lev w g sy st B m k A n c s) (hO : OPs w lo A n c lv) (hr : S3 w B m rs) (hm : machB sy st rs = true) (hgB : blk B ≠ some g) (hok : ∀ x ∈ pas lv, PaOk sy st x ∧ x.cs.length ≤ 60) (hs : 0 ≤ s ∧ s ≤ 1000000) (hn : n ≤ 6000) (ht : Tab w) :
    Calls Tryd.prog 74 #[.pointer (some ⟨g, 0, none⟩)] w (NextPost w g sy st B m k rs (pas lv) s) := by
  have hmm := @run_makeMap Tryd.prog
  obtain ⟨W1, hW1⟩ : ∃ W1, W1 = w.alloc (.map #[] 0) := ⟨_, rfl⟩
  have HW1 := Lib.hid hW1
  clear hW1
  have q3 : W1.cell? ⟨g, 3, none⟩ = some (.slice A n c) := by rw [HW1.out]; exact (Blk.alloc hL _).cell 3
  go_enter Tryd.func74, Tryd.ntmps74
  go_upto_region 2 with fail
  rw [← HW1.out]
  obtain ⟨W2, hW2⟩ : ∃ W2, W2 = W1.alloc (.cells #[] 58) := ⟨_, rfl⟩
  rw [← hW2]
  have hz1 : Below w.heap.size w W1 := by rw [HW1.out]; exact (Below.refl _ _).alloc (Nat.le_refl _) _
  have hz2 : Below w.heap.size w W2 := by rw [hW2]; exact hz1.alloc hz1.size _
  have s2 : StrSet W2 w.heap.size 0 (fun _ => false) := by
    obtain ⟨D, h1, h2⟩ := StrSet.new w
    rw [← HW1.out] at h1
    rw [hW2]
    exact ⟨D, h1.alloc _, h2⟩
  have o2 : OPs W2 W1.heap.size (some ⟨W1.heap.size, 0, none⟩) ([] : List Pm).length 0 [] := OPs.nil (by rw [hW2]; exact Own.lit0 W1 _ 3)
  have l2 : Lev W2 g sy st B m k A n c s := by rw [hW2, HW1.out]; exact Blk.alloc (Blk.alloc hL _) _
  have k2 : Hid (Knows sy st W2 w.heap.size []) := Lib.hid ⟨fun _ => false, s2, fun x _ => by simp⟩
  have HL := Lib.hid hL
  have HO := Lib.hid hO
  have HR := Lib.hid hr
  have HM := Lib.hid hm
  have HOK := Lib.hid hok
  have HT := Lib.hid ht
  have HLV : Hid (lv.length = n) := Lib.hid hO.len
  have L2 := Lib.hid l2
  have hgw : g < w.heap.size := hL.lt
  have hkb2 := Lib.hid (Kb.of_below (b := g) hz2)
  have hw1 : Hid (w.heap.size < W1.heap.size) := Lib.hid (by rw [HW1.out]; simp)
  have he : Hid (W1.heap.size = w.heap.size + 1) := Lib.hid (by rw [HW1.out]; simp)
  have x3 : W2.cell? ⟨g, 3, none⟩ = some (.slice A n c) := l2.cell 3
  clear hW2 hL hO hr hm hok ht l2 s2 hz1 hz2 q3 hmm
  go_wp2_with fail
  go_loopw [4, 19] (fun v i wr => ∃ (j : Nat) (A' : Option Addr) (c' : Nat) (ts : List Pm), j ≤ n ∧ i = .int .i64 (j : Int) ∧ v = .slice A' ts.length c' ∧ OPs wr W1.heap.size A' ts.length c' ts ∧ Hid (nextTo sy rs (pas lv) j = some (pas ts)) ∧ Hid (Knows sy st wr w.heap.size (pas ts)) ∧ Hid (Lev wr g sy st B m k A n c (s - (j : Int))) ∧ Hid (j = 0 ∨ (j : Int) ≤ s) ∧ Hid (Kb g w wr) ∧ Hid (W1.heap.size ≤ wr.heap.size)) (fun _ i _ => n - (intOf i).toNat)
  case atStart => exact ⟨0, some ⟨w.heap.size + 1, 0, none⟩, 0, [], by omega, rfl, rfl, by rw [← he.out]; exact o2, Lib.hid rfl, k2, Lib.hid (by simpa using L2.out), Lib.hid (.inl rfl), hkb2, Lib.hid (by have := o2.spine.blk_lt W1.heap.size rfl; omega)⟩
  case round =>
    obtain ⟨j, A', c', ts, hj, rfl, rfl, hO1, HN1, HK1, HL1, HS1, HKb, HSz⟩ := hrel
    rename World => W0
    clear o2 k2 L2 hkb2
    by_cases hlt : j < n
    · obtain ⟨x, b, off, hxj, rfl, hbw, hlob, c0, c1, c2, hrow, _⟩ := HO.out.pick hlt
      have hbg : b ≠ g := fun e => (HL.out.apt HO.out.spine (by decide)) (by simp [blk, e])
      have hc0 := (World.cell?_of_block (a := ⟨b, off + j * 3, none⟩) (HKb.out.block b hbw hbg)).trans c0
      have hc1 := (World.cell?_of_block (a := ⟨b, off + j * 3 + 1, none⟩) (HKb.out.block b hbw hbg)).trans c1
      have hc2 := (World.cell?_of_block (a := ⟨b, off + j * 3 + 2, none⟩) (HKb.out.block b hbw hbg)).trans c2
      have hxr : Hid (SI W0 x.L x.xs.length x.xs) := Lib.hid ((HKb.out.own hrow (HL.out.apt hrow (by decide))).rd)
      have i0 : (0 : Int) ≤ (j : Int) := by omega
      have i1 : (j : Int) < (n : Int) := by omega
      have hgW : g < W0.heap.size := HL1.out.lt
      obtain ⟨W3, hW_⟩ : ∃ W_, W_ = W0.alloc (.cells #[.int .i64 x.q, .int .i64 x.p, .slice x.L x.xs.length x.a] 58) := ⟨_, rfl⟩
      have b3 : Blk W3 W0.heap.size 58 #[.int .i64 x.q, .int .i64 x.p, .slice x.L x.xs.length x.a] := by rw [hW_]; exact Blk.new W0 _ _
      have z3 : Below W0.heap.size W0 W3 := by rw [hW_]; exact (Below.refl _ _).alloc (Nat.le_refl _) _
      have HW3 := Lib.hid hW_
      clear hW_
      have L3 := HL1.out.below' z3
      have y4 : W3.cell? ⟨g, 4, none⟩ = some (.int .i64 (s - (j : Int))) := L3.cell 4
      have f4 := L3.frozen 4
      obtain ⟨S2, hS2⟩ : ∃ S2 : Int, S2 = s - (j : Int) - 1 := ⟨_, rfl⟩
      have w2 : IntKind.i64.wrap (s - (j : Int) - 1) = S2 := by rw [IntWalk.i64_in _ (by omega)]; omega
      have HS2 := Lib.hid hS2
      have HROW := Lib.hid hrow
      clear hS2 c0 c1 c2 hrow
      go_upto_region 5 with fail
      rw [← HW3.out]
      clear hc0 hc1 hc2
      go_upto_region 6 with fail
      obtain ⟨W4, hW4⟩ : ∃ W4, W4 = W3.setCell ⟨g, 4, none⟩ (.int .i64 S2) := ⟨_, rfl⟩
      rw [← hW4]
      have L4 : Lev W4 g sy st B m k (some ⟨b, off, none⟩) n c S2 := by rw [hW4]; exact L3.set_ 4 _
      have kb4 : Kb g w W4 := by rw [hW4]; exact (HKb.out.trans (Kb.of_below z3)).set_ 4 _
      have b4 : Blk W4 W0.heap.size 58 #[.int .i64 x.q, .int .i64 x.p, .slice x.L x.xs.length x.a] := by rw [hW4]; exact b3.far (by show W0.heap.size ≠ g; omega) _
      have K34 : Kb g W0 W4 := by rw [hW4]; exact (Kb.of_below z3).set_ 4 _
      have hr4 : S3 W4 B m rs := HR.out.keep fun p hp he => World.cell?_of_block (kb4.block p.block hp (fun e => hgB (by rw [← he, e])))
      have hO4 : OPs W4 W1.heap.size A' ts.length c' ts := by rw [hW4]; exact (hO1.below z3).set_far (by have := hw1.out; omega) _
      have hxm : x.pa ∈ pas lv := List.mem_map.2 ⟨x, List.mem_of_getElem? hxj.out, rfl⟩
      have hokx := HOK.out _ hxm
      have hlx : x.xs.length ≤ 1000 := by have h := hokx.2; unfold Pm.pa at h; dsimp only at h; omega
      have hx4 : SI W4 x.L x.xs.length x.xs := (kb4.own HROW.out (HL.out.apt HROW.out (by decide))).rd
      have HPR := Lib.hid (fun W' (h : Below W4.heap.size W4 W') => predecessorsI_any sy st B m k rs x.q x.p x.L x.xs.length x.a x.xs W' (hr4.below h) (hx4.below h) HM.out hokx.1 hlx)
      have l4 := L4.lt
      have l40 := b4.lt
      have HSS := Lib.hid (fun W' (h : Below W4.heap.size W4 W') => (⟨(Blk.below' L4 h).cell 0, (Blk.below' L4 h).cell 1, (Blk.below' L4 h).cell 2, (b4.below' h).cell 0, (b4.below' h).cell 1, (b4.below' h).cell 2⟩ : W'.cell? ⟨g, 0, none⟩ = some (.int .i64 sy) ∧ W'.cell? ⟨g, 1, none⟩ = some (.int .i64 st) ∧ W'.cell? ⟨g, 2, none⟩ = some (.slice B m k) ∧ W'.cell? ⟨W0.heap.size, 0, none⟩ = some (.int .i64 x.q) ∧ W'.cell? ⟨W0.heap.size, 1, none⟩ = some (.int .i64 x.p) ∧ W'.cell? ⟨W0.heap.size, 2, none⟩ = some (.slice x.L x.xs.length x.a)))
      obtain ⟨q0, q1, q2, q3, q4, q5⟩ := HSS.out W4 (Below.refl _ _)
      have HW4 := Lib.hid hW4
      have L4h := Lib.hid L4
      have K4h := Lib.hid kb4
      have O4h := Lib.hid hO4
      have HOKX := Lib.hid hokx
      clear hW4 L4 kb4 hO4 hr4 hx4 b4 L3 y4 f4 w2 b3 z3 hokx hxm
      cases hpf : predsF sy rs ⟨x.q, x.p, x.xs⟩ with
      | none =>
        have HPF := Lib.hid hpf
        have HNF : Hid (nextF sy rs (pas lv) = none) := Lib.hid (by
          have h1 : (pas lv).getD j ⟨0, 0, []⟩ = x.pa := by rw [List.getD_eq_getElem?_getD]; simp [pas, hxj.out]
          have h2 : nextTo sy rs (pas lv) (j + 1) = none := by
            simp only [nextTo, HN1.out, Option.bind_some]
            rw [h1]
            show ((predsF sy rs ⟨x.q, x.p, x.xs⟩).bind _) = none
            rw [hpf]; rfl
          exact nextTo_none h2 _ (by have := HLV.out; simp [pas]; omega))
        clear hpf
        go_region_held3 (fun W' => W'.cell? ⟨g, 0, none⟩ = some (.int .i64 sy) ∧ W'.cell? ⟨g, 1, none⟩ = some (.int .i64 st) ∧ W'.cell? ⟨g, 2, none⟩ = some (.slice B m k) ∧ W'.cell? ⟨W0.heap.size, 0, none⟩ = some (.int .i64 x.q) ∧ W'.cell? ⟨W0.heap.size, 1, none⟩ = some (.int .i64 x.p) ∧ W'.cell? ⟨W0.heap.size, 2, none⟩ = some (.slice x.L x.xs.length x.a))
          (first
            | (go_keep; done)
            | (exact HSS.out _ zz5))
          ((go_at_call 102; refine (HPR.out _ (below_drewN (Below.refl _ _) 1)).mono ?_; unfold PredsPost; rw [HPF.out]; rintro e w5 ⟨rfl, z5⟩; have zz5 : Below W4.heap.size W4 w5 := below_undrew (n := 1) z5))
        go_wp2_with fail
        go_ret
        exact ⟨.inr ⟨.inr HNF.out, rfl⟩, K4h.out.trans (Kb.of_below zz5)⟩
      | some l =>
        have HPF := Lib.hid hpf
        clear hpf
        go_region_held3 (fun W' => W'.cell? ⟨g, 0, none⟩ = some (.int .i64 sy) ∧ W'.cell? ⟨g, 1, none⟩ = some (.int .i64 st) ∧ W'.cell? ⟨g, 2, none⟩ = some (.slice B m k) ∧ W'.cell? ⟨W0.heap.size, 0, none⟩ = some (.int .i64 x.q) ∧ W'.cell? ⟨W0.heap.size, 1, none⟩ = some (.int .i64 x.p) ∧ W'.cell? ⟨W0.heap.size, 2, none⟩ = some (.slice x.L x.xs.length x.a))
          (first
            | (go_keep; done)
            | (exact HSS.out _ zz5))
          ((go_at_call 102; refine (HPR.out _ (below_drewN (Below.refl _ _) 1)).mono ?_; unfold PredsPost; rw [HPF.out]; rintro e w5 ⟨⟨A5, c5, ts5, rfl, hO5, hp5⟩, z5⟩; have zz5 : Below W4.heap.size W4 w5 := below_undrew (n := 1) z5))
        have L5 := Blk.below' L4h.out zz5
        have y45 : w5.cell? ⟨g, 4, none⟩ = some (.int .i64 S2) := L5.cell 4
        have K5 := Lib.hid (K4h.out.trans (Kb.of_below zz5))
        by_cases hneg : S2 < 0
        · have HSN : Hid (s < ((pas lv).length : Int)) := Lib.hid (by have h1 := HS2.out; have h2 : (pas lv).length = n := by rw [← HLV.out]; simp [pas]
                                                                      omega)
          go_wp2_with fail
          go_ret
          exact ⟨.inr ⟨.inl HSN.out, rfl⟩, K5.out⟩
        · have KN5 := Lib.hid (HK1.out.kb (K34.trans (Kb.of_below zz5)) (by omega))
          have O5h := Lib.hid (O4h.out.below zz5)
          have HP5 := Lib.hid hp5
          have HO5 := Lib.hid hO5
          have L5h := Lib.hid L5
          have Z45 := Lib.hid zz5
          clear q0 q1 q2 q3 q4 q5 HPR HSS hp5 hO5 L5 zz5 z5
          go_upto_region 9 with fail
          clear y45
          go_wp2_with fail
          have HTL : Hid ((pas ts5).length = ts5.length) := Lib.hid (by simp [pas])
          have HVAL := Lib.hid (predsF_ok HM.out HOKX.out.1 HPF.out)
          obtain ⟨pm1, pm2, pm3, pm4, pm5, _⟩ := machB_parts HM.out
          have pm6 : (rs.length : Int) ≤ 6000 := by rw [pm5]; have h5 : st * sy ≤ 1000 * 6 := Int.mul_le_mul pm4 pm2 (by omega) (by omega); omega
          have hl5 : ts5.length ≤ 6000 := by have h1 := HVAL.out.2; rw [← HP5.out, HTL.out] at h1; omega
          have HT3 : Hid (ts.length ≤ 300) := Lib.hid (by
            have h1 := (nextTo_ok HM.out HOK.out (by have := HLV.out; simp [pas]; omega) HN1.out).2
            simpa [pas] using h1)
          have HO5' : Hid (OPs w5 W4.heap.size A5 ts5.length c5 ts5) := Lib.hid HO5.out
          have HW1W4 : Hid (W1.heap.size ≤ W4.heap.size) := Lib.hid (by have := HSz.out; have := K34.size; omega)
          have HW4W5 : Hid (W4.heap.size ≤ w5.heap.size) := Lib.hid (by have := Z45.out.size; omega)
          clear pm5
          go_loopw [4, 50] (fun v i wr => ∃ (p : Nat) (A6 : Option Addr) (c6 : Nat) (us : List Pm), p ≤ ts5.length ∧ i = .int .i64 (p : Int) ∧ v = .slice A6 us.length c6 ∧ OPs wr W1.heap.size A6 us.length c6 us ∧ Hid (pas us = ((pas ts5).take p).foldl addNew (pas ts)) ∧ Hid (Knows sy st wr w.heap.size (pas us)) ∧ Hid (Lev wr g sy st B m k (some ⟨b, off, none⟩) n c S2) ∧ Hid (Kb g w wr) ∧ Hid (∀ x, W4.heap.size ≤ x → x < w5.heap.size → wr.heap[x]? = w5.heap[x]?) ∧ Hid (∀ x, blk A6 = some x → x < W4.heap.size ∨ w5.heap.size ≤ x) ∧ Hid (AptFrom us ts5 p) ∧ Hid (w5.heap.size ≤ wr.heap.size)) (fun _ i _ => ts5.length - (intOf i).toNat)
          case atStart => exact ⟨0, A', c', ts, by omega, rfl, rfl, O5h.out, Lib.hid rfl, KN5, L5h, K5, Lib.hid (fun _ _ _ => rfl), Lib.hid (fun x hx => .inl (O4h.out.spine.blk_lt x hx)), Lib.hid (AptFrom.start O4h.out HO5'.out (Nat.le_refl _)), Lib.hid (Nat.le_refl _)⟩
          case round =>
            obtain ⟨p, A6, c6, us, hp, rfl, rfl, hO6, HU6, HK6, HL6, HKb6, HF6, HSp6, HAp6, HSz6⟩ := hrel
            rename World => W6
            have HLU : Hid (us.length ≤ 6300) := Lib.hid (by
              have h1 := (foldl_addNew_len ((pas ts5).take p) (pas ts)).2
              rw [← HU6.out] at h1
              have h2 := HT3.out
              simp [pas] at h1
              omega)
            by_cases hlp : p < ts5.length
            · have hfp := (HO5'.out.kept HF6.out).pick hlp
              obtain ⟨y, b', off', hyp, rfl, hb'w, hlob', d0, d1, d2, hrow5, _⟩ := hfp
              have hokY := HVAL.out.1 y.pa (by rw [← HP5.out]; exact List.mem_map.2 ⟨y, List.mem_of_getElem? hyp.out, rfl⟩)
              obtain ⟨yq, yp, yL, ya, yx⟩ := y
              unfold Pm.pa at hokY
              dsimp only at d0 d1 d2 hrow5 hokY
              have yq0 := hokY.1.q0
              have yq1 := hokY.1.q1
              have ya0 := hokY.1.a0
              have ya1 := hokY.1.a1
              have yl := hokY.2
              dsimp only at yq0 yq1 ya0 ya1 yl
              obtain ⟨qn, rfl⟩ : ∃ q : Nat, yq = (q : Int) := ⟨yq.toNat, by omega⟩
              obtain ⟨an, rfl⟩ : ∃ a : Nat, yp = (a : Int) := ⟨yp.toNat, by omega⟩
              have HOKY := Lib.hid hokY.1
              have i0 : (0 : Int) ≤ (p : Int) := by omega
              have i1 : (p : Int) < (ts5.length : Int) := by omega
              have HROW6 := Lib.hid hrow5
              obtain ⟨W7, hW_⟩ : ∃ W_, W_ = W6.alloc (.cells #[.int .i64 (qn : Int), .int .i64 (an : Int), .slice yL yx.length ya] 58) := ⟨_, rfl⟩
              have b7 : Blk W7 W6.heap.size 58 #[.int .i64 (qn : Int), .int .i64 (an : Int), .slice yL yx.length ya] := by rw [hW_]; exact Blk.new W6 _ _
              have z7 : Below W6.heap.size W6 W7 := by rw [hW_]; exact (Below.refl _ _).alloc (Nat.le_refl _) _
              have HW7 := Lib.hid hW_
              clear hW_
              have e0 : W7.cell? ⟨W6.heap.size, 0, none⟩ = some (.int .i64 (qn : Int)) := b7.cell 0
              have e1 : W7.cell? ⟨W6.heap.size, 1, none⟩ = some (.int .i64 (an : Int)) := b7.cell 1
              have e2 : W7.cell? ⟨W6.heap.size, 2, none⟩ = some (.slice yL yx.length ya) := b7.cell 2
              have hT7 : Tab W7 := HT.out.kb (HKb6.out.trans (Kb.of_below z7)) HL.out (by simp)
              have HPT : Hid (Calls Tryd.prog 103 #[.agg #[.int .i64 (qn : Int), .int .i64 (an : Int), .slice yL yx.length ya]] W7 fun e w' => e = .returned (.string (partS ⟨(qn : Int), (an : Int), yx⟩)) ∧ Below W7.heap.size W7 w') := Lib.hid (partialText_any qn an yL yx.length ya yx W7 ((hrow5.below z7).rd) (by omega) hrow5.le hrow5.cap (by omega) (by omega) (HOKY.out.digs (by omega)) hT7)
              have HSZ8 := Lib.hid (partS_len HOKY.out (by omega) yl)
              clear hrow5 hokY hT7 yq0 yq1 ya0 ya1 yl
              go_upto_region 12 with fail
              rw [← HW7.out]
              clear d0 d1 d2
              go_upto_region 13 with (go_at_call 103; refine HPT.out.mono ?_; rintro e w8 ⟨rfl, z8⟩)
              have HK8 := Lib.hid ((HK6.out.below z7).below z8)
              have hlk := HK8.out.look HOKY.out (by have := HSZ8.out; simp only [maxLen]; omega)
              have Z8 := Lib.hid (z7.trans (z8.mono z7.size))
              have B8 := Lib.hid (b7.below' z8)
              have HNX : Hid (((pas ts5).take (p + 1)).foldl addNew (pas ts) = addNew (pas us) ⟨(qn : Int), (an : Int), yx⟩) := Lib.hid (by
                have h1 : (pas ts5)[p]? = some ⟨(qn : Int), (an : Int), yx⟩ := by simp [pas, hyp.out, Pm.pa]
                rw [List.take_add_one, h1, List.foldl_append, ← HU6.out]; rfl)
              by_cases hin : (⟨(qn : Int), (an : Int), yx⟩ : Pa) ∈ pas us
              · rw [decide_eq_true hin] at hlk
                have HU8 : Hid (pas us = ((pas ts5).take (p + 1)).foldl addNew (pas ts)) := Lib.hid (by rw [HNX.out]; unfold addNew; rw [if_pos hin])
                have hO8 := hO6.below Z8.out
                have HL8 : Hid (Lev w8 g sy st B m k (some ⟨b, off, none⟩) n c S2) := Lib.hid (Blk.below' HL6.out Z8.out)
                have HKb8 := Lib.hid (HKb6.out.trans (Kb.of_below Z8.out))
                have HF8 : Hid (∀ x, W4.heap.size ≤ x → x < w5.heap.size → w8.heap[x]? = w5.heap[x]?) := Lib.hid (fun x h1 h2 => (Z8.out.block x (by have := HSz6.out; omega)).trans (HF6.out x h1 h2))
                have HSz8 : Hid (w5.heap.size ≤ w8.heap.size) := Lib.hid (by have := HSz6.out; have := Z8.out.size; omega)
                have HAp8 := Lib.hid HAp6.out.skip
                clear hin e0 e1 e2 z8 b7 hO6 z7
                go_wp2_with fail
                exact ⟨⟨p + 1, A6, c6, us, by omega, by go_num, rfl, hO8, HU8, HK8, HL8, HKb8, HF8, HSp6, HAp8, HSz8⟩, by simp [intOf]; omega⟩
              · rw [decide_eq_false hin] at hlk
                obtain ⟨w9, hput, hK9, hg9⟩ := HK8.out.put HOKY.out (by have := HSZ8.out; simp only [maxLen]; omega) (by omega) (by have h1 := HLU.out; simp only [maxLen]; simp [pas]; omega)
                have HG9 := Lib.hid hg9
                have HK9 := Lib.hid hK9
                have HPUT := Lib.hid hput
                have hwW : Hid (w.heap.size < W6.heap.size) := Lib.hid (by have := hw1.out; have := HSz6.out; have := HW1W4.out; have := HW4W5.out; omega)
                have hbne : Hid (∀ x, W1.heap.size ≤ x → x < W6.heap.size → w9.heap[x]? = W6.heap[x]?) := Lib.hid (fun x h1 h2 => (HG9.out.block x (by have := Z8.out.size; omega) (fun e => by have := hw1.out; have h9 := Option.some.inj e; omega)).trans (Z8.out.block x h2))
                have hO9 : OPs w9 W1.heap.size A6 us.length c6 us := hO6.kept hbne.out
                have b9 : Blk w9 W6.heap.size 58 #[.int .i64 (qn : Int), .int .i64 (an : Int), .slice yL yx.length ya] := (HG9.out.block _ B8.out.lt (fun e => by have := hwW.out; have h9 := Option.some.inj e; omega)).trans B8.out
                have HU8 : Hid (pas (us ++ [⟨(qn : Int), (an : Int), yL, ya, yx⟩]) = ((pas ts5).take (p + 1)).foldl addNew (pas ts)) := Lib.hid (by rw [HNX.out]; unfold addNew; rw [if_neg hin]; simp [pas, Pm.pa])
                have HKb9 : Hid (Kb g w w9) := Lib.hid ((HKb6.out.trans (Kb.of_below Z8.out)).grownRow HG9.out (Nat.le_refl _))
                have HL9 : Hid (Lev w9 g sy st B m k (some ⟨b, off, none⟩) n c S2) := Lib.hid ((HG9.out.block g (Blk.below' HL6.out Z8.out).lt (fun e => by have h9 := Option.some.inj e; omega)).trans (Blk.below' HL6.out Z8.out))
                have HF9 : Hid (∀ x, W4.heap.size ≤ x → x < w5.heap.size → w9.heap[x]? = w5.heap[x]?) := Lib.hid (fun x h1 h2 => (hbne.out x (by have := HW1W4.out; omega) (by have := HSz6.out; omega)).trans (HF6.out x h1 h2))
                have HSz9 : Hid (w5.heap.size ≤ w9.heap.size) := Lib.hid (by have := HSz6.out; have := Z8.out.size; have := HG9.out.size; omega)
                have hrow9 : Own w9 W4.heap.size 2 1 yL yx.length ya (ints yx) := HROW6.out.kept (fun x _ h2 h3 => hbne.out x (by have := HW1W4.out; omega) h3)
                have hApt := HAp6.out.now hyp.out
                have HAp9 : Hid (AptFrom (us ++ [⟨(qn : Int), (an : Int), yL, ya, yx⟩]) ts5 (p + 1)) := Lib.hid (HAp6.out.next hyp.out HO5'.out.apt)
                clear hin e0 e1 e2 z8 b7 hO6 z7 hg9 hK9 hput
                go_upto_region 14 with fail
                clear hlk
                have hput := HPUT.out
                go_upto_region 15 with fail
                clear hput
                have e0 : w9.cell? ⟨W6.heap.size, 0, none⟩ = some (.int .i64 (qn : Int)) := b9.cell 0
                have e1 : w9.cell? ⟨W6.heap.size, 1, none⟩ = some (.int .i64 (an : Int)) := b9.cell 1
                have e2 : w9.cell? ⟨W6.heap.size, 2, none⟩ = some (.slice yL yx.length ya) := b9.cell 2
                have hOa := hO9.alloc (.cells #[.int .i64 (qn : Int), .int .i64 (an : Int), .slice yL yx.length ya] 58)
                have hwa := hrow9.alloc (.cells #[.int .i64 (qn : Int), .int .i64 (an : Int), .slice yL yx.length ya] 58)
                go_wp2_with (at_builtin; refine wpList_append_Own rfl (.tmp 62) (.tmp 64) rfl elPart (lo := W1.heap.size) rfl hOa.spine rfl (Pm.new w9 ⟨(qn : Int), (an : Int), yL, ya, yx⟩) (fun u hu => Pm.one [⟨(qn : Int), (an : Int), yL, ya, yx⟩] u (by simpa using hu)) (by have := HLU.out; omega) (by have := HLU.out; simp only [maxLen]; omega) (by have := HSz9.out; have := HW1W4.out; have := HW4W5.out; simp; omega) ?_; intro Ax cx wx ox hgx hwx)
                have hlen : (us ++ [(⟨(qn : Int), (an : Int), yL, ya, yx⟩ : Pm)]).length = us.length + 1 := by simp
                have HLN := Lib.hid hlen
                have hOs : OPs wx W1.heap.size Ax (us.length + 1) cx (us ++ [⟨(qn : Int), (an : Int), yL, ya, yx⟩]) := OPs.add hOa ox hgx (hwa.mono HW1W4.out) hApt
                have hA6 : Hid (∀ x, blk A6 = some x → W1.heap.size ≤ x) := Lib.hid (fun x hx => hOa.spine.blk_ge x hx)
                have HKx : Hid (Knows sy st wx w.heap.size (pas (us ++ [⟨(qn : Int), (an : Int), yL, ya, yx⟩]))) := Lib.hid (by
                  have h1 := (HK9.out.below ((Below.refl _ w9).alloc (Nat.le_refl _) (.cells #[.int .i64 (qn : Int), .int .i64 (an : Int), .slice yL yx.length ya] 58))).grown hgx (fun e => by have := hA6.out _ e; have := hw1.out; omega)
                  simpa [pas, Pm.pa] using h1)
                have HLx : Hid (Lev wx g sy st B m k (some ⟨b, off, none⟩) n c S2) := Lib.hid ((hgx.block g (Blk.alloc HL9.out _).lt (fun e => by have := hA6.out _ e.symm; have := hw1.out; omega)).trans (Blk.alloc HL9.out _))
                have HKbx : Hid (Kb g w wx) := Lib.hid ((HKb9.out.alloc _).grown hOa.spine (by have := hw1.out; omega) hgx)
                have HFx : Hid (∀ x, W4.heap.size ≤ x → x < w5.heap.size → wx.heap[x]? = w5.heap[x]?) := Lib.hid (fun x h1 h2 => by
                  have h3 := HF9.out x h1 h2
                  have h4 := Below.heap_alloc w9 (.cells #[.int .i64 (qn : Int), .int .i64 (an : Int), .slice yL yx.length ya] 58) x (by have := HSz9.out; omega)
                  exact (hgx.block x (by have := HSz9.out; simp; omega) (fun e => by have := HSp6.out _ e.symm; omega)).trans (h4.trans h3))
                have HSpx : Hid (∀ x, blk Ax = some x → x < W4.heap.size ∨ w5.heap.size ≤ x) := Lib.hid (fun x hx => by
                  rcases hwx.1 with h | h
                  · rw [h] at hx; exact HSp6.out x hx
                  · rw [h] at hx; have h9 := Option.some.inj hx; have := HSz9.out; simp at h9; omega)
                have HSzx : Hid (w5.heap.size ≤ wx.heap.size) := Lib.hid (by have h1 := hgx.size; have := HSz9.out; simp at h1; omega)
                clear hlen hgx hwx ox hOa hwa hApt hO9 e0 e1 e2 b9
                go_wp2_with fail
                go_roundw
                case rel => exact ⟨p + 1, Ax, cx, us ++ [⟨(qn : Int), (an : Int), yL, ya, yx⟩], by omega, by go_num, by rw [HLN.out], by rw [HLN.out]; exact hOs, HU8, HKx, HLx, HKbx, HFx, HSpx, HAp9, HSzx⟩
                case measure => simp [intOf]; omega
            · obtain rfl : p = ts5.length := by omega
              have i1 : ¬ (ts5.length : Int) < (ts5.length : Int) := by omega
              have HU7 : Hid (pas us = (pas ts5).foldl addNew (pas ts)) := Lib.hid (by rw [HU6.out, List.take_of_length_le (by rw [HTL.out]; exact Nat.le_refl _)])
              have HNT : Hid (nextTo sy rs (pas lv) (j + 1) = if 300 < us.length then none else some (pas us)) := Lib.hid (by
                have h1 : (pas lv).getD j ⟨0, 0, []⟩ = x.pa := by rw [List.getD_eq_getElem?_getD]; simp [pas, hxj.out]
                have h3 : (pas us).length = us.length := by simp [pas]
                simp only [nextTo, HN1.out, Option.bind_some]
                rw [h1]
                show ((predsF sy rs ⟨x.q, x.p, x.xs⟩).bind _) = _
                rw [HPF.out]
                simp only [Option.bind_some]
                rw [← HP5.out, ← HU7.out, h3])
              by_cases h300 : 300 < us.length
              · have j1 : (300 : Int) < (us.length : Int) := by omega
                have HNF : Hid (nextF sy rs (pas lv) = none) := Lib.hid (nextTo_none (by rw [HNT.out, if_pos h300]) _ (by have := HLV.out; simp [pas]; omega))
                go_wp2_with fail
                go_ret
                exact ⟨.inr ⟨.inr HNF.out, rfl⟩, HKb6.out⟩
              · have j1 : ¬ (300 : Int) < (us.length : Int) := by omega
                have HN2 : Hid (nextTo sy rs (pas lv) (j + 1) = some (pas us)) := Lib.hid (by rw [HNT.out, if_neg h300])
                have HL2 : Hid (Lev W6 g sy st B m k (some ⟨b, off, none⟩) n c (s - ((j + 1 : Nat) : Int))) := Lib.hid (by rw [show s - ((j + 1 : Nat) : Int) = S2 from by have := HS2.out; omega]; exact HL6.out)
                have HSJ : Hid (j + 1 = 0 ∨ ((j + 1 : Nat) : Int) ≤ s) := Lib.hid (.inr (by have := HS2.out; omega))
                have HW16 : Hid (W1.heap.size ≤ W6.heap.size) := Lib.hid (by have := HSz6.out; have := HW1W4.out; have := HW4W5.out; omega)
                go_wp2_with fail
                go_roundw
                case rel => exact ⟨j + 1, A6, c6, us, by omega, by go_num, rfl, hO6, HN2, HK6, HL2, HSJ, HKb6, HW16⟩
                case measure => simp [intOf]; omega
    · have i1 : ¬ (j : Int) < (n : Int) := by omega
      obtain rfl : j = n := by omega
      have y3 : W0.cell? ⟨g, 3, none⟩ = some (.slice A j c) := HL1.out.cell 3
      have f3 := HL1.out.frozen 3
      have L3 := Lib.hid (HL1.out.set_ 3 (.slice A' ts.length c'))
      have K3 := Lib.hid (HKb.out.set_ 3 (.slice A' ts.length c'))
      have O3 : Hid (OPs (W0.setCell ⟨g, 3, none⟩ (.slice A' ts.length c')) W1.heap.size A' ts.length c' ts) := Lib.hid (hO1.set_far (by have := hw1.out; omega) _)
      have hpl : (pas lv).length = j := by rw [← HLV.out]; simp [pas]
      have HNF : Hid (nextF sy rs (pas lv) = some (pas ts)) := Lib.hid (by unfold nextF; rw [hpl]; exact HN1.out)
      have HPL := Lib.hid hpl
      have HJS : Hid ((j : Int) ≤ s) := Lib.hid (by rcases HS1.out with h | h <;> omega)
      clear hpl
      go_wp2_with fail
      go_ret
      refine ⟨.inl ⟨by rw [HPL.out]; exact HJS.out, pas ts, A', c', ts, HNF.out, rfl, by rw [HPL.out]; exact L3.out, O3.out.mono (by have := hw1.out; omega), rfl⟩, K3.out⟩
end Go.Proofs.YtokglpdlhacnaaaDoor

/-
  Halting levels in plain words: what a run that halts says of them. No program is in sight.
-/
namespace Go.Proofs.YtokglpdlhacnaaaDoor
open Go.RowKit

/-- The symbol at a distance from the head. -/
def cellC (c : Conf) (d : Int) : Int := if 0 ≤ d then c.ys.getD d.toNat 0 else c.xs.getD (-d - 1).toNat 0
/-- A configuration matches a partial one. -/
def matchP (x : Pa) (c : Conf) : Prop := x.q = c.q ∧ ∀ k : Nat, k < x.cs.length → x.cs.getD k 0 = cellC c ((k : Int) - x.at_)
theorem getD_push (l : List Int) (a : Int) (k : Nat) : (pushI l.reverse a).reverse.getD k 0 = (a :: l).getD k 0 := by
  unfold pushI
  split
  · rename_i h
    obtain ⟨rfl, h⟩ := h
    have : l = [] := by simpa using h
    subst this
    cases k <;> simp
  · simp
theorem getD_tail' (l : List Int) (k : Nat) : l.tail.getD k 0 = l.getD (k + 1) 0 := by cases l <;> simp
theorem lastI_head (l : List Int) : lastI l.reverse = l.getD 0 0 := by cases l <;> simp [lastI]
theorem cell_step (r : R3) (c : Conf) (hb : r.b = -1 ∨ r.b = 1) (d : Int) : cellC (stepC r c.xs c.ys) d = if d + r.b = 0 then r.a else cellC c (d + r.b) := by
  rcases hb with hb | hb
  · have h1 : ¬ 0 < r.b := by omega
    have hys : ∀ k, (stepC r c.xs c.ys).ys.getD k 0 = (c.xs.getD 0 0 :: r.a :: c.ys.tail).getD k 0 := by
      intro k
      show (stepR r c.xs.reverse c.ys.reverse).reverse.getD k 0 = _
      unfold stepR
      rw [if_neg h1]
      have e : c.ys.reverse.dropLast = c.ys.tail.reverse := by rw [← rev_dropLast, List.reverse_reverse]
      rw [e]
      have e2 : pushI c.ys.tail.reverse r.a = (pushI c.ys.tail.reverse r.a).reverse.reverse := by rw [List.reverse_reverse]
      rw [e2, getD_push, lastI_head]
      cases k with
      | zero => rfl
      | succ k =>
        show (pushI c.ys.tail.reverse r.a).reverse.getD k 0 = (r.a :: c.ys.tail).getD k 0
        rw [getD_push]
    have hxs : (stepC r c.xs c.ys).xs = c.xs.tail := by
      show (stepL r c.xs.reverse).reverse = _
      unfold stepL
      rw [if_neg h1, rev_dropLast]
    unfold cellC
    rw [hb]
    by_cases h0 : 0 ≤ d
    · rw [if_pos h0, hys]
      by_cases h2 : d = 0
      · subst h2; rw [if_neg (by omega), if_neg (by omega)]; simp
      · by_cases h3 : d = 1
        · subst h3; rw [if_pos (by omega)]; rfl
        · rw [if_neg (by omega), if_pos (by omega)]
          obtain ⟨k, hk⟩ : ∃ k : Nat, d = (k : Int) + 2 := ⟨(d - 2).toNat, by omega⟩
          subst hk
          rw [show ((k : Int) + 2).toNat = k + 2 from by omega, show ((k : Int) + 2 + -1).toNat = k + 1 from by omega]
          show c.ys.tail.getD k 0 = _
          rw [getD_tail']
    · rw [if_neg h0, if_neg (by omega), if_neg (by omega), hxs, getD_tail']
      congr 1
      omega
  · have h1 : 0 < r.b := by omega
    have hys : (stepC r c.xs c.ys).ys = c.ys.tail := by
      show (stepR r c.xs.reverse c.ys.reverse).reverse = _
      unfold stepR
      rw [if_pos h1, rev_dropLast]
    have hxs : ∀ k, (stepC r c.xs c.ys).xs.getD k 0 = (r.a :: c.xs).getD k 0 := by
      intro k
      show (stepL r c.xs.reverse).reverse.getD k 0 = _
      unfold stepL
      rw [if_pos h1, getD_push]
    unfold cellC
    rw [hb]
    by_cases h0 : 0 ≤ d
    · rw [if_pos h0, if_neg (by omega), if_pos (by omega), hys, getD_tail']
      congr 1
      omega
    · rw [if_neg h0, hxs]
      by_cases h2 : d = -1
      · subst h2; rw [if_pos (by omega)]; rfl
      · rw [if_neg (by omega), if_neg (by omega)]
        obtain ⟨k, hk⟩ : ∃ k : Nat, d = -(k : Int) - 2 := ⟨(-d - 2).toNat, by omega⟩
        subst hk
        rw [show (-(-(k : Int) - 2) - 1).toNat = k + 1 from by omega, show (-(-(k : Int) - 2 + 1) - 1).toNat = k from by omega]
        rfl
section
variable {sy st : Int} {rs : List R3}
/-- Where the rule of a configuration stands. -/
theorem rule_at {c : Conf} (hc : goodC sy st rs c) : ∃ k : Nat, k < rs.length ∧ rs.getD k ⟨0, 0, -1⟩ = ruleOf sy rs c.q c.ys ∧ (k : Int) / sy = c.q ∧ (k : Int) % sy = cellC c 0 ∧ ruleOf sy rs c.q c.ys ∈ rs := by
  obtain ⟨h1, h2, h3, h4, hn, h5, h6, _, _, _, hym, _⟩ := conf_parts hc
  obtain ⟨_, _, l0, _, idx, hidx, hlt⟩ := at_parts (ys := c.ys.reverse) h1 h2 h3 h4 hn h5 h6 (fun y hy => hym y (List.mem_reverse.1 hy))
  have hget := ruleOf_get (rs := rs) (ys := c.ys) hidx hlt
  have l1 : lastI c.ys.reverse ≤ sy - 1 := by
    rcases lastI_mem (xs := c.ys.reverse) with h | h
    · omega
    · exact (hym _ (List.mem_reverse.1 h)).2
  have hc0 : cellC c 0 = lastI c.ys.reverse := by unfold cellC; rw [lastI_head]; rfl
  refine ⟨idx, hlt, ?_, ?_, ?_, List.mem_of_getElem? hget⟩
  · rw [List.getD_eq_getElem?_getD, hget]; rfl
  · rw [← hidx]; unfold atI
    rw [Int.add_comm, Int.add_mul_ediv_right _ _ (by omega), Int.ediv_eq_zero_of_lt l0 (by omega)]; omega
  · rw [← hidx, hc0]; unfold atI
    rw [Int.add_comm, Int.add_mul_emod_self_right]; exact Int.emod_eq_of_lt l0 (by omega)
theorem rule_move' {r : R3} (hm : machB sy st rs = true) (hr : r ∈ rs) (hi : isRuleB r = true) : r.b = -1 ∨ r.b = 1 := by
  unfold machB at hm
  simp only [Bool.and_eq_true, List.all_eq_true] at hm
  have h5 := hm.2 r hr
  unfold validRuleB at h5
  rw [hi] at h5
  simp only [Bool.not_true, Bool.false_or, Bool.and_eq_true, Bool.or_eq_true, beq_iff_eq] at h5
  exact h5.1.2
theorem good_mach {c : Conf} (hc : goodC sy st rs c) : machB sy st rs = true := by unfold goodC validConfB at hc; simp only [Bool.and_eq_true] at hc; exact hc.1
/-- The configuration before a step matches a predecessor of what matches the one behind it. -/
theorem pred_match {c : Conf} {x : Pa} (hc : goodC sy st rs c) (hh : haltC sy rs c = false) (hx : PaOk sy st x) (hm : matchP x (nextC sy rs c)) : ∃ k, k < rs.length ∧ ∃ y, predK sy rs x k = some y ∧ matchP y c := by
  obtain ⟨k, hk, hr, hq, ha, hmem⟩ := rule_at hc
  have hi : isRuleB (ruleOf sy rs c.q c.ys) = true := by unfold haltC at hh; simpa using hh
  have hb := rule_move' (good_mach hc) hmem hi
  unfold nextC at hm
  refine ⟨k, hk, ?_⟩
  unfold predK
  rw [hr, if_pos hi, hq, ha]
  revert hm hi hb
  generalize ruleOf sy rs c.q c.ys = r
  intro hm _ hb
  obtain ⟨m1, m2⟩ := hm
  have m3 : ∀ k : Nat, k < x.cs.length → x.cs.getD k 0 = if (k : Int) - x.at_ + r.b = 0 then r.a else cellC c ((k : Int) - x.at_ + r.b) := fun k hk => by rw [m2 k hk, cell_step r c hb]
  have h0 := hx.a0
  have h1 := hx.a1
  have hn : ¬ r.c ≠ x.q := by rw [m1]; exact fun h => h rfl
  unfold predF
  rw [if_neg hn]
  by_cases c1 : x.at_ - r.b < 0
  · rw [if_pos c1]
    refine ⟨_, rfl, rfl, fun j hj => ?_⟩
    cases j with
    | zero => simp
    | succ j =>
      have h2 := m3 j (by simpa using hj)
      rw [if_neg (by omega)] at h2
      show x.cs.getD j 0 = _
      rw [h2]
      show _ = cellC c (((j + 1 : Nat) : Int) - 0)
      congr 1; omega
  rw [if_neg c1]
  by_cases c2 : x.at_ - r.b = (x.cs.length : Int)
  · rw [if_pos c2]
    refine ⟨_, rfl, rfl, fun j hj => ?_⟩
    show (x.cs ++ [cellC c 0]).getD j 0 = cellC c ((j : Int) - (x.at_ - r.b))
    by_cases c3 : j < x.cs.length
    · have h2 := m3 j c3
      rw [if_neg (by omega)] at h2
      rw [List.getD_eq_getElem?_getD, List.getElem?_append_left c3, ← List.getD_eq_getElem?_getD, h2]
      congr 1; omega
    · have h2 : j = x.cs.length := by simp at hj; omega
      subst h2
      rw [List.getD_eq_getElem?_getD, List.getElem?_append_right (Nat.le_refl _)]
      simp only [Nat.sub_self, List.getElem?_cons_zero, Option.getD_some]
      congr 1; omega
  rw [if_neg c2]
  have h3 := m3 (x.at_ - r.b).toNat (by omega)
  rw [if_pos (by omega)] at h3
  rw [if_neg (by rw [h3]; exact fun h => h rfl)]
  refine ⟨_, rfl, rfl, fun j hj => ?_⟩
  have hj' : j < x.cs.length := by simpa using hj
  show (x.cs.set (x.at_ - r.b).toNat (cellC c 0)).getD j 0 = cellC c ((j : Int) - (x.at_ - r.b))
  rw [List.getD_eq_getElem?_getD, List.getElem?_set]
  by_cases c3 : (x.at_ - r.b).toNat = j
  · rw [if_pos c3, if_pos (by omega)]
    show cellC c 0 = _
    congr 1; omega
  · rw [if_neg c3, ← List.getD_eq_getElem?_getD, m3 j hj', if_neg (by omega)]
    congr 1; omega
theorem predsTo_has {x y : Pa} {k : Nat} (hy : predK sy rs x k = some y) : ∀ {n : Nat} {l : List Pa}, k < n → predsTo sy rs x n = some l → y ∈ l := by
  intro n
  induction n with
  | zero => intro l h; omega
  | succ n ih =>
    intro l hk h
    simp only [predsTo, Option.bind_eq_some_iff] at h
    obtain ⟨l0, e0, h⟩ := h
    by_cases c : k = n
    · subst c
      rw [hy] at h
      dsimp only at h
      split at h
      · cases h
      · cases h; simp
    · have h2 := ih (by omega) e0
      split at h
      · cases h; exact h2
      · split at h
        · cases h
        · cases h; simp [h2]
theorem foldl_has {z : Pa} : ∀ (l out : List Pa), z ∈ out ∨ z ∈ l → z ∈ l.foldl addNew out := by
  intro l
  induction l with
  | nil => intro out h; simpa using h
  | cons y l ih =>
    intro out h
    refine ih _ ?_
    have h1 : ∀ z, z ∈ out → z ∈ addNew out y := by intro z hz; unfold addNew; split <;> simp [hz]
    have h2 : y ∈ addNew out y := by unfold addNew; split <;> simp [*]
    rcases h with h | h
    · exact .inl (h1 z h)
    · rcases List.mem_cons.1 h with h | h
      · subst h; exact .inl h2
      · exact .inr h
theorem nextTo_has {lv : List Pa} {j : Nat} : ∀ {n : Nat} {l : List Pa}, j < n → nextTo sy rs lv n = some l → ∃ ps, predsF sy rs (lv.getD j ⟨0, 0, []⟩) = some ps ∧ ∀ y ∈ ps, y ∈ l := by
  intro n
  induction n with
  | zero => intro l h; omega
  | succ n ih =>
    intro l hj h
    simp only [nextTo, Option.bind_eq_some_iff] at h
    obtain ⟨l0, e0, l1, e1, h⟩ := h
    split at h
    · cases h
    · cases h
      by_cases c : j = n
      · subst c
        exact ⟨l1, e1, fun y hy => foldl_has _ _ (.inr hy)⟩
      · obtain ⟨ps, h1, h2⟩ := ih (by omega) e0
        exact ⟨ps, h1, fun y hy => foldl_has _ _ (.inl (h2 y hy))⟩
/-- Levels that a run passes. -/
theorem anc_match {c : Conf} (hc : goodC sy st rs c) : ∀ (k : Nat) {x : Pa} {lv l : List Pa}, Alive sy rs c k → (∀ x ∈ lv, PaOk sy st x ∧ x.cs.length ≤ 60) → x ∈ lv → matchP x (itC sy rs c k) → ancF sy rs k lv = some l → ∃ y ∈ l, matchP y c := by
  intro k
  induction k with
  | zero => intro x lv l _ _ hx hm h; cases h; exact ⟨x, hx, hm⟩
  | succ k ih =>
    intro x lv l hA hok hx hm h
    have hA' : Alive sy rs c k := fun j hj => hA j (by omega)
    simp only [ancF, Option.bind_eq_some_iff] at h
    obtain ⟨l1, e1, h⟩ := h
    obtain ⟨i, hi, y, hy, hmy⟩ := pred_match (hA'.good hc) (hA k (by omega)).1 (hok x hx).1 hm
    obtain ⟨j, hj, e⟩ := List.getElem_of_mem hx
    obtain ⟨ps, h1, h2⟩ := nextTo_has hj e1
    have e2 : lv.getD j ⟨0, 0, []⟩ = x := by rw [List.getD_eq_getElem?_getD, List.getElem?_eq_getElem hj, e]; rfl
    rw [e2] at h1
    exact ih hA' (nextF_ok (good_mach hc) hok e1).1 (h2 y (predsTo_has hy hi h1)) hmy h
/-- The partial configurations at which a machine halts. -/
def hpF (sy : Int) (rs : List R3) : List Pa := (freeF rs).map fun k => ⟨k / sy, 0, [k % sy]⟩
theorem mem_freeF {k : Int} : k ∈ freeF rs ↔ ∃ i : Nat, i < rs.length ∧ isRuleB (rs.getD i ⟨0, 0, -1⟩) = false ∧ k = (i : Int) := by
  unfold freeF freeTo
  simp only [List.mem_map, List.mem_filter, List.mem_range, Bool.not_eq_true']
  constructor
  · rintro ⟨i, ⟨h1, h2⟩, rfl⟩; exact ⟨i, h1, h2, rfl⟩
  · rintro ⟨i, h1, h2, rfl⟩; exact ⟨i, ⟨h1, h2⟩, rfl⟩
theorem hpF_ok (hm : machB sy st rs = true) : ∀ x ∈ hpF sy rs, PaOk sy st x ∧ x.cs.length ≤ 60 := by
  obtain ⟨p1, p2, p3, p4, p5, _⟩ := machB_parts hm
  intro x hx
  obtain ⟨k, hk, rfl⟩ := List.mem_map.1 hx
  obtain ⟨i, h1, _, rfl⟩ := mem_freeF.1 hk
  have hsy : 0 < sy := by omega
  refine ⟨⟨Int.ediv_nonneg (by omega) (by omega), Int.ediv_lt_of_lt_mul hsy (by omega), Int.le_refl 0, by simp, fun y hy => ?_⟩, by simp⟩
  rw [List.mem_singleton.1 hy]
  exact ⟨Int.emod_nonneg _ (by omega), Int.emod_lt_of_pos _ hsy⟩
theorem hpF_len : (hpF sy rs).length ≤ rs.length := by unfold hpF freeF; rw [List.length_map]; exact freeTo_len _ _
theorem halt_match {c : Conf} (hc : goodC sy st rs c) (hh : haltC sy rs c = true) : ∃ x ∈ hpF sy rs, matchP x c := by
  obtain ⟨k, hk, hr, hq, ha, _⟩ := rule_at hc
  refine ⟨_, List.mem_map.2 ⟨(k : Int), mem_freeF.2 ⟨k, hk, ?_, rfl⟩, rfl⟩, hq, fun j hj => ?_⟩
  · rw [hr]; unfold haltC at hh; simpa using hh
  · have : j = 0 := by simpa using hj
    subst this
    rw [ha]
    simp
theorem itC_add (c : Conf) (a b : Nat) : itC sy rs (itC sy rs c a) b = itC sy rs c (a + b) := by
  induction b with
  | zero => rfl
  | succ b ih => show nextC sy rs (itC sy rs (itC sy rs c a) b) = nextC sy rs (itC sy rs c (a + b)); rw [ih]
theorem depthF_anc : ∀ {d : Nat} {n b : Int} {lv : List Pa} {e : Int}, depthF sy rs d n b lv = some e → ∃ j : Nat, e = n + (j : Int) ∧ ancF sy rs j lv = some [] ∧ j ≤ d := by
  intro d
  induction d with
  | zero =>
    intro n b lv e h
    simp only [depthF] at h
    split at h
    · rename_i hl
      cases h
      exact ⟨0, by simp, by simp [ancF, hl], Nat.le_refl _⟩
    · cases h
  | succ d ih =>
    intro n b lv e h
    simp only [depthF] at h
    split at h
    · rename_i hl
      cases h
      exact ⟨0, by simp, by simp [ancF, hl], Nat.zero_le _⟩
    · split at h
      · cases h
      · simp only [Option.bind_eq_some_iff] at h
        obtain ⟨l1, e1, h⟩ := h
        obtain ⟨j, h1, h2, h3⟩ := ih h
        exact ⟨j + 1, by omega, by simp [ancF, e1, h2], by omega⟩
/-- No run that halts is as long as the number of the first empty level. -/
theorem depth_run {c : Conf} {k d : Nat} {n b e : Int} (hc : goodC sy st rs c) (hA : Alive sy rs c k) (hh : haltC sy rs (itC sy rs c k) = true) (h : depthF sy rs d n b (hpF sy rs) = some e) : n + (k : Int) < e := by
  obtain ⟨j, h1, h2, _⟩ := depthF_anc h
  refine Int.lt_of_not_ge fun hge => ?_
  have hj : j ≤ k := by omega
  have hA0 : Alive sy rs c (k - j) := fun i hi => hA i (by omega)
  obtain ⟨x, hx, hmx⟩ := halt_match (hA.good hc) hh
  have hA1 : Alive sy rs (itC sy rs c (k - j)) j := fun i hi => by
    rw [itC_add, itC_add]
    have h3 := hA (k - j + i) (by omega)
    exact h3
  obtain ⟨y, hy, _⟩ := anc_match (hA0.good hc) j hA1 (hpF_ok (good_mach hc)) hx (by rw [itC_add, show k - j + j = k by omega]; exact hmx) h2
  cases hy
theorem sizesF_first : ∀ {t : Nat} {lv : List Pa} {out s : List Int}, sizesF sy rs t lv out = some s → ∃ r, s = out ++ r := by
  intro t
  induction t with
  | zero => intro lv out s h; cases h; exact ⟨[], by simp⟩
  | succ t ih =>
    intro lv out s h
    simp only [sizesF] at h
    split at h
    · cases h; exact ⟨[], by simp⟩
    · simp only [Option.bind_eq_some_iff] at h
      obtain ⟨l1, _, h⟩ := h
      obtain ⟨r, hr⟩ := ih h
      exact ⟨_, by rw [hr, List.append_assoc]⟩
theorem sizesF_last : ∀ {t j : Nat} {lv : List Pa} {o s : List Int}, sizesF sy rs t lv (o ++ [(lv.length : Int)]) = some s → ancF sy rs j lv = some [] → j ≤ t → ∃ r, s = r ++ [0] := by
  intro t
  induction t with
  | zero =>
    intro j lv o s h h1 h2
    obtain rfl : j = 0 := by omega
    cases h
    simp only [ancF, Option.some.injEq] at h1
    exact ⟨o, by rw [h1]; rfl⟩
  | succ t ih =>
    intro j lv o s h h1 h2
    simp only [sizesF] at h
    split at h
    · rename_i hl
      cases h
      exact ⟨o, by rw [hl]; rfl⟩
    · rename_i hl
      simp only [Option.bind_eq_some_iff] at h
      obtain ⟨l1, e1, h⟩ := h
      cases j with
      | zero => simp only [ancF, Option.some.injEq] at h1; exact absurd h1 hl
      | succ j =>
        simp only [ancF, e1, Option.bind_some] at h1
        exact ih h h1 (by omega)
end
end Go.Proofs.YtokglpdlhacnaaaDoor

/-
  The partial configurations at which a machine halts (the program's).
-/
namespace Go.Proofs.YtokglpdlhacnaaaDoor
open Go.RowKit

/-- A slice of partial configurations in new memory. -/
def NewP (w : World) (l : List Pa) (e : Ending) (w' : World) : Prop :=
  ∃ A c ts, e = .returned (.slice A ts.length c) ∧ OPs w' w.heap.size A ts.length c ts ∧ pas ts = l ∧ Below w.heap.size w w'
theorem freeF_get {rs : List R3} {j : Nat} (hj : j < (freeF rs).length) : ∃ i : Nat, i < rs.length ∧ (freeF rs)[j]? = some (i : Int) := by
  obtain ⟨i, h1, _, h3⟩ := mem_freeF.1 (List.getElem_mem hj)
  exact ⟨i, h1, by rw [List.getElem?_eq_getElem hj, h3]⟩
set_option maxRecDepth 100000 in
set_option maxHeartbeats 8000000 in
theorem haltingPartials_any (sy st : Int) (B : Option Addr) (m k : Nat) (rs : List R3) (w : World) (hr : S3 w B m rs) (hm : machB sy st rs = true) :
    Calls Tryd.prog 81 #[.agg #[.int .i64 sy, .int .i64 st, .slice B m k]] w (NewP w (hpF sy rs)) := by
  obtain ⟨p1, p2, p3, p4, p5, _⟩ := machB_parts hm
  have hrl : rs.length ≤ 6000 := by have h5 : st * sy ≤ 1000 * 6 := Int.mul_le_mul p4 p2 (by omega) (by omega); omega
  have hml : m ≤ 6000 := by have := hr.len; omega
  have HFL : Hid ((freeF rs).length ≤ 6000) := Lib.hid (by have := freeTo_len rs rs.length; unfold freeF; omega)
  clear hm p3 p4 p5
  obtain ⟨V, hW_⟩ : ∃ W, W = w.alloc (.cells #[.int .i64 sy, .int .i64 st, .slice B m k] 43) := ⟨_, rfl⟩
  have b0 : Blk V w.heap.size 43 #[.int .i64 sy, .int .i64 st, .slice B m k] := by rw [hW_]; exact Blk.new w _ _
  have y0 : Below w.heap.size w V := by rw [hW_]; exact (Below.refl _ _).alloc (Nat.le_refl _) _
  have HV := Lib.hid hW_
  clear hW_
  have q0 : V.cell? ⟨w.heap.size, 0, none⟩ = some (.int .i64 sy) := b0.cell 0
  have q1 : V.cell? ⟨w.heap.size, 1, none⟩ = some (.int .i64 st) := b0.cell 1
  have q2 : V.cell? ⟨w.heap.size, 2, none⟩ = some (.slice B m k) := b0.cell 2
  obtain ⟨W1, hW_⟩ : ∃ W_, W_ = V.alloc (.cells #[] 58) := ⟨_, rfl⟩
  have c1 : Blk W1 V.heap.size 58 #[] := by rw [hW_]; exact Blk.new V _ _
  have z1 : Below V.heap.size V W1 := by rw [hW_]; exact (Below.refl _ _).alloc (Nat.le_refl _) _
  have HW1 := Lib.hid hW_
  clear hW_
  have o1 : OPs W1 V.heap.size (some ⟨V.heap.size, 0, none⟩) ([] : List Pm).length 0 [] := OPs.nil (by rw [HW1.out]; exact Own.lit0 V _ 3)
  have b1 := b0.below' z1
  have r0 : W1.cell? ⟨w.heap.size, 0, none⟩ = some (.int .i64 sy) := b1.cell 0
  have r1 : W1.cell? ⟨w.heap.size, 1, none⟩ = some (.int .i64 st) := b1.cell 1
  have r2 : W1.cell? ⟨w.heap.size, 2, none⟩ = some (.slice B m k) := b1.cell 2
  have HFR := Lib.hid (freeRules_any sy st B m k rs W1 ((hr.below y0).below z1) (by omega))
  have HB0 := Lib.hid b0
  have HY0 := Lib.hid y0
  have HZ1 := Lib.hid z1
  have HV1 : Hid (V.heap.size = w.heap.size + 1) := Lib.hid (by rw [HV.out]; simp)
  go_enter Tryd.func81, Tryd.ntmps81
  go_upto_region 1 with fail
  rw [← HV.out]
  go_upto_region 2 with fail
  rw [← HW1.out]
  clear HV HW1 c1 q0 q1 q2 b0 b1 hr y0 z1
  go_wp2_with (go_at_call 110; refine HFR.out.mono ?_; rintro e w2 ⟨F, f, rfl, hF, z2⟩)
  obtain ⟨N, hN⟩ : ∃ N, N = (freeF rs).length := ⟨_, rfl⟩
  rw [← hN] at hF HFL
  have HN := Lib.hid hN
  have HF := Lib.hid hF
  have HZ2 := Lib.hid (HZ1.out.trans (z2.mono HZ1.out.size))
  have o2 := o1.below z2
  have hN6 := HFL.out
  clear hN hF o1 z2 r0 r1 r2
  rw [← HN.out]
  go_loopw [3, 10] (fun v i wr => ∃ (j : Nat) (A' : Option Addr) (c' : Nat) (ts : List Pm), j ≤ N ∧ i = .int .i64 (j : Int) ∧ v = .slice A' ts.length c' ∧ OPs wr V.heap.size A' ts.length c' ts ∧ Hid (pas ts = ((freeF rs).take j).map fun k => ⟨k / sy, 0, [k % sy]⟩) ∧ Hid (Own wr W1.heap.size 2 1 F N f (ints (freeF rs))) ∧ Hid (Below V.heap.size V wr)) (fun _ i _ => N - (intOf i).toNat)
  case atStart => exact ⟨0, _, 0, [], by omega, rfl, rfl, o2, Lib.hid (by simp [pas]), HF, HZ2⟩
  case round =>
    obtain ⟨j, A', c', ts, hj, rfl, rfl, hO, HP, HFj, HZ⟩ := hrel
    rename World => W0
    clear o2 HF HZ2
    have HTL : Hid (ts.length = j) := Lib.hid (by have h1 := congrArg List.length HP.out; have := HN.out; simp [pas] at h1; omega)
    by_cases hlt : j < N
    · obtain ⟨b, off, rfl, hb, hc⟩ := HFj.out.rd.at_ (k := j) (by simp [ints]; have := HN.out; omega)
      obtain ⟨i, hi, hget⟩ := freeF_get (rs := rs) (j := j) (by have := HN.out; omega)
      have hci : (ints (freeF rs))[j]'(by simp [ints]; have := HN.out; omega) = .int .i64 (i : Int) := by
        obtain ⟨h1, h2⟩ := List.getElem?_eq_some_iff.1 hget
        simp only [ints, List.getElem_map, h2]
      rw [hci] at hc
      have HGET := Lib.hid hget
      have i0 : (0 : Int) ≤ (j : Int) := by omega
      have i1 : (j : Int) < (N : Int) := by omega
      obtain ⟨D, hD⟩ : ∃ D : Int, D = (i : Int) / sy := ⟨_, rfl⟩
      obtain ⟨R, hR⟩ : ∃ R : Int, R = (i : Int) % sy := ⟨_, rfl⟩
      have hD0 : 0 ≤ D ∧ D ≤ 6000 := by rw [hD]; exact ⟨Int.ediv_nonneg (by omega) (by omega), Int.ediv_le_of_le_mul (by omega) (by omega)⟩
      have s0 : ¬ sy = 0 := by omega
      have p1 : (i : Int).tdiv sy = D := by rw [hD]; exact Int.tdiv_eq_ediv_of_nonneg (by omega)
      have p2 : (i : Int).tmod sy = R := by rw [hR]; exact Int.tmod_eq_emod_of_nonneg (by omega)
      have p5 : IntKind.i64.wrap D = D := IntWalk.i64_in _ (by omega)
      have HPX : Hid (pas (ts ++ [(⟨D, 0, some ⟨W0.heap.size, 0, none⟩, 1, [R]⟩ : Pm)]) = ((freeF rs).take (j + 1)).map fun k => ⟨k / sy, 0, [k % sy]⟩) := Lib.hid (by
        rw [List.take_add_one, HGET.out, List.map_append, ← HP.out, hD, hR]
        simp [pas, Pm.pa])
      have HT6 : Hid (ts.length ≤ 6000) := Lib.hid (by have := HTL.out; omega)
      have hcell : ∀ W', Below V.heap.size V W' → W'.cell? ⟨w.heap.size, 0, none⟩ = some (.int .i64 sy) := fun W' h => (HB0.out.below' h).cell 0
      have HCELL := Lib.hid hcell
      clear hD hR hci hget hcell
      go_upto_region 5 with fail
      clear hc
      have hp : Below V.heap.size V W0.drew := below_drewN HZ.out 1
      have hO2 : OPs W0.drew V.heap.size A' ts.length c' ts := hO.drewN 1
      have HS0 : Hid (W0.drew.heap.size = W0.heap.size) := Lib.hid rfl
      have HFd : Hid (Own W0.drew W1.heap.size 2 1 (some ⟨b, off, none⟩) N f (ints (freeF rs))) := Lib.hid (HFj.out.drewN 1)
      refine wp_region_held_drew (S := (fun w' => w'.cell? ⟨w.heap.size, 0, none⟩ = some (.int .i64 sy))) (by kernel_rfl) ?_ (fun hHeld => ?_)
      · exact HCELL.out _ hp
      generalize W0.drew = Wd at *
      refine wpAnyH_take (i := 0) (v := ?_) rfl (by kernel_rfl) (by kernel_rfl) (by kernel_rfl) (fun _ _ _ h => h) (Or.inl ⟨by rfl, ?_⟩) (by assumption) ?_
      rotate_left
      · intro w hSw
        try dsimp only at hSw
        go_simp
        try with_reducible rfl
      try simp only [Act.put, List.setIfInBounds_toArray, List.set_cons_zero, List.set_cons_succ]
      refine wpAnyH_take (i := 1) (v := ?_) rfl (by kernel_rfl) (by kernel_rfl) (by kernel_rfl) (fun _ _ _ h => h) (Or.inl ⟨by rfl, ?_⟩) (by assumption) ?_
      rotate_left
      · intro w hSw
        try dsimp only at hSw
        go_simp
        try with_reducible rfl
      try simp only [Act.put, List.setIfInBounds_toArray, List.set_cons_zero, List.set_cons_succ]
      refine wpAnyH_take (i := 2) (v := ?_) rfl (by kernel_rfl) (by kernel_rfl) (by kernel_rfl) (fun _ _ _ h => h) (Or.inl ⟨by rfl, ?_⟩) (by assumption) ?_
      rotate_left
      · intro w hSw
        try dsimp only at hSw
        go_simp
        try with_reducible rfl
      try simp only [Act.put, List.setIfInBounds_toArray, List.set_cons_zero, List.set_cons_succ]
      refine wpAnyH_take (i := 3) (v := ?_) rfl (by kernel_rfl) (by kernel_rfl) (by kernel_rfl) (fun _ _ _ h => h) (Or.inl ⟨by rfl, ?_⟩) (by assumption) ?_
      rotate_left
      · intro w hSw
        try dsimp only at hSw
        go_simp
        try with_reducible rfl
      try simp only [Act.put, List.setIfInBounds_toArray, List.set_cons_zero, List.set_cons_succ]
      refine wpAnyH_take (i := 4) (v := ?_) rfl (by kernel_rfl) (by kernel_rfl) (by kernel_rfl) (fun _ _ _ h => h) (Or.inl ⟨by rfl, ?_⟩) (by assumption) ?_
      rotate_left
      · intro w hSw
        try dsimp only at hSw
        go_simp
        try with_reducible rfl
      try simp only [Act.put, List.setIfInBounds_toArray, List.set_cons_zero, List.set_cons_succ]
      refine wpAnyH_take (i := 5) (v := ?_) rfl (by kernel_rfl) (by kernel_rfl) (by kernel_rfl) (fun _ _ _ h => h) (Or.inl ⟨by rfl, ?_⟩) (by assumption) ?_
      rotate_left
      · intro w hSw
        try dsimp only at hSw
        go_simp
        try with_reducible rfl
      try simp only [Act.put, List.setIfInBounds_toArray, List.set_cons_zero, List.set_cons_succ]
      refine wpAnyH_take (i := 6) (v := ?_) rfl (by kernel_rfl) (by kernel_rfl) (by kernel_rfl) (fun _ _ _ h => h) (Or.inl ⟨by rfl, ?_⟩) (by assumption) ?_
      rotate_left
      · intro w hSw
        try dsimp only at hSw
        go_simp
        try with_reducible rfl
      try simp only [Act.put, List.setIfInBounds_toArray, List.set_cons_zero, List.set_cons_succ]
      refine wpAnyH_take (i := 7) (v := ?_) rfl (by kernel_rfl) (by kernel_rfl) (by kernel_rfl) (fun _ _ _ h => h) (Or.inl ⟨by rfl, ?_⟩) (by assumption) ?_
      rotate_left
      · intro w hSw
        try dsimp only at hSw
        go_simp
        try with_reducible rfl
      try simp only [Act.put, List.setIfInBounds_toArray, List.set_cons_zero, List.set_cons_succ]
      refine wpAnyH_take (i := 8) (v := ?_) rfl (by kernel_rfl) (by kernel_rfl) (by kernel_rfl) (fun _ _ _ h => h) (Or.inl ⟨by rfl, ?_⟩) (by assumption) ?_
      rotate_left
      · intro w hSw
        try dsimp only at hSw
        go_simp
        try with_reducible rfl
      try simp only [Act.put, List.setIfInBounds_toArray, List.set_cons_zero, List.set_cons_succ]
      refine wpAnyH_ready (rs := [9]) (by kernel_rfl) (by simp) ?_
      refine AllReadyH.cons rfl (fun K hK => ?_) ?_
      · go_simp
        have hp1 := hp.alloc hp.size (.cells #[.int .i64 R] 2)
        refine hK.out _ _ ?_ (fun hHeld => ?_)
        · first | exact HCELL.out _ hp3 | exact HCELL.out _ hp2 | exact HCELL.out _ hp1
        clear hK K
        try simp only [Act.put, List.setIfInBounds_toArray, List.set_cons_zero, List.set_cons_succ]
        refine wpAnyH_take (i := 10) (v := ?_) rfl (by kernel_rfl) (by kernel_rfl) (by kernel_rfl) (fun _ _ _ h => h) (Or.inl ⟨by rfl, ?_⟩) (by assumption) ?_
        rotate_left
        · intro w hSw
          try dsimp only at hSw
          go_simp
          try with_reducible rfl
        try simp only [Act.put, List.setIfInBounds_toArray, List.set_cons_zero, List.set_cons_succ]
        refine wpAnyH_ready (rs := [11]) (by kernel_rfl) (by simp) ?_
        refine AllReadyH.cons rfl (fun K hK => ?_) ?_
        · go_simp
          have hp2 := hp1.alloc hp1.size (.cells #[.int .i64 D, .int .i64 0, .slice (some ⟨Wd.heap.size, 0, none⟩) 1 1] 58)
          refine hK.out _ _ ?_ (fun hHeld => ?_)
          · first | exact HCELL.out _ hp3 | exact HCELL.out _ hp2 | exact HCELL.out _ hp1
          clear hK K
          try simp only [Act.put, List.setIfInBounds_toArray, List.set_cons_zero, List.set_cons_succ]
          refine wpAnyH_ready (rs := [12]) (by kernel_rfl) (by simp) ?_
          refine AllReadyH.cons rfl (fun K hK => ?_) ?_
          · rw [if_pos (by rfl)]
            have hrd : Rd ((Wd.alloc (.cells #[.int .i64 R] 2)).alloc (.cells #[.int .i64 D, .int .i64 0, .slice (some ⟨Wd.heap.size, 0, none⟩) 1 1] 58)) 3 (some ⟨Wd.heap.size + 1, 0, none⟩) 1 (Pm.cells ⟨D, 0, some ⟨Wd.heap.size, 0, none⟩, 1, [R]⟩) := by
              have h := Pm.new (Wd.alloc (.cells #[.int .i64 R] 2)) ⟨D, 0, some ⟨Wd.heap.size, 0, none⟩, 1, [R]⟩
              have e : (Wd.alloc (.cells #[.int .i64 R] 2)).heap.size = Wd.heap.size + 1 := by simp
              rw [e] at h
              exact h
            refine wp_append_Own (.tmp 14) (.tmp 25) rfl elPart (lo := V.heap.size) rfl ((hO2.alloc _).alloc _).spine rfl hrd (fun u hu => Pm.one [⟨D, 0, some ⟨Wd.heap.size, 0, none⟩, 1, [R]⟩] u (by simpa using hu)) (by have := HT6.out; omega) (by have := HT6.out; simp only [maxLen]; omega) (by have := hp.size; simp; omega) ?_
            intro A5 c5 w5 o5 hg5 hw5
            have hp3 : Below V.heap.size V w5 := Own.below_of ((hO2.alloc _).alloc _).spine hp2 hg5 (by have := hp.size; simp; omega)
            refine hK.out _ _ ?_ (fun hHeld => ?_)
            · first | exact HCELL.out _ hp3 | exact HCELL.out _ hp2 | exact HCELL.out _ hp1
            clear hK K
            try simp only [Act.put, List.setIfInBounds_toArray, List.set_cons_zero, List.set_cons_succ]
            refine wpAnyH_ready (rs := [13]) (by kernel_rfl) (by simp) ?_
            refine AllReadyH.cons rfl (fun K hK => ?_) ?_
            · go_simp
              refine hK.out _ _ ?_ (fun hHeld => ?_)
              · first | exact HCELL.out _ hp3 | exact HCELL.out _ hp2 | exact HCELL.out _ hp1
              clear hK K
              try simp only [Act.put, List.setIfInBounds_toArray, List.set_cons_zero, List.set_cons_succ]
              refine wpAnyH_done (by kernel_rfl) ?_ _
              have hrw : Own ((Wd.alloc (.cells #[.int .i64 R] 2)).alloc (.cells #[.int .i64 D, .int .i64 0, .slice (some ⟨Wd.heap.size, 0, none⟩) 1 1] 58)) Wd.heap.size 2 1 (some ⟨Wd.heap.size, 0, none⟩) 1 1 (ints [R]) := (Own.lit Wd #[.int .i64 R] _ 1 1 Wd.heap.size rfl (by simp [maxLen]) (Nat.le_refl _)).alloc _
              have hsn : OPs w5 V.heap.size A5 (ts.length + 1) c5 (ts ++ [(⟨D, 0, some ⟨W0.heap.size, 0, none⟩, 1, [R]⟩ : Pm)]) := by rw [← HS0.out]; exact OPs.snoc (wa := Wd) hO2 (Nat.le_refl _) ((hO2.alloc _).alloc _) o5 hg5 hrw hp.size
              have hfr : Own w5 W1.heap.size 2 1 (some ⟨b, off, none⟩) N f (ints (freeF rs)) := Own.grown_apt ((HFd.out.alloc _).alloc _) ((hO2.alloc _).alloc _).spine hg5 (by decide)
              have HFR5 := Lib.hid hfr
              have HP5 := Lib.hid hp3
              have hlen : (ts ++ [(⟨D, 0, some ⟨W0.heap.size, 0, none⟩, 1, [R]⟩ : Pm)]).length = ts.length + 1 := by simp
              have HLN := Lib.hid hlen
              clear hlen hrw hg5 hw5 o5 hp3 hfr
              go_wp2_with fail
              go_roundw
              case rel => exact ⟨j + 1, A5, c5, ts ++ [(⟨D, 0, some ⟨W0.heap.size, 0, none⟩, 1, [R]⟩ : Pm)], by omega, by go_num, by rw [HLN.out], by rw [HLN.out]; exact hsn, HPX, HFR5, HP5⟩
              case measure => simp [intOf]; omega
            exact AllReadyH.nil
          exact AllReadyH.nil
        exact AllReadyH.nil
      exact AllReadyH.nil
    · obtain rfl : j = N := by omega
      have i1 : ¬ (j : Int) < (j : Int) := by omega
      have HPE : Hid (pas ts = hpF sy rs) := Lib.hid (by rw [HP.out, List.take_of_length_le (by have := HN.out; omega)]; rfl)
      have HE : Hid (NewP w (hpF sy rs) (.returned (.slice A' ts.length c')) W0) := Lib.hid ⟨A', c', ts, rfl, hO.mono HY0.out.size, HPE.out, HY0.out.trans (HZ.out.mono HY0.out.size)⟩
      go_wp2_with fail
      go_ret
      exact HE.out
end Go.Proofs.YtokglpdlhacnaaaDoor
