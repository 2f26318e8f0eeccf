/-
  The walk of the law FnBranch: it returns true, and nothing that was there before has turned.
-/
import Derived.Test.YtfheepjfpgiaoaaPkBranch1
import Derived.Test.YtfheepjfpgiaoaaPkBranch6
import Derived.Test.YtfheepjfpgiaoaaDrawSt
import Derived.Test.YtfheepjfpgiaoaaDrawOk
import Derived.Test.YtfheepjfpgiaoaaRows
import Derived.Test.YtfheepjfpgiaoaaR8
namespace Go.Proofs.Ytfheepjfpgiaoaa
open Go.RowKit

theorem OC.setRow {w : World} {lo lo' n c n' c' : Nat} {A S : Option Addr} {ts : List Ce} {cs : List Value} {p : Addr} (h : OC w lo A n c ts) (ho : Own w lo' 43 1 S n' c' cs) (hb : blk S = some p.block) (u : Value) : OC (w.setCell p u) lo A n c ts :=
  ⟨h.1.far (fun e => (ho.blk_ne h.1 (by decide)) _ hb e) u, fun t ht => (h.2 t ht).far (fun e => (ho.blk_ne (h.2 t ht) (by decide)) _ hb e) u⟩
/-- A tree nil is put into a store; all else stays. -/
structure Lives (w0 : World) (w : World) (Y : Option Addr) (yc : Nat) (ts : List Ce) (N : Option Addr) (nc : Nat) (us : List Ce) (P : Option Addr) (pc : Nat) (vs : List Ce) (X : Option Addr) (xc : Nat) (x : Tr) (sl : Nat) (S : Option Addr) (sc : Nat) (s : List Tr) : Prop where
  y : OC w 0 Y ts.length yc ts
  n : OC w 0 N us.length nc us
  p : OC w 0 P vs.length pc vs
  x : Own w 0 4 1 X x.nodes xc (bools x.enc)
  s : NowS w sl S sc s
  z : Below w0.heap.size w0 w
  lo : w0.heap.size ≤ sl
theorem Lives.put {w0 w : World} {Y N P X : Option Addr} {yc nc pc xc sl sc b off k : Nat} {ts us vs : List Ce} {x : Tr} {s : List Tr} (h : Lives w0 w Y yc ts N nc us P pc vs X xc x sl (some ⟨b, off, none⟩) sc s) (hk : k < s.length) :
    Lives w0 ((w.alloc (.cells #[.bool false] 4)).setCell ⟨b, off + k, none⟩ (.slice (some ⟨w.heap.size, 0, none⟩) 1 1)) Y yc ts N nc us P pc vs X xc x sl (some ⟨b, off, none⟩) sc (s.set k .nil) := by
  have z : Below w.heap.size w (w.alloc (.cells #[.bool false] 4)) := (Below.refl _ _).alloc (Nat.le_refl _) _
  obtain ⟨bs, hb1, hb2⟩ := (h.s.below z).row
  have hle : sl ≤ w.heap.size := by
    obtain ⟨bs', _, hb'⟩ := h.s.row
    have h1 := hb'.1.blk_ge b rfl
    have h2 := hb'.1.blk_lt b rfl
    omega
  refine ⟨(h.y.below z).setRow (p := ⟨b, off + k, none⟩) hb2.1 rfl _, (h.n.below z).setRow (p := ⟨b, off + k, none⟩) hb2.1 rfl _, (h.p.below z).setRow (p := ⟨b, off + k, none⟩) hb2.1 rfl _, ?_, ?_, ?_, h.lo⟩
  · exact (h.x.below z).far (p := ⟨b, off + k, none⟩) (fun e => (hb2.1.blk_ne (h.x.below z) (by decide)) _ rfl e) _
  · have ho : Own (w.alloc (.cells #[.bool false] 4)) w.heap.size 4 1 (some ⟨w.heap.size, 0, none⟩) (Tr.nodes .nil) 1 (bools (Tr.enc .nil)) := Own.lit w #[.bool false] _ 1 1 w.heap.size rfl (by simp [maxLen]) (Nat.le_refl _)
    exact h.s.set z hk hle ho
  · have h1 := hb2.1.blk_ge b rfl
    exact (h.z.trans (z.mono h.z.size)).setCell (p := ⟨b, off + k, none⟩) (Nat.le_trans h.lo h1) _
theorem brF_short {e : List R2} {ys ns : List Cmd} (he : e.length ≤ 40) (hy : ∀ c ∈ ys, c.e.length ≤ 40) (hn : ∀ c ∈ ns, c.e.length ≤ 40) : ∀ c ∈ brF e ys ns, c.e.length ≤ 10000 := by
  intro c hc
  unfold brF at hc
  simp only [List.cons_append, List.nil_append, List.mem_cons, List.mem_append] at hc
  rcases hc with rfl | rfl | rfl | rfl | rfl | h | rfl | rfl | h
  · show e.length ≤ 10000; omega
  · show 3 ≤ 10000; omega
  · show 1 ≤ 10000; omega
  · show 1 ≤ 10000; omega
  · show 1 ≤ 10000; omega
  · have := hy c h; omega
  · show 1 ≤ 10000; omega
  · show 1 ≤ 10000; omega
  · have := hn c h; omega
theorem cmds_short {ts : List Ce} (h : ∀ t ∈ ts, t.e.length ≤ 40) : ∀ c ∈ cmds ts, c.e.length ≤ 40 := by
  intro c hc
  obtain ⟨t, ht, rfl⟩ := List.mem_map.1 hc
  exact h t ht
set_option maxRecDepth 100000 in
set_option maxHeartbeats 16000000 in
theorem lawBranch (A : Option Addr) (n c : Nat) (xs : List Int) (B : Option Addr) (m d : Nat) (ys : List Int) (w : World) (hx : SBy w A n xs) (hA : ∀ k, blk A = some k → k < w.heap.size) (hy : SBy w B m ys) (hB : ∀ k, blk B = some k → k < w.heap.size) (hn : n ≤ 9223372036854775807) (hm : m ≤ 9223372036854775807) :
    Calls Try.prog 4 #[.slice A n c, .slice B m d] w fun e w' => e = .returned (.bool true) ∧ Below w.heap.size w w' := by
  by_cases hlong : 1048576 < n
  · go_enter Try.func4, Try.ntmps4
    go_wp2_with (go_at_call 20; refine (b10Long_yes _ _ _ _ hlong).mono ?_; rintro e w' ⟨rfl, rfl⟩)
    go_ret
    exact ⟨rfl, Below.refl _ _⟩
  by_cases hlong2 : 1048576 < m
  · go_enter Try.func4, Try.ntmps4
    go_wp2_with (first | (go_at_call 20; (with_reducible refine (b10Long_no A n c w hlong).mono ?_); rintro e w' ⟨rfl, rfl⟩) | (go_at_call 20; (with_reducible refine (b10Long_yes B m d w hlong2).mono ?_); rintro e w' ⟨rfl, rfl⟩))
    go_ret
    exact ⟨rfl, Below.refl _ _⟩
  have HX := Lib.hid hx
  have HY := Lib.hid hy
  have HA := Lib.hid hA
  have HB := Lib.hid hB
  clear hx hA hy hB
  go_enter Try.func4, Try.ntmps4
  go_wp2_with (first | (go_at_call 20; (with_reducible refine (b10Long_no A n c w hlong).mono ?_); rintro e w' ⟨rfl, rfl⟩) | (go_at_call 20; (with_reducible refine (b10Long_no B m d w hlong2).mono ?_); rintro e w' ⟨rfl, rfl⟩))
  clear hlong hlong2
  refine (b10Expr_any A n c xs w HX.out HA.out hn).mono ?_
  rintro e w1 ⟨D1, d1, ex, rfl, o1, hel, HLO, z1⟩
  have HO1 := Lib.hid o1
  have HZ1 := Lib.hid z1
  have hw1 := z1.size
  clear o1 z1
  go_wp2_with fail
  refine (b10While_any A n c xs w1 (HX.out.below HZ1.out) (fun k hk => Nat.lt_of_lt_of_le (HA.out k hk) hw1) hn).mono ?_
  rintro e w2 ⟨Y, yc, ts, py, rfl, HYC, oy, hyl, HYR, HYLO, HYOK, z2⟩
  have HO2 := Lib.hid (HO1.out.below z2)
  have HOY := Lib.hid oy
  have HZ2 := Lib.hid (HZ1.out.trans (z2.mono hw1))
  have hw2 := HZ2.out.size
  have hw12 := z2.size
  clear oy z2 HO1 HZ1
  go_wp2_with fail
  refine (b10While_any B m d ys w2 (HY.out.below HZ2.out) (fun k hk => Nat.lt_of_lt_of_le (HB.out k hk) hw2) hm).mono ?_
  rintro e w3 ⟨N, nc, us, pn, rfl, HNC, on, hnl, HNR, HNLO, HNOK, z3⟩
  have HO3 := Lib.hid (HO2.out.below z3)
  have HOY3 := Lib.hid (HOY.out.below z3)
  have HON := Lib.hid on
  have HZ3 := Lib.hid (HZ2.out.trans (z3.mono hw2))
  have hw3 := HZ3.out.size
  clear on z3 HO2 HOY HZ2
  go_wp2_with fail
  refine (b10Store_any B m d ys w3 (HY.out.below HZ3.out) (fun k hk => Nat.lt_of_lt_of_le (HB.out k hk) hw3) hm).mono ?_
  rintro e w4 ⟨S, sc, ss, rfl, HS6, HSN, os, z4⟩
  have HO4 := Lib.hid (HO3.out.below z4)
  have HY4 := Lib.hid (HOY3.out.below z4)
  have HN4 := Lib.hid (HON.out.below z4)
  have HS4 := Lib.hid os
  have HZ4 := Lib.hid (HZ3.out.trans (z4.mono hw3))
  have hw4 := HZ4.out.size
  clear os z4 HO3 HOY3 HON HZ3
  have HEE : Hid (isEx ex.enc = true) := Lib.hid (isEx_good ⟨low_ok HLO.out, by omega⟩)
  have HVY : Hid (validWh (cmds ts) = true) := Lib.hid (validWh_of HYC.out (by rw [cmds_len]; omega) HYOK.out)
  have HVN : Hid (validWh (cmds us) = true) := Lib.hid (validWh_of HNC.out (by rw [cmds_len]; omega) HNOK.out)
  have HBR := Lib.hid (branchWhile_any D1 ex.len d1 ex.enc Y ts.length yc ts N us.length nc us w4 HO4.out.rd HEE.out HY4.out.sc HVY.out HY4.out.1.le HN4.out.sc HVN.out HN4.out.1.le (brF_short (by rw [ex_len]; omega) (cmds_short HYR.out) (cmds_short HNR.out)) (fun t ht => by have := HYR.out t ht; omega) (fun t ht => by have := HNR.out t ht; omega))
  go_wp2_with fail
  refine HBR.out.mono ?_
  rintro e w5 ⟨v, rfl, ⟨x1, y1, rfl, hcase⟩, z5⟩
  have HO5 := Lib.hid (HO4.out.below z5)
  have HY5 := Lib.hid (HY4.out.below z5)
  have HN5 := Lib.hid (HN4.out.below z5)
  have HS5 := Lib.hid (HS4.out.below z5)
  have HZ5 := Lib.hid (HZ4.out.trans (z5.mono hw4))
  have hw5 := HZ5.out.size
  clear z5 HO4 HY4 HN4 HS4 HZ4 HBR HEE HVY HVN
  rcases hcase with ⟨_, rfl, rfl⟩ | ⟨hle, rfl, P, pc, vs, rfl, hvs, op⟩
  · go_wp2_with fail
    go_ret
    exact ⟨rfl, HZ5.out⟩
  have HVS : Hid (cmds vs = (brP ex py pn).enc) := Lib.hid (by rw [hvs, HYC.out, HNC.out, brF_enc])
  have HVL : Hid ((cmds vs).length ≤ 80) := Lib.hid (by rw [hvs]; exact hle)
  have HP5 := Lib.hid op
  have HVR : Hid (∀ t ∈ vs, t.e.length ≤ 10000) := Lib.hid (fun t ht => brF_short (e := ex.enc) (by rw [ex_len]; omega) (cmds_short HYR.out) (cmds_short HNR.out) t.cmd (by rw [← hvs]; exact List.mem_map.2 ⟨t, ht, rfl⟩))
  clear hle hvs op
  -- the value of the condition
  obtain ⟨bs, hb1, hb2⟩ := HS5.out.row
  have hok := okStore_of hb1 HS6.out (fun t ht => by have := HSN.out t ht; omega)
  have hbl : bs.length = 6 := by have h := congrArg List.length hb1; simpa [numsB, HS6.out] using h
  have hbn : ∀ u ∈ bs, u.xs.length ≤ 1048576 := by
    intro u hu
    have h1 : u.xs ∈ ss.map Tr.enc := by rw [← hb1]; exact List.mem_map.2 ⟨u, hu, rfl⟩
    obtain ⟨t, ht, he⟩ := List.mem_map.1 h1
    rw [← he, enc_len]; have := HSN.out t ht; omega
  have HEV := Lib.hid (evalExpr_any D1 ex.len d1 ex S 6 sc bs w5 HO5.out.rd (by omega) (low_ok HLO.out) (by have h := hb2.sii; rw [HS6.out] at h; exact h) (by omega) hbn hok.1)
  rw [hok.2] at HEV
  clear hb1 hb2 hok hbl hbn
  cases hev : ex.ev ss with
  | none =>
    rw [hev] at HEV
    clear hev
    go_wp2_with fail
    refine HEV.out.mono ?_
    rintro e w6 ⟨z6, rfl⟩
    have HZ6 := Lib.hid (HZ5.out.trans (z6.mono hw5))
    clear z6
    go_wp2_with fail
    go_ret
    exact ⟨rfl, HZ6.out⟩
  | some x =>
    have HEX := Lib.hid hev
    rw [hev] at HEV
    clear hev
    go_wp2_with fail
    refine HEV.out.mono ?_
    rintro e w6 ⟨z6, X, xc, rfl, ox⟩
    have hw3' : w.heap.size ≤ w3.heap.size := hw3
    have hL6 : Lives w w6 Y yc ts N nc us P pc vs X xc x w3.heap.size S sc ss := ⟨(HY5.out.below z6).mono (Nat.zero_le _), (HN5.out.below z6).mono (Nat.zero_le _), (HP5.out.below z6).mono (Nat.zero_le _), ox.mono (Nat.zero_le _), HS5.out.below z6, HZ5.out.trans (z6.mono hw5), hw3'⟩
    have hxn : ((x.nodes : Int) == 0) = false := by have := nodes_pos x; simp; omega
    obtain ⟨t4, ht4⟩ : ∃ t4, ss[4]? = some t4 := ⟨ss[4]'(by rw [HS6.out]; omega), List.getElem?_eq_getElem _⟩
    obtain ⟨u4, sb, so, _, rfl, hsbl, hc4⟩ := hL6.s.trd.pick ht4
    obtain ⟨⟨v4, hv4⟩, hf4, hlo4, _⟩ := hL6.s.at_ (k := 4) (by rw [HS6.out]; omega)
    have hL8 := hL6.put (k := 4) (by rw [HS6.out]; omega)
    rw [World.setCell_alloc_past _ sb _ _ hsbl] at hL8
    clear HEV z6 ox HY5 HN5 HP5 HS5 HZ5 hc4 ht4
    go_upto_region 14 with fail
    generalize (w6.setCell ⟨sb, so + 4, none⟩ (.slice (some ⟨w6.heap.size, 0, none⟩) 1 1)).alloc (.cells #[.bool false] 4) = w8 at *
    have HL6 := Lib.hid hL6
    clear hL6 hv4 hf4
    obtain ⟨t5, ht5⟩ : ∃ t5, (ss.set 4 .nil)[5]? = some t5 := ⟨(ss.set 4 .nil)[5]'(by rw [List.length_set, HS6.out]; omega), List.getElem?_eq_getElem _⟩
    obtain ⟨u5, sb5, so5, _, e5, hsbl5, _⟩ := hL8.s.trd.pick ht5
    simp only [Option.some.injEq, Addr.mk.injEq, and_true] at e5
    obtain ⟨rfl, rfl⟩ := e5
    obtain ⟨⟨v5, hv5⟩, hf5, hlo5, _⟩ := hL8.s.at_ (k := 5) (by rw [List.length_set, HS6.out]; omega)
    have hL9 := hL8.put (k := 5) (by rw [List.length_set, HS6.out]; omega)
    rw [World.setCell_alloc_past _ sb _ _ hsbl5] at hL9
    clear hL8 ht5
    go_upto_region 15 with fail
    generalize (w8.setCell ⟨sb, so + 5, none⟩ (.slice (some ⟨w8.heap.size, 0, none⟩) 1 1)).alloc (.cells #[.bool false] 4) = V at *
    clear hv5 hf5
    obtain ⟨s0, hs0⟩ : ∃ s0, (ss.set 4 .nil).set 5 .nil = s0 := ⟨_, rfl⟩
    rw [hs0] at hL9
    have HS0 := Lib.hid hs0
    have HL9 := Lib.hid hL9
    obtain ⟨xl, hxl⟩ := enc_at0 x
    obtain ⟨xb, xo, rfl, hxbl, hxc⟩ := (show SB V X x.nodes x.enc from hL9.x.rd).at_ (k := 0) (by have := nodes_pos x; omega)
    have hx0 : V.cell? ⟨xb, xo, none⟩ = some (.bool (decide (x ≠ .nil))) := by
      have h : x.enc[0]'(by rw [enc_len]; have := nodes_pos x; omega) = decide (x ≠ .nil) := by simp [hxl]
      rw [h] at hxc; exact hxc
    have hxp : (0 : Int) < (x.nodes : Int) := by have := nodes_pos x; omega
    obtain ⟨xv, hxv⟩ : ∃ xv, decide (x ≠ .nil) = xv := ⟨_, rfl⟩
    rw [hxv] at hx0
    have HXV := Lib.hid hxv
    clear hs0 hL9 hxl hxc hxv
    go_upto_if 73 with fail
    go_cut [13, 14] from 73 to 74 (fun s13 s14 wx => ∃ (C : Option Addr) (cc : Nat) (cs : List Ce), wx = V ∧ s13 = .slice C cs.length cc ∧ s14 = .int .i64 (if x = .nil then 6 else 7) ∧ Hid (OC V 0 C cs.length cc cs) ∧ cs.length ≤ 40 ∧ Hid (∀ t ∈ cs, t.e.length ≤ 40) ∧ Hid (cmds cs = (if x = .nil then pn else py).enc))
    case first =>
      cases xv with
      | true =>
        have hxn2 : ¬ x = .nil := by have := HXV.out; simpa using this
        have HIF : Hid ((if x = .nil then (6 : Int) else 7) = 7) := Lib.hid (if_neg hxn2)
        have HPF : Hid ((if x = .nil then pn else py) = py) := Lib.hid (if_neg hxn2)
        clear hxn2
        go_wp2_with fail
        go_meet
        exact ⟨Y, yc, ts, rfl, rfl, by rw [HIF.out], Lib.hid HL9.out.y, hyl, HYR, Lib.hid (by rw [HPF.out]; exact HYC.out)⟩
      | false =>
        have hxn2 : x = .nil := by have := HXV.out; simpa using this
        have HIF : Hid ((if x = .nil then (6 : Int) else 7) = 6) := Lib.hid (if_pos hxn2)
        have HPF : Hid ((if x = .nil then pn else py) = pn) := Lib.hid (if_pos hxn2)
        clear hxn2
        go_wp2_with fail
        go_meet
        exact ⟨N, nc, us, rfl, rfl, by rw [HIF.out], Lib.hid HL9.out.n, hnl, HNR, Lib.hid (by rw [HPF.out]; exact HNC.out)⟩
    case rest =>
      obtain ⟨C, cc, cs, rfl, rfl, rfl, HC, hcl, HCR, HCC⟩ := hcut
      obtain ⟨stp, hstp⟩ : ∃ stp : Nat, (if x = .nil then 6 else 7) = stp := ⟨_, rfl⟩
      have hst7 : stp = 6 ∨ stp = 7 := by rw [← hstp]; split <;> simp
      have hsti : (if x = .nil then (6 : Int) else 7) = (stp : Int) := by rw [← hstp]; split <;> rfl
      rw [hsti]
      have HSTP := Lib.hid hstp
      clear hstp hsti hx0 hxp
      have h06 : s0.length = 6 := by rw [← HS0.out]; simp [HS6.out]
      have h0n : ∀ t ∈ s0, t.nodes ≤ 2000 := by
        rw [← HS0.out]
        intro t ht
        rcases List.mem_or_eq_of_mem_set ht with h | h
        · rcases List.mem_or_eq_of_mem_set h with h | h
          · have := HSN.out t h; omega
          · rw [h]; decide
        · rw [h]; decide
      obtain ⟨bs, hb1, hb2⟩ := HL9.out.s.row
      rw [h06] at hb2
      have hbn : ∀ u ∈ bs, u.xs.length ≤ 1048576 := by
        intro u hu
        have h1 : u.xs ∈ s0.map Tr.enc := by rw [← hb1]; exact List.mem_map.2 ⟨u, hu, rfl⟩
        obtain ⟨t, ht, he⟩ := List.mem_map.1 h1
        rw [← he, enc_len]; have := h0n t ht; omega
      obtain ⟨PP, hPP⟩ : ∃ PP, (if x = .nil then pn else py) = PP := ⟨_, rfl⟩
      rw [hPP] at HCC
      have hPok : PP.ok := by rw [← hPP]; split; exact HNOK.out; exact HYOK.out
      have hrf : runStF (cmds cs) (numsB bs) 30 = runStG (goW 30 0 PP [] s0) := runStF_of (b := 30) HCC.out (by rw [cmds_len]; omega) hPok hb1 h06 h0n (by omega) (by omega)
      have HR1 := runStoreI_any C cs.length cc cs (some ⟨sb, so, none⟩) 6 sc bs 30 wc HC.out.sc (by omega) HC.out.1.le (fun t ht => by have := HCR.out t ht; omega) hb2.sii (by omega) hbn
      rw [hrf] at HR1
      have HPP := Lib.hid hPP
      have HRR := Lib.hid HR1
      have HB1 := Lib.hid hb1
      have HB2 := Lib.hid hb2
      have HBN := Lib.hid hbn
      have H06 := Lib.hid h06
      have H0N := Lib.hid h0n
      have hwV := HL9.out.z.size
      clear hPP hrf HR1 hb1 hb2 hbn h06 h0n hPok
      go_wp2_with fail
      refine HRR.out.mono ?_
      cases hg : goW 30 0 PP [] s0 with
      | none =>
        rintro e w10 ⟨A1, c1, us1, rfl, _, _, z10⟩
        have HZ10 := Lib.hid (HL9.out.z.trans (z10.mono hwV))
        clear z10 hg HRR
        dsimp only [runStG]
        go_wp2_with fail
        go_ret
        exact ⟨rfl, HZ10.out⟩
      | some r =>
        obtain ⟨s1, k1, dn⟩ := r
        have HG := Lib.hid hg
        rintro e w10 ⟨A1, c1, us1, rfl, hO1, hN1, z10⟩
        have HZ10 := Lib.hid (HL9.out.z.trans (z10.mono hwV))
        have hl1 : (s1.map Tr.enc).length = 6 := by rw [List.length_map]; exact (goW_ok _ _ _ _ _ H0N.out _ _ _ hg).2.trans H06.out
        dsimp only [runStG] at hO1 hN1 ⊢
        rw [hl1] at hO1 ⊢
        have HO1 := Lib.hid hO1
        have HN1 := Lib.hid hN1
        have hk30 : k1 ≤ 30 := by have := goW_le _ _ _ _ _ _ _ _ hg; omega
        cases dn with
        | false =>
          clear hO1 hN1 hl1 z10 hg HRR
          go_wp2_with fail
          go_ret
          exact ⟨rfl, HZ10.out⟩
        | true =>
          obtain ⟨t, hgo, htl, hagr⟩ := branch_run (F := 60) HLO.out HYLO.out HNLO.out HS6.out HS0.out.symm HEX.out (by rw [HPP.out]; exact hg) (by omega)
          rw [HSTP.out] at hgo
          have hrf : runStF (cmds vs) (numsB bs) 60 = runStG (goW 60 0 (brP ex py pn) [] s0) := runStF_of (b := 60) HVS.out HVL.out (brP_ok ⟨low_ok HLO.out, by omega⟩ HYOK.out HNOK.out) HB1.out H06.out H0N.out (by omega) (by omega)
          rw [hgo] at hrf
          have hz0 : Below wc.heap.size wc w10 := z10
          have HR2 := Lib.hid (runStoreI_any P vs.length pc vs (some ⟨sb, so, none⟩) 6 sc bs 60 w10 (HL9.out.p.below hz0).sc (by have := HVL.out; rw [cmds_len] at this; omega) HL9.out.p.1.le (fun t ht => by have := HVR.out t ht; omega) (HB2.out.below hz0).sii (by omega) HBN.out)
          rw [hrf] at HR2
          have HTL := Lib.hid htl
          have HS1N := Lib.hid (goW_ok _ _ _ _ _ H0N.out _ _ _ hg).1
          have HAG := Lib.hid hagr
          have HS1L : Hid (s1.length = 6) := Lib.hid (by simpa using hl1)
          have hw10 := HZ10.out.size
          clear hO1 hN1 hl1 z10 hz0 hg HRR hgo htl hagr hrf
          go_wp2_with fail
          refine HR2.out.mono ?_
          rintro e w11 ⟨A2, c2, us2, rfl, hO2, hN2, z11⟩
          have hl2 : (t.map Tr.enc).length = 6 := by rw [List.length_map]; exact HTL.out
          dsimp only [runStG] at hO2 hN2 ⊢
          rw [hl2] at hO2 ⊢
          have HO2 := Lib.hid hO2.sii
          have HN2 := Lib.hid hN2
          have HO1' := Lib.hid (HO1.out.below z11).sii
          have HZ11 := Lib.hid (HZ10.out.trans (z11.mono hw10))
          have hw11 := HZ11.out.size
          obtain ⟨kk, hkk⟩ : ∃ kk : Nat, k1 + stp = kk := ⟨_, rfl⟩
          rw [hkk]
          have j1 : IntKind.i64.wrap ((k1 : Int) + 4) = (k1 : Int) + 4 := IntWalk.i64_in _ (by omega)
          have j2 : IntKind.i64.wrap ((k1 : Int) + (stp : Int)) = (kk : Int) := by rw [IntWalk.i64_in _ (by omega)]; omega
          have j3 : ¬ ((kk : Int) < (k1 : Int) + 4) := by omega
          have j4 : ¬ ((kk : Int) < (kk : Int)) := by omega
          clear hO2 hN2 z11 hl2 HR2 HO1 hkk hst7
          go_wp2_with fail
          go_loopw [23] (fun s23 wr => ∃ i : Nat, i ≤ 4 ∧ s23 = .int .i64 (i : Int) ∧ Hid (Below w11.heap.size w11 wr)) (fun s23 _ => 4 - (intOf s23).toNat)
          case atStart => exact ⟨0, by omega, rfl, Lib.hid (Below.refl _ _)⟩
          case round =>
            obtain ⟨i, hi, rfl, HZr⟩ := hrel
            by_cases hi4 : i < 4
            rotate_left
            · obtain rfl : i = 4 := by omega
              have i1 : ¬ (((4 : Nat) : Int) < 4) := by omega
              go_wp2_with fail
              go_ret
              exact ⟨rfl, HZ11.out.trans (HZr.out.mono hw11)⟩
            have i1 : (i : Int) < 4 := by omega
            have i0 : (0 : Int) ≤ (i : Int) := by omega
            have i6 : (i : Int) < 6 := by omega
            obtain ⟨u1, b1, o1, HT1, _, rfl, _, hc1, hr1⟩ := (HO1'.out.below HZr.out).pick (k := i) (by omega)
            obtain ⟨u2, b2, o2, HT2, _, rfl, _, hc2, hr2⟩ := (HO2.out.below HZr.out).pick (k := i) (by omega)
            have he2 : u1.xs = u2.xs ∧ u1.xs.length ≤ 2000 := by
              have q1 : (numsB us1)[i]? = some u1.xs := by unfold numsB; rw [List.getElem?_map, HT1.out]; rfl
              have q2 : (numsB us2)[i]? = some u2.xs := by unfold numsB; rw [List.getElem?_map, HT2.out]; rfl
              rw [HN1.out, List.getElem?_map] at q1
              rw [HN2.out, List.getElem?_map] at q2
              have h := HAG.out i hi4
              rw [List.getD_eq_getElem?_getD, List.getD_eq_getElem?_getD] at h
              cases h1 : s1[i]? with
              | none => rw [h1] at q1; cases q1
              | some y1 =>
                cases h2 : t[i]? with
                | none => rw [h2] at q2; cases q2
                | some y2 =>
                  rw [h1] at q1 h
                  rw [h2] at q2 h
                  simp only [Option.map_some, Option.some.injEq, Option.getD_some] at q1 q2 h
                  refine ⟨by rw [← q1, ← q2, h], ?_⟩
                  rw [← q1, enc_len]; exact HS1N.out y1 (List.mem_of_getElem? h1)
            obtain ⟨he, hl2k⟩ := he2
            rw [← he] at hr2
            have hl : u2.xs.length = u1.xs.length := by rw [he]
            rw [hl] at hc2
            have HBT := Lib.hid (fun k => b10Trees_yes u1.A u2.A u1.xs.length u1.c u2.c u1.xs (wr.drewN k) (hr1.drewN k) (hr2.drewN k) (by omega))
            clear he hl hr1 hr2
            have hlk := hl2k
            clear hl2k
            go_wp2_with fail
            go_quiet ((first | (go_at_call 26; exact quiet_1 (HBT.out _))))
            go_wp2_with fail
            go_roundw
            case rel => exact ⟨i + 1, by omega, by go_num, Lib.hid (below_drewN HZr.out _)⟩
            case measure => (simp [intOf] <;> omega)
end Go.Proofs.Ytfheepjfpgiaoaa

/-
  For every input, FnBranch returns true, and each argument reads afterwards as it read before. No conditions.
-/
namespace Go.Proofs.Ytfheepjfpgiaoaa.lawBranchRow
open Go.ChangeShapes Go.WideShapes Go.ChangeAt Go.RowKit Go.Joins Go.Proofs.Ytfheepjfpgiaoaa

theorem own : ownKnob Try.prog.godebug = none := by kernel_rfl
theorem laidOut : laidOutB Try.prog = true := by kernel_rfl
theorem readable : ∀ t ∈ Try.f4.params.toList, Try.prog.readableRec t = true ∧ t < Try.prog.types.size := by
  have h : (Try.f4.params.toList.all fun t => Try.prog.readableRec t && decide (t < Try.prog.types.size)) = true := by kernel_rfl
  intro t ht
  have := List.all_eq_true.1 h t ht
  simpa using this

set_option maxRecDepth 100000 in
theorem lifted (os : Os) (started : os.Started) (H : Type) (enc : TypeId × Value → H) :
    ReturnsInHanded {} Try.checked os 4 .any (Rows.fnBranchSpec.pre6 enc Try.prog Try.f4 Rows.fnBranchRow.domain false) (Rows.fnBranchSpec.post enc Try.prog Try.f4 false true false false) := by
  refine returnsInHanded_of_change (C := Try.checked) own started (by kernel_rfl) Try.func4
    (ChangeSpec.witness6 (enc := enc) (C := Try.checked) false ⟨#[], #[.slice none 0 0, .slice none 0 0], []⟩ 8 (by kernel_rfl) (by kernel_rfl) (by kernel_rfl) (by kernel_rfl)) ?_
  intro W base args ds gs before hval0 hW hcnd _
  have hval : ∀ (j : Nat) t v, Try.f4.params[j]? = some t → args[j]? = some v → Value.okWide Try.prog W .any base t v := hval0
  have hW' := hW
  obtain ⟨p, q, hA0, hV, hbef, hfz, hnd⟩ := hW
  have hA : DataW.TrodAll enc Try.prog W 0 (fun _ => true) true Try.f4.params.toList args.toList ds p := hA0
  rw [Try.params4] at hA hval
  obtain ⟨v0, vs0, d0, ds0, p0, q0, hargs, rfl, rfl, h0, r0⟩ := trodAll_cons hA
  obtain ⟨v1, vs1, d1, ds1, p1, q1, rfl, rfl, rfl, h1, r1⟩ := trodAll_cons r0
  obtain ⟨rfl, rfl, rfl⟩ := trodAll_nil r1
  obtain rfl : args = #[v0, v1] := by cases args; simp_all
  obtain ⟨rfl, rfl⟩ := trodVars_none hV
  obtain ⟨Aa0, na0, ka0, rfl⟩ := okWide_slice Try.underlying35 (hval 0 35 v0 rfl rfl)
  have hB0 := okWide_blk Try.underlying35 (hval 0 35 _ rfl rfl)
  obtain ⟨fuel0, hf0⟩ := h0
  obtain ⟨Aa0', na0', ka0', xa0, ee0, Sa0, la0, ma0⟩ := sb_of_trod (v := .slice Aa0 na0 ka0) Try.underlying35 Try.underlying5 (by kernel_rfl) (by simpa [Value.cells] using hf0)
  simp only [Value.slice.injEq] at ee0
  obtain ⟨rfl, rfl, rfl⟩ := ee0
  obtain ⟨Aa1, na1, ka1, rfl⟩ := okWide_slice Try.underlying35 (hval 1 35 v1 rfl rfl)
  have hB1 := okWide_blk Try.underlying35 (hval 1 35 _ rfl rfl)
  obtain ⟨fuel1, hf1⟩ := h1
  obtain ⟨Aa1', na1', ka1', xa1, ee1, Sa1, la1, ma1⟩ := sb_of_trod (v := .slice Aa1 na1 ka1) Try.underlying35 Try.underlying5 (by kernel_rfl) (by simpa [Value.cells] using hf1)
  simp only [Value.slice.injEq] at ee1
  obtain ⟨rfl, rfl, rfl⟩ := ee1
  refine (lawBranch Aa0 na0 ka0 xa0 Aa1 na1 ka1 xa1 W Sa0 hB0 Sa1 hB1 (by omega) (by omega)).mono fun e W' ⟨he, hb⟩ => ?_
  subst he
  exact ⟨_, rfl, law_post laidOut readable rfl (by kernel_rfl) Try.underlying4 rfl rfl rfl hW' hb⟩

set_option maxHeartbeats 8000000 in
theorem closed : joinedFacts Try.pinned.checked.prog 4 Try.f4 Rows.fnBranchSpec Rows.fnBranchRow = true := by
  unfold joinedFacts
  simp only [Bool.and_eq_true]
  repeat' (refine And.intro ?_ ?_)
  all_goals (as_aux_lemma => kernel_rfl)
theorem named : Try.pinned.checked.prog.funcNamed Rows.fnBranchRow.func = some 4 := by kernel_rfl
theorem instance_ : decide (Func.isInstance Try.pinned.checked.prog Try.f4 Rows.fnBranchRow.origin Rows.fnBranchRow.targs) = true := by kernel_rfl
set_option maxHeartbeats 8000000 in
theorem proved : Rows.FnBranchSaid :=
  OpenClaim.holds_of_wide 4 Try.f4 rfl rfl rfl rfl rfl rfl rfl ⟨rfl, rfl, rfl, rfl, rfl⟩ rfl rfl rfl rfl rfl named Try.func4 closed
    (of_decide_eq_true instance_) (by unfold Func.isWrapper; first | (rw [if_pos (by decide +kernel)]; kernel_rfl) | (rw [if_neg (by decide +kernel)]; exact ⟨rfl, rfl⟩))
    (fun os started H enc _ => lifted os started H enc)
end Go.Proofs.Ytfheepjfpgiaoaa.lawBranchRow
