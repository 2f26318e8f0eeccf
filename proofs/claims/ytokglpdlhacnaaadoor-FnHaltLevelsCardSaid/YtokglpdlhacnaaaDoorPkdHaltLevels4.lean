/-
  The walk of the law FnHaltLevels: it returns true, and nothing that was there before has turned.
-/
import Derived.Test.YtokglpdlhacnaaaDoorPbBackAll8
import Derived.Test.YtokglpdlhacnaaaDoorPbBackAll11
import Derived.Test.YtokglpdlhacnaaaDoorPkdHaltLevels0
import Derived.Test.YtokglpdlhacnaaaDoorPkdHaltLevels1
import Derived.Test.YtokglpdlhacnaaaDoorPkdHaltLevels3
import Derived.Test.YtokglpdlhacnaaaDoorRows
import Derived.LaidMore
import Derived.Stop.Joined
import Derived.Test.YtokglpdlhacnaaaDoorCards
import Derived.Test.YtokglpdlhacnaaaDoorTie
import Derived.SevenTiedAt
namespace Go.Proofs.YtokglpdlhacnaaaDoor
open Go.RowKit

set_option maxRecDepth 100000 in
set_option maxHeartbeats 8000000 in
theorem lawHaltLevels (A : Option Addr) (n c : Nat) (xs : List Int) (w : World) (hx : SB w A n xs) (hA : ∀ k, blk A = some k → k < w.heap.size) (hn : n ≤ 9223372036854775807) (ht : Tab w) :
    Calls Tryd.prog 8 #[.slice A n c] w fun e w' => e = .returned (.bool true) ∧ Below w.heap.size w w' := by
  by_cases hlong : 1048576 < n
  · go_enter Tryd.func8, Tryd.ntmps8
    go_wp2_with (go_at_call 38; refine (b10Long_yes _ _ _ _ hlong).mono ?_; rintro e w' ⟨rfl, rfl⟩)
    go_ret
    exact ⟨rfl, Below.refl _ _⟩
  have HS := Lib.hid (b10Small_any A n c xs w hx hA hn)
  have HT := Lib.hid ht
  clear hx hA ht
  go_enter Tryd.func8, Tryd.ntmps8
  go_wp2_with (go_at_call 38; refine (b10Long_no _ _ _ _ hlong).mono ?_; rintro e w' ⟨rfl, rfl⟩)
  refine HS.out.mono ?_
  rintro e w1 ⟨st, R, rc, rs, q, L, lc, ls, Y, yc, ys, rfl, hR, hL, hY, hS, z1⟩
  have hm := hS.mach
  have HM := Lib.hid hm
  have HR := Lib.hid hR.as3
  have HL := Lib.hid hL.asI
  have HY := Lib.hid hY.asI
  have HG := Lib.hid hS.good
  have hst2 := hS.st2
  have hst1 := hS.st1
  have hll := hS.ll
  have hyl := hS.yl
  have hrl : rs.length ≤ 1048576 := by
    obtain ⟨_, _, _, _, h5, _⟩ := machB_parts hm
    omega
  have HZ1 := Lib.hid z1
  clear hR hL hY hS z1 HS hm hlong
  obtain ⟨W2, hW_⟩ : ∃ W, W = (w1.alloc (.cells #[.int .i64 2, .int .i64 st, .slice R rs.length rc] 43)).alloc (.cells #[.int .i64 q, .slice L ls.length lc, .slice Y ys.length yc] 68) := ⟨_, rfl⟩
  have s_1 : (w1.alloc (.cells #[.int .i64 2, .int .i64 st, .slice R rs.length rc] 43)).heap.size = w1.heap.size + 1 := by simp
  have b0 : Blk W2 w1.heap.size 43 #[.int .i64 2, .int .i64 st, .slice R rs.length rc] := by rw [hW_]; exact (Blk.new w1 _ _).alloc _
  have b1 : Blk W2 (w1.heap.size + 1) 68 #[.int .i64 q, .slice L ls.length lc, .slice Y ys.length yc] := by rw [hW_, ← s_1]; exact Blk.new _ _ _
  have y2 : Below w1.heap.size w1 W2 := by rw [hW_]; exact ((Below.refl _ _).alloc (Nat.le_refl _) _).alloc (by simp) _
  have HW2 := Lib.hid hW_
  clear hW_ s_1
  have HZ2 := Lib.hid (HZ1.out.trans (y2.mono HZ1.out.size))
  have HR2 := Lib.hid (HR.out.below y2)
  have HL2 := Lib.hid (HL.out.below y2)
  have HY2 := Lib.hid (HY.out.below y2)
  have HB0 := Lib.hid b0
  have HB1 := Lib.hid b1
  obtain ⟨K, hK, hK6⟩ := runN_some (sy := 2) (rs := rs) 6 ⟨q, ls, ys⟩ (by show ls.length + 12 ≤ 200; omega) (by show ys.length + 12 ≤ 200; omega)
  obtain ⟨E, hE⟩ : ∃ E, E = itC 2 rs ⟨q, ls, ys⟩ K := ⟨_, rfl⟩
  obtain ⟨hb, hhb⟩ : ∃ hb, hb = haltC 2 rs E := ⟨_, rfl⟩
  have hRM := specRunMachine_any 2 st R rs.length rc rs q L ls.length lc ls Y ys.length yc ys 6 W2 HR2.out HL2.out HY2.out hrl (by omega) (by omega)
  have eRM : runMachF 2 st rs q ls ys 6 = (E, (K : Int), hb, 0) := by
    unfold runMachF
    rw [if_pos (show validConfB 2 st rs q ls ys = true from HG.out), if_pos (by decide)]
    show (match runN 2 rs 6 ⟨q, ls, ys⟩ with | some i => _ | none => _) = _
    rw [hK, hhb, hE]
  rw [eRM] at hRM
  have HRM := Lib.hid hRM
  have HAL := Lib.hid (runN_alive hK)
  have HE := Lib.hid hE
  have HHB := Lib.hid hhb
  clear hK hE hhb hRM eRM y2
  have u0 : W2.cell? ⟨w1.heap.size, 0, none⟩ = some (.int .i64 2) := b0.cell 0
  have u1 : W2.cell? ⟨w1.heap.size, 1, none⟩ = some (.int .i64 st) := b0.cell 1
  have u2 : W2.cell? ⟨w1.heap.size, 2, none⟩ = some (.slice R rs.length rc) := b0.cell 2
  have v0 : W2.cell? ⟨(w1.heap.size + 1), 0, none⟩ = some (.int .i64 q) := b1.cell 0
  have v1 : W2.cell? ⟨(w1.heap.size + 1), 1, none⟩ = some (.slice L ls.length lc) := b1.cell 1
  have v2 : W2.cell? ⟨(w1.heap.size + 1), 2, none⟩ = some (.slice Y ys.length yc) := b1.cell 2
  clear b0 b1
  go_upto_region 4 with fail
  rw [← HW2.out]
  go_upto_region 5 with (go_at_call 40; refine HRM.out.mono ?_; rintro e w3 ⟨L3, c3, R3, d3, rfl, _, _, _, z3⟩; dsimp only)
  obtain ⟨W4, hW4⟩ : ∃ W, W = w3.alloc (.cells #[.int .i64 E.q, .slice L3 E.xs.length c3, .slice R3 E.ys.length d3] 68) := ⟨_, rfl⟩
  rw [← hW4]
  have z4 : Below w3.heap.size w3 W4 := by rw [hW4]; exact (Below.refl _ _).alloc (Nat.le_refl _) _
  have z24 := z3.trans (z4.mono z3.size)
  have HZ4 := Lib.hid (HZ2.out.trans (z24.mono HZ2.out.size))
  have HR4 := Lib.hid (HR2.out.below z24)
  have HL4 := Lib.hid (HL2.out.below z24)
  have HY4 := Lib.hid (HY2.out.below z24)
  have HC0 := Lib.hid (HB0.out.below' z24)
  have HC1 := Lib.hid (HB1.out.below' z24)
  have HT4 := Lib.hid (HT.out.below HZ4.out)
  have hC0 := HC0.out
  clear u0 u1 u2 v0 v1 v2 hW4 z3 z4 z24 HB0 HB1 HR2 HL2 HY2 HRM HZ2 HZ1 HR HL HY HT
  have u0 : W4.cell? ⟨w1.heap.size, 0, none⟩ = some (.int .i64 2) := hC0.cell 0
  have u1 : W4.cell? ⟨w1.heap.size, 1, none⟩ = some (.int .i64 st) := hC0.cell 1
  have u2 : W4.cell? ⟨w1.heap.size, 2, none⟩ = some (.slice R rs.length rc) := hC0.cell 2
  clear hC0
  have HHP := Lib.hid (halting_any 2 st R rs.length rc rs W4 HR4.out HM.out hrl)
  go_upto_region 8 with (go_at_call 41; refine HHP.out.mono ?_; rintro e w5 ⟨A5, c5, ts, rfl, hO5, hp5, z5⟩; dsimp only)
  have HO5 := Lib.hid hO5
  have HP5 := Lib.hid hp5
  have HZ5 := Lib.hid (HZ4.out.trans (z5.mono HZ4.out.size))
  have HC5 := Lib.hid (HC0.out.below' z5)
  have hbd := backwardDepthI_any 2 st R rs.length rc rs 200 w5 (HR4.out.below z5) hrl (HT4.out.below z5)
  rw [hl_depth HM.out (by decide)] at hbd
  obtain ⟨od, hod⟩ : ∃ od, od = hpO 2 rs (depthF 2 rs 60 0 200) := ⟨_, rfl⟩
  rw [← hod] at hbd
  have HOD := Lib.hid hod
  have HBD := Lib.hid hbd
  obtain ⟨dv, t3, hdt⟩ : ∃ dv t3, depR od = (dv, t3) := ⟨_, _, rfl⟩
  rw [hdt] at HBD
  have HDT : Hid (t3 = 0 → hpO 2 rs (depthF 2 rs 60 0 200) = some dv) := Lib.hid (fun h => by
    rw [← hod]
    cases od with
    | none =>
      simp only [depR, Prod.mk.injEq] at hdt
      omega
    | some x =>
      simp only [depR, Prod.mk.injEq] at hdt
      rw [hdt.1])
  have HZW := Lib.hid z5
  have hC5 := HC5.out
  clear u0 u1 u2 hO5 hp5 HHP hod hbd hdt HOD od z5
  have u0 : w5.cell? ⟨w1.heap.size, 0, none⟩ = some (.int .i64 2) := hC5.cell 0
  have u1 : w5.cell? ⟨w1.heap.size, 1, none⟩ = some (.int .i64 st) := hC5.cell 1
  have u2 : w5.cell? ⟨w1.heap.size, 2, none⟩ = some (.slice R rs.length rc) := hC5.cell 2
  clear hC5
  go_upto_region 9 with (go_at_call 25; refine HBD.out.mono ?_; rintro e w6 ⟨rfl, z6⟩; dsimp only)
  have HF9 : Hid (hb = true → t3 = 0 → ¬ dv ≤ (K : Int)) := Lib.hid (fun h1 h2 => by
    have h3 := hl_run HG.out HAL.out (by rw [← HE.out, ← HHB.out]; exact h1) (HDT.out h2)
    omega)
  go_cut [62] (fun v wx => v = .bool false ∧ wx = w6)
  case first =>
    cases hb with
    | false =>
      go_wp2_with fail
      go_meet
      exact ⟨rfl, rfl⟩
    | true =>
      by_cases h0 : t3 = 0
      · have h1 := HF9.out rfl h0
        subst h0
        go_wp2_with fail
        go_meet
        exact ⟨rfl, rfl⟩
      · go_wp2_with fail
        go_meet
        exact ⟨rfl, rfl⟩
  case rest =>
  obtain ⟨rfl, rfl⟩ := hcut
  have z56 := HZW.out.trans (z6.mono HZW.out.size)
  have HZ6 := Lib.hid (HZ4.out.trans (z56.mono HZ4.out.size))
  have HC6 := Lib.hid (HC5.out.below' z6)
  have hbl := backwardLevelsI_any 2 st R rs.length rc rs 6 wc (HR4.out.below z56) hrl (HT4.out.below z56)
  have elv : levF 2 st rs 6 = listR (hpO 2 rs fun l => sizesF 2 rs 6 l [(l.length : Int)]) := hl_lev (d := 6) HM.out (by omega)
  rw [elv] at hbl
  obtain ⟨os, hos⟩ : ∃ os, os = hpO 2 rs fun l => sizesF 2 rs 6 l [(l.length : Int)] := ⟨_, rfl⟩
  rw [← hos] at hbl
  have HBL := Lib.hid hbl
  obtain ⟨sz, t4, hst⟩ : ∃ sz t4, listR os = (sz, t4) := ⟨_, _, rfl⟩
  rw [hst] at HBL
  have HTL : Hid ((hpF 2 rs).length = ts.length) := Lib.hid (by have e : pas ts = hpF 2 rs := HP5.out; rw [← e]; simp [pas])
  have HST : Hid (t4 = 0 → (∃ r, sz = (ts.length : Int) :: r) ∧ (t3 = 0 → dv ≤ 6 → ∃ r, sz = r ++ [0])) := Lib.hid (fun h => by
    cases os with
    | none =>
      simp only [listR, Prod.mk.injEq] at hst
      omega
    | some x =>
      simp only [listR, Prod.mk.injEq] at hst
      obtain ⟨rfl, _⟩ := hst
      obtain ⟨h1, h2⟩ := hl_sizes (b := 200) hos.symm
      rw [HTL.out] at h1
      exact ⟨h1, fun h3 h4 => h2 dv (HDT.out h3) h4⟩)
  have HSZ : Hid (sz.length ≤ 1048576) := Lib.hid (by have h := levF_len 2 st rs 6; rw [elv, ← hos, hst] at h; exact h)
  have HZX := Lib.hid z56
  have HZ56 := Lib.hid z6
  have hC6 := HC6.out
  clear u0 u1 u2 hbl hos hst os elv z6 z56 HBD HC5 HZ5 HZW
  have u0 : wc.cell? ⟨w1.heap.size, 0, none⟩ = some (.int .i64 2) := hC6.cell 0
  have u1 : wc.cell? ⟨w1.heap.size, 1, none⟩ = some (.int .i64 st) := hC6.cell 1
  have u2 : wc.cell? ⟨w1.heap.size, 2, none⟩ = some (.slice R rs.length rc) := hC6.cell 2
  clear hC6
  rename World => w6
  go_upto_region 12 with (go_at_call 27; refine HBL.out.mono ?_; rintro e w7 ⟨A7, c7, rfl, o7, z7⟩; dsimp only)
  obtain ⟨SL, hSL⟩ : ∃ SL, SL = sz.length := ⟨_, rfl⟩
  have ho7 : Own w7 w6.heap.size 2 1 A7 SL c7 (ints sz) := by rw [hSL]; exact o7
  have HO7 := Lib.hid ho7
  have HSL := Lib.hid hSL
  rw [← hSL]
  clear o7 ho7 hSL
  go_cut [99] (fun v wx => v = .bool false ∧ wx = w7)
  case first =>
    by_cases h4 : t4 = 0
    rotate_left
    · go_wp2_with fail
      go_meet
      exact ⟨rfl, rfl⟩
    obtain ⟨⟨r, hr⟩, hlast⟩ := HST.out h4
    have hSL := HSL.out
    have hpos : 0 < SL := by rw [hSL, hr]; simp
    have hsi : SI w7 A7 SL sz := HO7.out.rd
    obtain ⟨b, off, rfl, _, k0⟩ := hsi.at_ (k := 0) hpos
    obtain ⟨y0, hy0⟩ : ∃ y, y = sz[0]'(by rw [← hSL]; exact hpos) := ⟨_, rfl⟩
    rw [← hy0, Nat.add_zero] at k0
    have e0 : y0 = (ts.length : Int) := by rw [hy0]; simp [hr]
    rw [e0] at k0
    have z0 : ((SL : Int) == 0) = false := by rw [beq_eq_false_iff_ne]; omega
    have z1 : (0 : Int) < (SL : Int) := by omega
    have HLS := Lib.hid hlast
    have HSI := Lib.hid hsi
    subst h4
    clear hlast hr hSL hy0 e0 hsi
    by_cases h3 : t3 = 0
    rotate_left
    · go_wp2_with fail
      go_meet
      exact ⟨rfl, rfl⟩
    by_cases h6 : dv ≤ 6
    rotate_left
    · subst h3
      go_wp2_with fail
      go_meet
      exact ⟨rfl, rfl⟩
    obtain ⟨r', hr'⟩ := HLS.out h3 h6
    obtain ⟨m, hm⟩ : ∃ m, SL = m + 1 := ⟨SL - 1, by omega⟩
    have w1 : IntKind.i64.wrap ((SL : Int) - 1) = (m : Int) := by
      have hb : SL ≤ 1048576 := by rw [HSL.out]; exact HSZ.out
      rw [show (SL : Int) - 1 = (m : Int) by omega]; exact IntWalk.i64_in _ (by omega)
    obtain ⟨_, _, e, _, km⟩ := HSI.out.at_ (k := m) (by omega)
    simp only [Option.some.injEq, Addr.mk.injEq, and_true] at e
    obtain ⟨rfl, rfl⟩ := e
    obtain ⟨ym, hym⟩ : ∃ y, y = sz[m]'(by rw [← HSL.out]; omega) := ⟨_, rfl⟩
    rw [← hym] at km
    have em : ym = 0 := by
      have h1 : sz[m]? = some 0 := by
        have h2 : m = r'.length := by have := HSL.out; rw [hr'] at this; simp at this; omega
        rw [hr', h2]; simp
      rw [hym]
      obtain ⟨_, h3⟩ := List.getElem?_eq_some_iff.1 h1
      exact h3
    subst em
    have i1 : (0 : Int) ≤ (m : Int) := by omega
    have i2 : (m : Int) < (SL : Int) := by omega
    subst h3
    clear hm hym hr'
    go_wp2_with fail
    go_meet
    exact ⟨rfl, rfl⟩
  case rest =>
  obtain ⟨rfl, rfl⟩ := hcut
  have HZ7 := Lib.hid (HZ6.out.trans (z7.mono HZ6.out.size))
  have HC7 := Lib.hid (HC6.out.below' z7)
  have hz57 := HZX.out.trans (z7.mono HZX.out.size)
  clear u0 u1 u2 HBL HST HO7 HSL
  cases hb with
  | false =>
    go_wp2_with fail
    go_ret
    exact ⟨rfl, HZ7.out⟩
  | true =>
    have HHT : Hid (haltC 2 rs E = true) := Lib.hid HHB.out.symm
    have HPT : Hid (pas ts = hpF 2 rs) := Lib.hid HP5.out
    have HO7 := Lib.hid ((HO5.out.below HZ56.out).below z7)
    have HR7 := Lib.hid (HR4.out.below hz57)
    have HL7 := Lib.hid (HL4.out.below hz57)
    have HY7 := Lib.hid (HY4.out.below hz57)
    have HT7 := Lib.hid (HT4.out.below hz57)
    have HD7 := Lib.hid (HC1.out.below' hz57)
    obtain ⟨NT, hNT⟩ : ∃ NT, NT = ts.length := ⟨_, rfl⟩
    have HNT := Lib.hid hNT
    have hNT6 : NT ≤ 6000 := by
      have h1 := hpF_len (sy := 2) (rs := rs)
      rw [← HPT.out] at h1
      obtain ⟨_, _, _, _, h5, _⟩ := machB_parts HM.out
      simp [pas] at h1
      omega
    have HNO : Hid (OPs wc W4.heap.size A5 NT c5 ts) := Lib.hid (by rw [hNT]; exact HO7.out)
    clear hz57 hNT HO7 HO5 HP5
    go_wp2_with fail
    try rw [← HNT.out]
    go_loopw [15, 16] (fun f i wr => ∃ (j : Nat) (fb : Bool), j ≤ NT ∧ i = .int .i64 (j : Int) ∧ f = .bool fb ∧ Hid (∀ k, k < j → ∀ x, (pas ts)[k]? = some x → matchP x E → fb = true) ∧ Below wc.heap.size wc wr) (fun _ i _ => NT - (intOf i).toNat)
    case atStart => exact ⟨0, false, Nat.zero_le _, rfl, rfl, Lib.hid (fun k hk => absurd hk (Nat.not_lt_zero k)), Below.refl _ _⟩
    case round =>
      obtain ⟨j, fb, hj, rfl, rfl, HF, hz⟩ := hrel
      rename World => w8
      by_cases hlt : j < NT
      rotate_left
      · obtain rfl : j = NT := by omega
        have i1 : ¬ (j : Int) < (j : Int) := by omega
        have HFB : Hid (fb = true) := Lib.hid (by
          obtain ⟨x, hx, hmx⟩ := halt_match (HAL.out.good HG.out) (by rw [← HE.out]; exact HHT.out)
          rw [← HE.out] at hmx
          rw [← HPT.out] at hx
          obtain ⟨k, hk, e⟩ := mem_idx hx
          exact HF.out k (by have := HNT.out; simp [pas] at hk; omega) x e hmx)
        go_wp2_with fail
        go_ret
        exact ⟨ret_bool HFB.out, HZ7.out.trans (hz.mono HZ7.out.size)⟩
      have i1 : (j : Int) < (NT : Int) := by omega
      obtain ⟨t, b, off, HTJ, rfl, hbl, _, e0, e1, e2, oL, _⟩ := (HNO.out.below hz).pick hlt
      have HPJ : Hid ((pas ts)[j]? = some t.pa) := Lib.hid (by simp [pas, HTJ.out])
      have hxm : t.pa ∈ hpF 2 rs := by rw [← HPT.out]; exact List.mem_of_getElem? HPJ.out
      have hok := hpF_ok HM.out t.pa hxm
      have HPV : Hid (paB 2 st ⟨t.q, t.p, t.xs⟩ = true) := Lib.hid (paB_of hok.1 hok.2)
      have HXO : Hid (∀ y ∈ [t.pa], PaOk 2 st y ∧ y.cs.length ≤ 60) := Lib.hid (fun y hy => by rw [List.mem_singleton.1 hy]; exact hok)
      have htl : t.xs.length ≤ 60 := hok.2
      have HAN : Hid (ancR 2 st rs ⟨t.q, t.p, t.xs⟩ (K : Int) = listR (ancF 2 rs K [t.pa])) := Lib.hid (by
        unfold ancR
        rw [HM.out, HPV.out, Bool.and_self, if_pos rfl, if_pos ((inB_iff _ _ _).2 (by omega)), Int.toNat_natCast]
        rfl)
      have han := fun W (z : Below w8.heap.size w8 W) => ancestorsI_any 2 st R rs.length rc rs t.q t.p t.L t.xs.length t.a t.xs (K : Int) W ((HR7.out.below hz).below z) (oL.asI.below z) hrl (by omega) ((HT7.out.below hz).below z)
      rw [HAN.out] at han
      have HAF := Lib.hid han
      have d0 := (HC7.out.below' hz)
      have HD0 := Lib.hid d0
      have HE0 : Hid (∀ W, Below w8.heap.size w8 W → W.cell? ⟨b, off + j * 3, none⟩ = some (.int .i64 t.q) ∧ W.cell? ⟨b, off + j * 3 + 1, none⟩ = some (.int .i64 t.p) ∧ W.cell? ⟨b, off + j * 3 + 2, none⟩ = some (.slice t.L t.xs.length t.a)) := Lib.hid (fun W z => ⟨(z.cell (p := ⟨b, _, none⟩) hbl).trans e0, (z.cell (p := ⟨b, _, none⟩) hbl).trans e1, (z.cell (p := ⟨b, _, none⟩) hbl).trans e2⟩)
      have HOL := Lib.hid oL
      have HZ8 := Lib.hid (HZ7.out.trans (hz.mono HZ7.out.size))
      have i2 : (0 : Int) ≤ (j : Int) := by omega
      have u0 : w8.cell? ⟨w1.heap.size, 0, none⟩ = some (.int .i64 2) := d0.cell 0
      have u1 : w8.cell? ⟨w1.heap.size, 1, none⟩ = some (.int .i64 st) := d0.cell 1
      have u2 : w8.cell? ⟨w1.heap.size, 2, none⟩ = some (.slice R rs.length rc) := d0.cell 2
      clear hxm hok han d0 htl oL hbl
      go_upto_region 20 with fail
      cases ho : ancF 2 rs K [t.pa] with
      | none =>
        rw [ho] at HAF
        have HAF2 : Hid (∀ W, Below w8.heap.size w8 W → Calls Tryd.prog 32 #[.agg #[.int .i64 2, .int .i64 st, .slice R rs.length rc], .agg #[.int .i64 t.q, .int .i64 t.p, .slice t.L t.xs.length t.a], .int .i64 (K : Int)] W (PasB W ([], 5))) := Lib.hid HAF.out
        clear ho
        go_region_held3 (fun w' => w'.cell? ⟨w1.heap.size, 0, none⟩ = some (.int .i64 2) ∧ w'.cell? ⟨w1.heap.size, 1, none⟩ = some (.int .i64 st) ∧ w'.cell? ⟨w1.heap.size, 2, none⟩ = some (.slice R rs.length rc) ∧ w'.cell? ⟨b, off + j * 3, none⟩ = some (.int .i64 t.q) ∧ w'.cell? ⟨b, off + j * 3 + 1, none⟩ = some (.int .i64 t.p) ∧ w'.cell? ⟨b, off + j * 3 + 2, none⟩ = some (.slice t.L t.xs.length t.a))
          (first | (go_keep; done) | (exact ⟨(HD0.out.below' z9).cell 0, (HD0.out.below' z9).cell 1, (HD0.out.below' z9).cell 2, (HE0.out _ z9).1, (HE0.out _ z9).2.1, (HE0.out _ z9).2.2⟩))
          ((go_at_call 32; refine (HAF2.out _ (below_drewN (Below.refl _ _) 1)).mono ?_; rintro e w9 ⟨A9, c9, us, rfl, _, _, z9'⟩; have z9 : Below w8.heap.size w8 w9 := below_undrew (n := 1) z9'))
        go_wp2_with fail
        go_ret
        exact ⟨rfl, HZ8.out.trans (z9.mono HZ8.out.size)⟩
      | some l =>
        rw [ho] at HAF
        have HAF2 : Hid (∀ W, Below w8.heap.size w8 W → Calls Tryd.prog 32 #[.agg #[.int .i64 2, .int .i64 st, .slice R rs.length rc], .agg #[.int .i64 t.q, .int .i64 t.p, .slice t.L t.xs.length t.a], .int .i64 (K : Int)] W (PasB W (l, 0))) := Lib.hid HAF.out
        have HO := Lib.hid ho
        have HOK9 := Lib.hid (ancF_ok HM.out HXO.out (by simp) ho)
        clear ho
        go_region_held3 (fun w' => w'.cell? ⟨w1.heap.size, 0, none⟩ = some (.int .i64 2) ∧ w'.cell? ⟨w1.heap.size, 1, none⟩ = some (.int .i64 st) ∧ w'.cell? ⟨w1.heap.size, 2, none⟩ = some (.slice R rs.length rc) ∧ w'.cell? ⟨b, off + j * 3, none⟩ = some (.int .i64 t.q) ∧ w'.cell? ⟨b, off + j * 3 + 1, none⟩ = some (.int .i64 t.p) ∧ w'.cell? ⟨b, off + j * 3 + 2, none⟩ = some (.slice t.L t.xs.length t.a))
          (first | (go_keep; done) | (exact ⟨(HD0.out.below' z9).cell 0, (HD0.out.below' z9).cell 1, (HD0.out.below' z9).cell 2, (HE0.out _ z9).1, (HE0.out _ z9).2.1, (HE0.out _ z9).2.2⟩))
          ((go_at_call 32; refine (HAF2.out _ (below_drewN (Below.refl _ _) 1)).mono ?_; rintro e w9 ⟨A9, c9, us, rfl, hO9', hp9, z9'⟩; have z9 : Below w8.heap.size w8 w9 := below_undrew (n := 1) z9'; have hO9 : OPs w9 w8.heap.size A9 us.length c9 us := hO9'))
        clear u0 u1 u2 e0 e1 e2
        obtain ⟨NU, hNU⟩ : ∃ NU, NU = us.length := ⟨_, rfl⟩
        have HNU := Lib.hid hNU
        have HO9 : Hid (OPs w9 w8.heap.size A9 NU c9 us) := Lib.hid (by rw [hNU]; exact hO9)
        have HP9 : Hid (pas us = l) := Lib.hid hp9
        have hz9 := hz.trans (z9.mono hz.size)
        have HR9 := Lib.hid (HR7.out.below hz9)
        have HL9 := Lib.hid (HL7.out.below hz9)
        have HY9 := Lib.hid (HY7.out.below hz9)
        have HC9 := Lib.hid (HC7.out.below' hz9)
        have HD9 := Lib.hid (HD7.out.below' hz9)
        have HZ9 := Lib.hid hz9
        have hNU3 : NU ≤ 300 := by have := HOK9.out.2; rw [← HP9.out] at this; simp [pas] at this; omega
        clear hNU hO9 hO9' hp9 hz9 z9 z9'
        go_wp2_with fail
        go_loopw [15, 19] (fun f i wr => ∃ (m : Nat) (fc : Bool), m ≤ NU ∧ i = .int .i64 (m : Int) ∧ f = .bool fc ∧ Hid (fb = true → fc = true) ∧ Hid (∀ k, k < m → ∀ y, (pas us)[k]? = some y → matchP y ⟨q, ls, ys⟩ → fc = true) ∧ Below w9.heap.size w9 wr) (fun _ i _ => NU - (intOf i).toNat)
        case atStart => exact ⟨0, fb, Nat.zero_le _, rfl, rfl, Lib.hid (fun h => h), Lib.hid (fun k hk => absurd hk (Nat.not_lt_zero k)), Below.refl _ _⟩
        case round =>
          obtain ⟨m, fc, hm, rfl, rfl, HFC, HFM, hw⟩ := hrel
          rename World => w10
          by_cases hlm : m < NU
          rotate_left
          · obtain rfl : m = NU := by omega
            have i3 : ¬ (m : Int) < (m : Int) := by omega
            have i5 : ¬ m < us.length := by have := HNU.out; omega
            have i6 : ¬ (m : Int) < (us.length : Int) := by omega
            have HFN : Hid (∀ k, k < j + 1 → ∀ x, (pas ts)[k]? = some x → matchP x E → fc = true) := Lib.hid (fun k hk x hx hmx => by
              by_cases h : k = j
              · subst h
                obtain rfl : t.pa = x := Option.some.inj (HPJ.out.symm.trans hx)
                obtain ⟨y, hy, hmy⟩ := anc_match HG.out K HAL.out HXO.out (List.mem_singleton.2 rfl) (by rw [← HE.out]; exact hmx) HO.out
                rw [← HP9.out] at hy
                obtain ⟨i, hi, e⟩ := mem_idx hy
                exact HFM.out i (by have := HNU.out; simp [pas] at hi; omega) y e hmy
              · exact HFC.out (HF.out k (by omega) x hx hmx))
            have HZE := Lib.hid (HZ9.out.trans (hw.mono HZ9.out.size))
            go_wp2_with fail
            go_roundw
            case rel => exact ⟨j + 1, fc, by omega, by go_num, rfl, HFN, HZE.out⟩
            case measure => simp [intOf]; omega
          have i3 : (m : Int) < (NU : Int) := by omega
          have i4 : (0 : Int) ≤ (m : Int) := by omega
          have i5 : m < us.length := by have := HNU.out; omega
          have i6 : (m : Int) < (us.length : Int) := by omega
          obtain ⟨y, b2, o2, HYM, rfl, hbl2, _, g0, g1, g2, yL, _⟩ := (HO9.out.below hw).pick hlm
          have HYJ : Hid ((pas us)[m]? = some y.pa) := Lib.hid (by simp [pas, HYM.out])
          have hyok := HOK9.out.1 y.pa (by rw [← HP9.out]; exact List.mem_of_getElem? HYJ.out)
          have hy60 : y.xs.length ≤ 60 := hyok.2
          cases fc with
          | true =>
            have HT1 : Hid (∀ k, k < m + 1 → ∀ y, (pas us)[k]? = some y → matchP y ⟨q, ls, ys⟩ → true = true) := Lib.hid (fun _ _ _ _ _ => rfl)
            go_upto_region 26 with fail
            go_quiet (fail)
            go_wp2_with fail
            go_roundw
            case rel => exact ⟨m + 1, true, by omega, by go_num, rfl, Lib.hid (fun _ => rfl), HT1, below_drewN hw _⟩
            case measure => simp [intOf]; omega
          | false =>
            have HMA := Lib.hid (fun W (z : Below w10.heap.size w10 W) => matches_any 2 st R rs.length rc rs y.q y.p y.L y.xs.length y.a y.xs q L ls.length lc ls Y ys.length yc ys W ((HR9.out.below hw).below z) (yL.asI.below z) ((HL9.out.below hw).below z) ((HY9.out.below hw).below z) HM.out (paB_of hyok.1 hyok.2) (by have h := HG.out; unfold goodC validConfB at h; simp only [Bool.and_eq_true] at h; exact h.2) hrl (by omega) (by omega) (by omega))
            have d0 := HC9.out.below' hw
            have d1 := HD9.out.below' hw
            have HD0' := Lib.hid d0
            have HD1' := Lib.hid d1
            have u0 : w10.cell? ⟨w1.heap.size, 0, none⟩ = some (.int .i64 2) := d0.cell 0
            have u1 : w10.cell? ⟨w1.heap.size, 1, none⟩ = some (.int .i64 st) := d0.cell 1
            have u2 : w10.cell? ⟨w1.heap.size, 2, none⟩ = some (.slice R rs.length rc) := d0.cell 2
            have v0 : w10.cell? ⟨(w1.heap.size + 1), 0, none⟩ = some (.int .i64 q) := d1.cell 0
            have v1 : w10.cell? ⟨(w1.heap.size + 1), 1, none⟩ = some (.slice L ls.length lc) := d1.cell 1
            have v2 : w10.cell? ⟨(w1.heap.size + 1), 2, none⟩ = some (.slice Y ys.length yc) := d1.cell 2
            obtain ⟨mv, hmv⟩ : ∃ mv, mv = matC ⟨y.q, y.p, y.xs⟩ ⟨q, ls, ys⟩ := ⟨_, rfl⟩
            rw [← hmv] at HMA
            have HT1 : Hid (∀ k, k < m + 1 → ∀ y, (pas us)[k]? = some y → matchP y ⟨q, ls, ys⟩ → mv = true) := Lib.hid (fun k hk x hx hmx => by
              by_cases h : k = m
              · subst h
                obtain rfl : y.pa = x := Option.some.inj (HYJ.out.symm.trans hx)
                rw [hmv]
                exact matC_of hmx
              · exact absurd (HFM.out k (by omega) x hx hmx) (by simp))
            have HT2 : Hid (fb = true → mv = true) := Lib.hid (fun h => absurd (HFC.out h) (by simp))
            clear hmv hyok d0 d1 yL
            go_upto_region 26 with fail
            go_region_held3 (fun w' => w'.cell? ⟨w1.heap.size, 0, none⟩ = some (.int .i64 2) ∧ w'.cell? ⟨w1.heap.size, 1, none⟩ = some (.int .i64 st) ∧ w'.cell? ⟨w1.heap.size, 2, none⟩ = some (.slice R rs.length rc) ∧ w'.cell? ⟨b2, o2 + m * 3, none⟩ = some (.int .i64 y.q) ∧ w'.cell? ⟨b2, o2 + m * 3 + 1, none⟩ = some (.int .i64 y.p) ∧ w'.cell? ⟨b2, o2 + m * 3 + 2, none⟩ = some (.slice y.L y.xs.length y.a) ∧ w'.cell? ⟨w1.heap.size + 1, 0, none⟩ = some (.int .i64 q) ∧ w'.cell? ⟨w1.heap.size + 1, 1, none⟩ = some (.slice L ls.length lc) ∧ w'.cell? ⟨w1.heap.size + 1, 2, none⟩ = some (.slice Y ys.length yc))
              (first | (go_keep; done) | (exact ⟨(HD0'.out.below' z11).cell 0, (HD0'.out.below' z11).cell 1, (HD0'.out.below' z11).cell 2, (z11.cell (p := ⟨b2, _, none⟩) hbl2).trans g0, (z11.cell (p := ⟨b2, _, none⟩) hbl2).trans g1, (z11.cell (p := ⟨b2, _, none⟩) hbl2).trans g2, (HD1'.out.below' z11).cell 0, (HD1'.out.below' z11).cell 1, (HD1'.out.below' z11).cell 2⟩))
              ((go_at_call 42; refine (HMA.out _ (below_drewN (Below.refl _ _) 1)).mono ?_; rintro e w11 ⟨rfl, z11'⟩; have z11 : Below w10.heap.size w10 w11 := below_undrew (n := 1) z11'))
            go_wp2_with fail
            go_roundw
            case rel => exact ⟨m + 1, mv, by omega, by go_num, rfl, HT2, HT1, hw.trans (z11.mono hw.size)⟩
            case measure => simp [intOf]; omega
end Go.Proofs.YtokglpdlhacnaaaDoor

/-
  For every input, FnHaltLevels returns true, and each argument reads afterwards as it read before. The three listed tables of the library hold what the program's text lays.
-/
namespace Go.Proofs.YtokglpdlhacnaaaDoor.lawHaltLevelsRow
open Go.ChangeShapes Go.WideShapes Go.ChangeAt Go.RowKit Go.Joins Go.Proofs.YtokglpdlhacnaaaDoor

theorem own : ownKnob Tryd.prog.godebug = none := by kernel_rfl
theorem laidOut : laidOutB Tryd.prog = true := by kernel_rfl
theorem readable : ∀ t ∈ Tryd.f8.params.toList, Tryd.prog.readableRec t = true ∧ t < Tryd.prog.types.size := by
  have h : (Tryd.f8.params.toList.all fun t => Tryd.prog.readableRec t && decide (t < Tryd.prog.types.size)) = true := by kernel_rfl
  intro t ht
  have := List.all_eq_true.1 h t ht
  simpa using this

/-- The heap that the program's own start leaves meets the condition. -/
theorem door_met (os : Os) (args : Array Value) : laidMetH Tryd.prog Rows.fnHaltLevelsRow.laid ((World.doorLaid Tryd.prog 400 os).forCall (fun _ _ => 0) ⟨#[], args, []⟩).memory :=
  laidMetH_of_parts3 (fuel := 8) (laidMet_of_run' 8 (by kernel_rfl) (by kernel_rfl)) (by kernel_rfl) (by kernel_rfl)
/-- What the condition gives the walk. -/
theorem tab_of {W : World} (h : laidMetH Tryd.prog Rows.fnHaltLevelsRow.laid W) : Tab W := by
  rw [MakeChecks.laidMetH_plain _ _ _ (by kernel_rfl)] at h
  obtain ⟨ps, ⟨g0, t0, cs0, f0, p0, q0, _, _, _, _, ⟨g1, t1, cs1, f1, p1, q1, _, _, _, _, ⟨g2, t2, cs2, f2, p2, q2, hg2, ht2, hv2, hd2, _, _⟩, _⟩, _⟩, _, _⟩ := h
  have hg : Tryd.prog.globalNamed "internal/strconv.uint64pow10" = some 2 := by kernel_rfl
  have hty : (Tryd.prog.globals[2]?).map (·.type) = some 201 := by kernel_rfl
  obtain rfl := Option.some.inj (hg.symm.trans hg2)
  obtain rfl := Option.some.inj (hty.symm.trans ht2)
  unfold Tab Lib.TabIs
  rw [hv2]
  have hc := Lib.cells_of_tab (zs := Lib.pow10Tab) (k := .u64) Tryd.underlying201 Tryd.underlying152 (by kernel_rfl) (by kernel_rfl) hd2
  rw [← hc]

set_option maxRecDepth 100000 in
theorem lifted (os : Os) (started : os.Started) (H : Type) (enc : TypeId × Value → H) :
    ReturnsInHanded {} Tryd.checked os 8 .any (fun w args => (Rows.fnHaltLevelsSpec.pre enc Tryd.prog Tryd.f8 [] false w args ∧ laidMetH Tryd.prog Rows.fnHaltLevelsRow.laid w) ∧ sizedMet enc Tryd.prog Tryd.f8 (OpenSpec.ofChange Rows.fnHaltLevelsSpec) false w args)
      (Rows.fnHaltLevelsSpec.post enc Tryd.prog Tryd.f8 false true false false) := by
  refine returnsInHanded_of_change_and (C := Tryd.checked) (X := fun w _ => laidMetH Tryd.prog Rows.fnHaltLevelsRow.laid w) (fun _ _ _ hh h => h.of_heap hh) own started (by kernel_rfl) Tryd.func8
    (ChangeSpec.witness_shaped (enc := enc) (C := Tryd.checked) (os := os) (X := fun w _ => laidMetH Tryd.prog Rows.fnHaltLevelsRow.laid w) false (World.doorLaid Tryd.prog 400 os) #[.slice none 0 0] 8 rfl (World.shaped_of_RefB (by kernel_rfl) (by kernel_rfl)) (by kernel_rfl) (by kernel_rfl) (by kernel_rfl) (door_met os _)) ?_
  intro W base args ds gs before hval0 hW _ _ hL _
  have hval : ∀ (j : Nat) t v, Tryd.f8.params[j]? = some t → args[j]? = some v → Value.okWide Tryd.prog W .any base t v := hval0
  have hW' := hW
  obtain ⟨p, q, hA0, hV, hbef, hfz, hnd⟩ := hW
  have hA : DataW.TrodAll enc Tryd.prog W 0 (fun _ => true) true Tryd.f8.params.toList args.toList ds p := hA0
  rw [Tryd.params8] at hA hval
  obtain ⟨v0, vs0, d0, ds0, p0, q0, hargs, rfl, rfl, h0, r0⟩ := trodAll_cons hA
  obtain ⟨rfl, rfl, rfl⟩ := trodAll_nil r0
  obtain rfl : args = #[v0] := by cases args; simp_all
  obtain ⟨rfl, rfl⟩ := trodVars_none hV
  obtain ⟨Aa0, na0, ka0, rfl⟩ := okWide_slice Tryd.underlying65 (hval 0 65 v0 rfl rfl)
  have hB0 := okWide_blk Tryd.underlying65 (hval 0 65 _ rfl rfl)
  obtain ⟨fuel0, hf0⟩ := h0
  obtain ⟨Aa0', na0', ka0', xa0, ee0, Sa0, la0, ma0⟩ := sb_of_trod (v := .slice Aa0 na0 ka0) Tryd.underlying65 Tryd.underlying5 (by kernel_rfl) (by simpa [Value.cells] using hf0)
  simp only [Value.slice.injEq] at ee0
  obtain ⟨rfl, rfl, rfl⟩ := ee0
  refine (lawHaltLevels Aa0 na0 ka0 xa0 W Sa0 hB0 (by omega) (tab_of hL)).mono fun e W' ⟨he, hb⟩ => ?_
  subst he
  exact ⟨_, rfl, law_post laidOut readable rfl (by kernel_rfl) Tryd.underlying4 rfl rfl rfl hW' hb⟩

theorem row_holds : Rows.FnHaltLevelsSaid :=
  OpenClaim.holds_of_wide 8 Tryd.f8 rfl rfl rfl rfl rfl rfl rfl ⟨rfl, rfl, rfl, rfl, rfl⟩ rfl rfl rfl rfl rfl (by kernel_rfl) Tryd.func8 (by kernel_rfl)
    (of_decide_eq_true (by kernel_rfl)) (by unfold Func.isWrapper; first | (rw [if_pos (by decide +kernel)]; kernel_rfl) | (rw [if_neg (by decide +kernel)]; exact ⟨rfl, rfl⟩))
    (fun os started H enc _ => lifted os started H enc)
end Go.Proofs.YtokglpdlhacnaaaDoor.lawHaltLevelsRow

/-
  The tied card of FnHaltLevels: for every input it returns true, and each argument reads afterwards as it read before; the three listed tables are tied to the program's text.
-/
namespace Go.Proofs.YtokglpdlhacnaaaDoor.cardHaltLevels
open Go Go.Proofs.YtokglpdlhacnaaaDoor

theorem proved : Rows.FnHaltLevelsCardSaid :=
  Claim7.holds_tied_plain_at .later [] Rows.fnHaltLevelsCard.laidKinds true Rows.fnHaltLevelsCard.stood.harness true
    lawHaltLevelsRow.row_holds (fun _ h => by cases h) (by kernel_rfl) (fun _ h => by cases h) fnHaltLevels_row_tie rfl ⟨rfl, rfl⟩ (by kernel_rfl) rfl
    (fun f fn hf hfn => by
      obtain rfl : f = 8 := Option.some.inj ((show Tryd.prog.funcNamed Rows.fnHaltLevelsRow.func = some 8 by kernel_rfl).symm.trans hf) |>.symm
      obtain rfl : fn = Tryd.f8 := (Option.some.inj (Tryd.func8.symm.trans hfn)).symm
      exact ⟨by kernel_rfl, fun j t ht => by
        rw [Tryd.params8] at ht
        have hm : t ∈ [65] := by simpa using Array.mem_of_getElem? ht
        have hall : ([65].all fun u => !Tryd.prog.wantsStandIn u) = true := by kernel_rfl
        exact (show Tryd.prog.wantsStandIn t = false by simpa using List.all_eq_true.1 hall t hm)⟩)
    (by kernel_rfl)
end Go.Proofs.YtokglpdlhacnaaaDoor.cardHaltLevels
