/-
  Contract of the reference's l05Budget.
-/
import Derived.Test.YtfheepjfpgiaoaaL00A
import Derived.Test.YtfheepjfpgiaoaaRtI
import Derived.Test.YtfheepjfpgiaoaaWmW
import Derived.Test.YtfheepjfpgiaoaaBase
import Derived.Test.YtfheepjfpgiaoaaHelpP
import Derived.Test.YtfheepjfpgiaoaaCm
import Derived.Deep.RegionHeld3
import Derived.Deep.DeepCutAuto
import Derived.BigGuardPart
namespace Go.Proofs.Ytfheepjfpgiaoaa
open Go.RowKit

theorem l05Budget_any (b : Int) (w : World) : Calls Try.prog 64 #[.int .i64 b] w fun e w' => e = .returned (.bool (inB b 1 20000)) ∧ w = w' := by
  go_enter Try.func64, Try.ntmps64
  go_wp2_with (go_at_call 148; refine (l00In_any _ _ _ _).mono ?_; rintro e w' ⟨rfl, rfl⟩)
  go_ret
  exact ⟨rfl, rfl⟩
theorem l05Budget_is {b : Int} {v : Bool} (h : inB b 1 20000 = v) (w : World) : Calls Try.prog 64 #[.int .i64 b] w fun e w' => e = .returned (.bool v) ∧ w = w' := h ▸ l05Budget_any b w
end Go.Proofs.Ytfheepjfpgiaoaa

/-
  Contract of the reference's RunWhile.
-/
namespace Go.Proofs.Ytfheepjfpgiaoaa
open Go.RowKit

theorem NowS.first {w : World} {lo c : Nat} {A : Option Addr} {s : List Tr} (h : NowS w lo A c s) (h6 : 0 < s.length) : ∃ b off A1 c1, A = some ⟨b, off, none⟩ ∧ w.cell? ⟨b, off, none⟩ = some (.slice A1 (s.getD 0 .nil).enc.length c1) ∧ Own w lo 4 1 A1 (s.getD 0 .nil).enc.length c1 (bools (s.getD 0 .nil).enc) := by
  obtain ⟨us, h1, h2⟩ := h
  obtain ⟨b, off, e, _, _, hc, _⟩ := h2.1.at_ (k := 0) (by rw [List.length_map, nums_len h1]; exact h6)
  obtain ⟨u, hu, ex⟩ := nums_get h1 (List.getElem?_eq_getElem h6)
  have hd : s.getD 0 .nil = s[0] := by rw [List.getD_eq_getElem?_getD, List.getElem?_eq_getElem h6]; rfl
  obtain ⟨hl, he⟩ := List.getElem?_eq_some_iff.1 hu
  have ho := h2.2.1 u (List.mem_of_getElem? hu)
  rw [hd, ← ex]
  refine ⟨b, off, u.A, u.c, e, ?_, ho⟩
  have hc' : w.cell? ⟨b, off, none⟩ = some ((us.map Bl.val)[0]'(by rw [List.length_map]; exact hl)) := hc
  rw [hc', List.getElem_map, he]
  rfl
end Go.Proofs.Ytfheepjfpgiaoaa

/-
  Contracts of the reference's l22Store and RunStore.
-/
namespace Go.Proofs.Ytfheepjfpgiaoaa
open Go.RowKit

/-- Rows of Bools in new memory, two numbers and a Bool. -/
def NewBB4 (w : World) (r : List (List Bool) × Int × Bool × Int) (e : Ending) (w' : World) : Prop :=
  ∃ A c us, e = .returned (.tuple #[.slice A r.1.length c, .int .i64 r.2.1, .bool r.2.2.1, .int .i64 r.2.2.2]) ∧ OBB w' w.heap.size 43 4 A r.1.length c us ∧ numsB us = r.1 ∧ Below w.heap.size w w'
theorem OBB.none (w : World) (lo : Nat) : OBB w lo 43 4 none 0 0 [] := ⟨Own.nil, by simp, List.Pairwise.nil⟩
theorem okStore_get {us : List Bl} (h : okStore (numsB us) = true) : us.length = 6 ∧ ∀ u ∈ us, treeB u.xs = true := by
  unfold okStore at h
  rw [Bool.and_eq_true, decide_eq_true_iff, List.all_eq_true] at h
  refine ⟨by have := h.1; simpa [numsB] using this, fun u hu => h.2 _ (List.mem_map.2 ⟨u, hu, rfl⟩)⟩
set_option maxHeartbeats 1000000 in
theorem l22Store_any (A : Option Addr) (n c : Nat) (us : List Bl) (w : World) (hx : SBB w A n us) (hn : n ≤ 1048576) (hr : ∀ u ∈ us, u.xs.length ≤ 1048576) :
    Calls Try.prog 63 #[.slice A n c] w fun e w' => e = .returned (.bool (okStore (numsB us))) ∧ w = w' := by
  have HL := Lib.hid hx.len
  have HR := Lib.hid hr
  clear hr
  by_cases h6 : n = 6
  rotate_left
  · have i1 : ((n : Int) != 6) = true := by simp; omega
    have HF : Hid (okStore (numsB us) = false) := Lib.hid (by unfold okStore; rw [decide_eq_false (by simp only [numsB, List.length_map]; rw [HL.out]; exact h6)]; rfl)
    go_enter Try.func63, Try.ntmps63
    go_wp2_with fail
    go_ret
    exact ⟨ret_bool HF.out.symm, rfl⟩
  subst h6
  go_enter Try.func63, Try.ntmps63
  go_wp2_with fail
  go_loop [3] (fun i => ∃ k : Nat, k ≤ 6 ∧ i = .int .i64 k ∧ Hid (((numsB us).take k).all treeB = true)) (fun i => 6 - (intOf i).toNat)
  case atStart => exact ⟨0, Nat.zero_le _, rfl, Lib.hid (by simp)⟩
  case round =>
    obtain ⟨k, hk, rfl, HA⟩ := hrel
    by_cases hlt : k < 6
    · obtain ⟨t, b, off, HT, htm, rfl, hbl, hc, hrow⟩ := hx.pick hlt
      have hrl := HR.out t htm
      have HI := Lib.hid (l21Is_any t.A t.xs.length t.c t.xs w hrow (by omega))
      have HG : Hid ((numsB us)[k]? = some t.xs) := Lib.hid (by simp only [numsB, List.getElem?_map, HT.out]; rfl)
      have i1 : (0 : Int) ≤ (k : Int) := by omega
      have i2 : (k : Int) < 6 := by omega
      cases ht : treeB t.xs with
      | false =>
        have HF : Hid (okStore (numsB us) = false) := Lib.hid (by
          unfold okStore
          rw [Bool.and_eq_false_iff]
          right
          rw [List.all_eq_false]
          exact ⟨t.xs, List.mem_of_getElem? HG.out, by rw [ht]; simp⟩)
        rw [ht] at HI
        clear ht
        go_wp2_with (go_at_call 149; refine HI.out.mono ?_; rintro e w' ⟨rfl, rfl⟩)
        go_ret
        exact ⟨ret_bool HF.out.symm, rfl⟩
      | true =>
        have HN : Hid (((numsB us).take (k + 1)).all treeB = true) := Lib.hid (by
          obtain ⟨h1, h2⟩ := List.getElem?_eq_some_iff.1 HG.out
          rw [List.take_succ_eq_append_getElem h1, List.all_append, HA.out, h2]
          simp [ht])
        rw [ht] at HI
        clear ht
        go_wp2_with (go_at_call 149; refine HI.out.mono ?_; rintro e w' ⟨rfl, rfl⟩)
        go_round
        case rel => exact ⟨k + 1, by omega, by go_num, HN⟩
        case measure => (simp [intOf] <;> omega)
    · obtain rfl : k = 6 := by omega
      have i2 : ¬ ((6 : Nat) : Int) < 6 := by omega
      have HF : Hid (okStore (numsB us) = true) := Lib.hid (by
        have h := HA.out
        have hl6 : (numsB us).length = 6 := by simp only [numsB, List.length_map]; exact HL.out
        rw [List.take_of_length_le (by omega)] at h
        unfold okStore; rw [h, hl6]; rfl)
      go_wp2_with fail
      go_ret
      exact ⟨ret_bool HF.out.symm, rfl⟩
theorem TRd.of {w : World} {lo n c : Nat} {A : Option Addr} {us : List Bl} (h : OBB w lo 43 4 A n c us) (hk : ∀ u ∈ us, treeB u.xs = true) : TRd w A ((numsB us).map trOf) := by
  have hl := h.sii.len
  refine ⟨us, by simp [numsB], ?_, fun k t hT => ?_⟩
  · have e : ((numsB us).map trOf).length = n := by simp [numsB, hl]
    rw [e]; exact h.1.rd
  · simp only [numsB, List.map_map, List.getElem?_map] at hT
    obtain ⟨u, hu, e⟩ := Option.map_eq_some_iff.1 hT
    have hm := List.mem_of_getElem? hu
    refine ⟨u, hu, ?_, (h.2.1 u hm).mono (Nat.zero_le _)⟩
    rw [← e]; exact (enc_trOf (hk u hm)).1.symm
set_option maxRecDepth 100000 in
set_option maxHeartbeats 4000000 in
theorem runStoreS_any (A : Option Addr) (n c : Nat) (ts : List Ce) (lo : Nat) (B : Option Addr) (m d : Nat) (us : List Bl) (b : Int) (w : World) (hx : SC w A n ts) (hn : n ≤ 1048576) (hr : ∀ t ∈ ts, t.e.length ≤ 1048576) (hy : OBB w lo 43 4 B m d us) (hm : m ≤ 1048576) (hs : ∀ u ∈ us, u.xs.length ≤ 1048576) :
    Calls Try.prog 11 #[.slice A n c, .slice B m d, .int .i64 b] w (NewBB4 w (runStF (cmds ts) (numsB us) b)) := by
  have hl : (cmds ts).length = n := by rw [cmds_len]; exact hx.len
  have HX := Lib.hid hx
  have HY := Lib.hid hy
  have HV := Lib.hid (l22Is_any A n c ts w hx hn hr)
  have HT := Lib.hid (fun w' (z : Below w.heap.size w w') => l22Store_any B m d us w' (hy.below z).sii hm hs)
  cases hv : validWh (cmds ts) with
  | false =>
    have HF : Hid (runStF (cmds ts) (numsB us) b = ([], 0, false, 1)) := Lib.hid (runStF_bad (by rw [hv, Bool.and_false]))
    rw [hv] at HV
    clear hv hx hy hl
    go_enter Try.func11, Try.ntmps11
    go_wp2_with (go_at_call 62; refine HV.out.mono ?_; rintro e w' ⟨rfl, z⟩; have HZ := Lib.hid z)
    rw [HF.out]
    exact bodyPost_ret (v := .tuple #[.slice none 0 0, .int .i64 0, .bool false, .int .i64 1]) (by simp [results, Try.results11, go_sem]) rfl ⟨none, 0, [], rfl, OBB.none _ _, rfl, HZ.out⟩
  | true =>
    cases ht : okStore (numsB us) with
    | false =>
      have HF : Hid (runStF (cmds ts) (numsB us) b = ([], 0, false, 1)) := Lib.hid (runStF_bad (by rw [ht]; rfl))
      rw [hv] at HV
      rw [ht] at HT
      clear hv hx hy hl ht
      go_enter Try.func11, Try.ntmps11
      go_wp2_with (first | (go_at_call 62; refine HV.out.mono ?_; rintro e w2 ⟨rfl, z⟩; have HZ := Lib.hid z) | (go_at_call 63; refine (HT.out _ HZ.out).mono ?_; rintro e w' ⟨rfl, rfl⟩))
      rw [HF.out]
      exact bodyPost_ret (v := .tuple #[.slice none 0 0, .int .i64 0, .bool false, .int .i64 1]) (by simp [results, Try.results11, go_sem]) rfl ⟨none, 0, [], rfl, OBB.none _ _, rfl, HZ.out⟩
    | true =>
      obtain ⟨h80, hpe, hpo⟩ := validWh_get hv
      obtain ⟨h6, htr⟩ := okStore_get ht
      have hvt : (okStore (numsB us) && validWh (cmds ts)) = true := by rw [hv, ht]; rfl
      rw [hv] at HV
      rw [ht] at HT
      cases hb : inB b 1 20000 with
      | false =>
        have HF : Hid (runStF (cmds ts) (numsB us) b = ([], 0, false, 2)) := Lib.hid (runStF_range hvt hb)
        have HB := Lib.hid hb
        clear hv hx hy hl ht hb hpe hpo h80 hvt htr
        go_enter Try.func11, Try.ntmps11
        go_wp2_with (first | (go_at_call 62; refine HV.out.mono ?_; rintro e w2 ⟨rfl, z⟩; have HZ := Lib.hid z) | (go_at_call 63; refine (HT.out _ HZ.out).mono ?_; rintro e w' ⟨rfl, rfl⟩) | (go_at_call 64; refine (l05Budget_is HB.out _).mono ?_; rintro e w' ⟨rfl, rfl⟩))
        rw [HF.out]
        exact bodyPost_ret (v := .tuple #[.slice none 0 0, .int .i64 0, .bool false, .int .i64 2]) (by simp [results, Try.results11, go_sem]) rfl ⟨none, 0, [], rfl, OBB.none _ _, rfl, HZ.out⟩
      | true =>
        have HB := Lib.hid hb
        have hbb := (inB_iff _ _ _).1 hb
        obtain ⟨N, rfl⟩ : ∃ N : Nat, b = (N : Int) := ⟨b.toNat, by omega⟩
        obtain ⟨P, hPP⟩ : ∃ P, pgOf (cmds ts) = P := ⟨_, rfl⟩
        obtain ⟨s0, hs0⟩ : ∃ s0, (numsB us).map trOf = s0 := ⟨_, rfl⟩
        rw [hPP] at hpe hpo
        have HTD : Hid (∀ w', Below w.heap.size w w' → TRd w' B s0) := Lib.hid (fun w' z => hs0 ▸ TRd.of (hy.below z) htr)
        have HS6 : Hid (s0.length = 6) := Lib.hid (by rw [← hs0]; simp [numsB, h6])
        have HSN : Hid (∀ t ∈ s0, t.nodes ≤ 2000) := Lib.hid (fun t h => by
          rw [← hs0] at h
          obtain ⟨x, hx1, rfl⟩ := List.mem_map.1 h
          obtain ⟨u, hu, rfl⟩ := List.mem_map.1 hx1
          exact (enc_trOf (htr u hu)).2)
        have HFN : Hid (goW N 0 P [] s0 = none → runStF (cmds ts) (numsB us) (N : Int) = ([], 0, false, 5)) := Lib.hid (fun h => runStF_none hvt hb (by rw [Int.toNat_natCast, hPP, hs0]; exact h))
        have HFS : Hid (∀ s k d, goW N 0 P [] s0 = some (s, k, d) → runStF (cmds ts) (numsB us) (N : Int) = (s.map Tr.enc, (k : Int), d, 0)) := Lib.hid (fun s k d h => runStF_some hvt hb (by rw [Int.toNat_natCast, hPP, hs0]; exact h))
        have HPE := Lib.hid hpe
        have HPO := Lib.hid hpo
        have hn8 : n ≤ 80 := by rw [← hl]; exact h80
        have hN : N ≤ 20000 := by omega
        obtain rfl : m = 6 := by have := hy.sii.len; omega
        clear hv hx hy hl ht hb hpe hpo h80 hvt hbb hPP htr hs0
        go_enter Try.func11, Try.ntmps11
        go_upto_region 5 with (first | (go_at_call 62; refine HV.out.mono ?_; rintro e w2 ⟨rfl, z⟩; have HZ := Lib.hid z) | (go_at_call 63; refine (HT.out _ HZ.out).mono ?_; rintro e w' ⟨rfl, rfl⟩) | (go_at_call 64; refine (l05Budget_is HB.out _).mono ?_; rintro e w' ⟨rfl, rfl⟩))
        have HRI := Lib.hid (l22Run_any w2 A n c ts B d s0 N P (HX.out.below HZ.out) (by omega) HPE.out.symm HPO.out (HTD.out _ HZ.out) HS6.out HSN.out (by omega))
        clear HV HT HB
        go_wp2_with fail
        refine HRI.out.mono ?_
        rintro e w4 ⟨hz4, hres⟩
        have HZ4 := Lib.hid (HZ.out.trans (hz4.mono HZ.out.size))
        cases hg : goW N 0 P [] s0 with
        | none =>
          have HF : Hid (runStF (cmds ts) (numsB us) (N : Int) = ([], 0, false, 5)) := Lib.hid (HFN.out hg)
          rw [hg] at hres
          obtain rfl := hres
          clear hg hz4 HFN HFS
          go_wp2_with fail
          rw [HF.out]
          exact bodyPost_ret (v := .tuple #[.slice none 0 0, .int .i64 0, .bool false, .int .i64 5]) (by simp [results, Try.results11, go_sem]) rfl ⟨none, 0, [], rfl, OBB.none _ _, rfl, HZ4.out⟩
        | some r =>
          obtain ⟨s, k, dd⟩ := r
          have HF : Hid (runStF (cmds ts) (numsB us) (N : Int) = (s.map Tr.enc, (k : Int), dd, 0)) := Lib.hid (HFS.out s k dd hg)
          have hsl : s.length = 6 := (goW_ok _ _ _ _ _ HSN.out s k dd hg).2.trans HS6.out
          rw [hg] at hres
          obtain ⟨RA, rc, rfl, vs, hv1, hv2⟩ := hres
          rw [hsl] at hv2
          have HV1 := Lib.hid hv1
          have HV2 := Lib.hid hv2
          have HSL := Lib.hid hsl
          clear hg hz4 HFN HFS hv1 hv2 hsl
          go_wp2_with fail
          rw [HF.out]
          exact bodyPost_ret (v := .tuple #[.slice RA 6 rc, .int .i64 (k : Int), .bool dd, .int .i64 0]) (by simp [results, Try.results11, go_sem]) rfl ⟨RA, rc, vs, by rw [List.length_map, HSL.out], by rw [List.length_map, HSL.out]; exact ⟨HV2.out.1.mono HZ.out.size, fun u hu => (HV2.out.2.1 u hu).mono HZ.out.size, HV2.out.2.2⟩, HV1.out, HZ4.out⟩
end Go.Proofs.Ytfheepjfpgiaoaa

/-
  Contracts of impl's areTrees, storeTrees, storeLists and RunStore.
-/
namespace Go.Proofs.Ytfheepjfpgiaoaa
open Go.RowKit

def firstR (p : List Bool → Bool) (xss : List (List Bool)) : Int := match xss.findIdx? p with | some k => k | none => -1
theorem firstR_at {p : List Bool → Bool} {ts : List Bl} {t : Bl} {k : Nat} (hT : ts[k]? = some t) (h : p t.xs = true) (he : ((numsB ts).take k).any p = false) : (k : Int) = firstR p (numsB ts) := by
  unfold firstR
  obtain ⟨hk, rfl⟩ := List.getElem?_eq_some_iff.1 hT
  have : (numsB ts).findIdx? p = some k := by
    rw [List.findIdx?_eq_some_iff_getElem]
    refine ⟨by simpa [numsB] using hk, by simpa [numsB] using h, fun j hj => ?_⟩
    rw [List.any_eq_false] at he
    have := he ((numsB ts)[j]'(by simp [numsB]; omega)) (by rw [List.mem_take_iff_getElem]; exact ⟨j, by simp [numsB]; omega, rfl⟩)
    simpa using this
  rw [this]
theorem firstR_none {p : List Bool → Bool} {ts : List Bl} {k n : Nat} (hk : n ≤ k) (hl : ts.length = n) (he : ((numsB ts).take k).any p = false) : -1 = firstR p (numsB ts) := by
  unfold firstR
  rw [List.take_of_length_le (by simp [numsB]; omega)] at he
  have : (numsB ts).findIdx? p = none := by
    rw [List.findIdx?_eq_none_iff]
    intro x hx
    rw [List.any_eq_false] at he
    simpa using he x hx
  rw [this]
theorem firstR_next {p : List Bool → Bool} {ts : List Bl} {t : Bl} {k : Nat} (hT : ts[k]? = some t) (h : p t.xs = false) (he : ((numsB ts).take k).any p = false) : ((numsB ts).take (k + 1)).any p = false := by
  obtain ⟨hk, rfl⟩ := List.getElem?_eq_some_iff.1 hT
  rw [List.take_succ_eq_append_getElem (by simpa [numsB] using hk), List.any_append, he]
  simpa [numsB] using h
theorem firstR_ge (p : List Bool → Bool) (xss : List (List Bool)) : decide (0 ≤ firstR p xss) = xss.any p := by
  unfold firstR
  cases h : xss.findIdx? p with
  | some k =>
    obtain ⟨hk, hp, _⟩ := List.findIdx?_eq_some_iff_getElem.1 h
    have : xss.any p = true := List.any_eq_true.2 ⟨_, List.getElem_mem hk, hp⟩
    rw [this]; simp
  | none =>
    have : xss.any p = false := by rw [List.any_eq_false]; intro x hx; simpa using List.findIdx?_eq_none_iff.1 h x hx
    rw [this]; rfl
set_option maxHeartbeats 400000 in
theorem indexFuncBB_any (A : Option Addr) (n c : Nat) (ts : List Bl) (f : FuncId) (p : List Bool → Bool) (w : World) (hx : SBB w A n ts) (hn : n ≤ 9223372036854775807) (hcall : ∀ (args : Array Value) (w : World), (callFunc f args).run Try.prog w = .ok (.enter f args) w)
    (hf : Hid (∀ t ∈ ts, Calls Try.prog f #[.slice t.A t.xs.length t.c] w fun e w' => e = .returned (.bool (p t.xs)) ∧ w = w')) :
    Calls Try.prog 236 #[.slice A n c, .func (.func f) #[] #[]] w fun e w' => e = .returned (.int .i64 (firstR p (numsB ts))) ∧ w = w' := by
  go_enter Try.func236, Try.ntmps236
  go_wp2
  go_loop [8] (fun i => ∃ k : Nat, k ≤ n ∧ i = .int .i64 k ∧ Hid (((numsB ts).take k).any p = false)) (fun i => n - (intOf i).toNat)
  case atStart => exact ⟨0, by omega, rfl, rfl⟩
  case round =>
    obtain ⟨k, hk, rfl, he⟩ := hrel
    by_cases hlt : k < n
    · obtain ⟨t, b, off, hT, htm, rfl, _, hc, hr⟩ := hx.pick hlt
      go_wp2_with fail
      refine (hf.out t htm).mono ?_
      rintro e w' ⟨rfl, rfl⟩
      cases hp : p t.xs
      · have HP := Lib.hid hp
        clear hp
        go_wp2
        exact ⟨⟨k + 1, by omega, by go_num, firstR_next hT.out HP.out he.out⟩, by simp [intOf]; omega⟩
      · have HP := Lib.hid hp
        clear hp
        go_wp2
        go_ret
        exact ⟨ret_int (firstR_at hT.out HP.out he.out), rfl⟩
    · go_wp2
      go_ret
      exact ⟨ret_int (firstR_none (by omega) hx.len he.out), rfl⟩
theorem containsFuncBB_any (A : Option Addr) (n c : Nat) (ts : List Bl) (f : FuncId) (p : List Bool → Bool) (w : World) (hx : SBB w A n ts) (hn : n ≤ 9223372036854775807) (hcall : ∀ (args : Array Value) (w : World), (callFunc f args).run Try.prog w = .ok (.enter f args) w)
    (hf : Hid (∀ t ∈ ts, Calls Try.prog f #[.slice t.A t.xs.length t.c] w fun e w' => e = .returned (.bool (p t.xs)) ∧ w = w')) :
    Calls Try.prog 178 #[.slice A n c, .func (.func f) #[] #[]] w fun e w' => e = .returned (.bool ((numsB ts).any p)) ∧ w = w' := by
  go_enter Try.func178, Try.ntmps178
  go_wp2_with (go_at_call 236; refine (indexFuncBB_any _ _ _ ts _ p _ hx hn hcall hf).mono ?_; rintro e w' ⟨rfl, rfl⟩)
  go_ret
  exact ⟨ret_bool (firstR_ge p (numsB ts)), rfl⟩
theorem allTrees_not (xss : List (List Bool)) : (!xss.any (fun xs => !treeB xs)) = xss.all treeB := by
  rw [List.not_any_eq_all_not]; simp
theorem areTrees_any (A : Option Addr) (n c : Nat) (ts : List Bl) (w : World) (hx : SBB w A n ts) (hn : n ≤ 9223372036854775807) (hns : ∀ t ∈ ts, t.xs.length ≤ 1048576) :
    Calls Try.prog 93 #[.slice A n c] w fun e w' => e = .returned (.bool ((numsB ts).all treeB)) ∧ w = w' := by
  have HNS := Lib.hid hns
  clear hns
  go_enter Try.func93, Try.ntmps93
  go_wp2_with fail
  refine (containsFuncBB_any _ _ _ ts _ (fun xs => !treeB xs) _ hx hn Try.call179 (fun t ht => areTrees1_any _ _ _ _ _ (hx.2 t ht) (by have := HNS.out t ht; omega))).mono ?_
  rintro e w' ⟨rfl, rfl⟩
  go_wp2
  go_ret
  exact ⟨ret_bool (allTrees_not _), rfl⟩
/-- What storeTrees returns. -/
def StoP (w : World) (xss : List (List Bool)) (e : Ending) (w' : World) : Prop :=
  Below w.heap.size w w' ∧ if okStore xss = true then ∃ SA sc, e = .returned (.tuple #[.slice SA 6 sc, .bool true]) ∧ StOwn w' w.heap.size SA sc (xss.map trOf) else e = .returned (.tuple #[.slice none 0 0, .bool false])
set_option maxRecDepth 100000 in
set_option maxHeartbeats 4000000 in
theorem storeTrees_any (A : Option Addr) (n c : Nat) (us : List Bl) (w : World) (hx : SBB w A n us) (hn : n ≤ 1048576) (hns : ∀ t ∈ us, t.xs.length ≤ 1048576) : Calls Try.prog 68 #[.slice A n c] w (StoP w (numsB us)) := by
  have HL := Lib.hid hx.len
  have HA := Lib.hid (areTrees_any A n c us w hx (by omega) hns)
  clear hns
  by_cases h6 : n = 6
  rotate_left
  · have i1 : ((n : Int) != 6) = true := by simp; omega
    have HF : Hid (¬ okStore (numsB us) = true) := Lib.hid (by intro h; have := (okStore_get h).1; rw [HL.out] at this; exact h6 this)
    go_enter Try.func68, Try.ntmps68
    go_wp2_with fail
    exact bodyPost_ret (v := .tuple #[.slice none 0 0, .bool false]) (by simp [results, Try.results68, go_sem]) rfl ⟨Below.refl _ _, by rw [if_neg HF.out]⟩
  subst h6
  have hl6 : (numsB us).length = 6 := by simp only [numsB, List.length_map]; exact HL.out
  cases hall : (numsB us).all treeB with
  | false =>
    have HF : Hid (¬ okStore (numsB us) = true) := Lib.hid (by unfold okStore; rw [hall, Bool.and_false]; simp)
    rw [hall] at HA
    clear hall hl6
    go_enter Try.func68, Try.ntmps68
    go_wp2_with (go_at_call 93; refine HA.out.mono ?_; rintro e w' ⟨rfl, rfl⟩)
    exact bodyPost_ret (v := .tuple #[.slice none 0 0, .bool false]) (by simp [results, Try.results68, go_sem]) rfl ⟨Below.refl _ _, by rw [if_neg HF.out]⟩
  | true =>
    have HK : Hid (okStore (numsB us) = true) := Lib.hid (by unfold okStore; rw [hall, hl6]; rfl)
    rw [hall] at HA
    have HTB := Lib.hid (okStore_get HK.out).2
    obtain ⟨s, hs⟩ : ∃ s, (numsB us).map trOf = s := ⟨_, rfl⟩
    have HS := Lib.hid hs
    have HSG : Hid (∀ (k : Nat) (t : Bl), us[k]? = some t → s[k]? = some (trOf t.xs)) := Lib.hid (fun k t h => by rw [← hs]; simp only [numsB, List.map_map, List.getElem?_map, h]; rfl)
    have HSL : Hid (s.length = 6) := Lib.hid (by rw [← hs, List.length_map]; exact hl6)
    clear hall hl6 hs
    have o0 := Own.lit0 w 124 1
    have z0 : Below w.heap.size w (w.alloc (.cells #[] 124)) := (Below.refl _ _).alloc (Nat.le_refl _) _
    have HO0 := Lib.hid o0
    clear o0
    go_enter Try.func68, Try.ntmps68
    go_wp2_with (go_at_call 93; refine HA.out.mono ?_; rintro e w' ⟨rfl, rfl⟩)
    go_loopw [4, 18] (fun s4 s18 wr => ∃ (k : Nat) (TA : Option Addr) (tc : Nat) (ps : List (Option Addr)), k ≤ 6 ∧ s18 = .int .i64 (k : Int) ∧ s4 = .slice TA k tc ∧ Hid (ps.length = k) ∧ Hid (Own wr w.heap.size 124 1 TA k tc (ps.map Value.pointer)) ∧ Hid (∀ j t, j < k → s[j]? = some t → ∃ p, ps[j]? = some p ∧ TrAt wr t p) ∧ Below w.heap.size w wr) (fun _ s18 _ => 6 - (intOf s18).toNat)
    case atStart => exact ⟨0, _, 0, [], by omega, rfl, rfl, Lib.hid rfl, HO0, Lib.hid (fun j t hj => absurd hj (by omega)), z0⟩
    case round =>
      clear HO0 z0
      obtain ⟨k, TA, tc, ps, hk, rfl, rfl, HPL, HO, HP, hz⟩ := hrel
      by_cases hlt : k < 6
      · obtain ⟨t, b, off, HT, htm, rfl, hbl, hc, hrow⟩ := (hx.below hz).pick hlt
        have htb := HTB.out t htm
        obtain ⟨het, hnt⟩ := enc_trOf htb
        have hrl : t.xs.length ≤ 2000 := by rw [← het, enc_len]; exact hnt
        have HG := Lib.hid (HSG.out k t HT.out)
        have HTO := Lib.hid (treeOf_any t.A t.xs.length t.c (trOf t.xs) wr (by rw [het]; exact hrow) hrl)
        have i1 : (0 : Int) ≤ (k : Int) := by omega
        have i2 : (k : Int) < 6 := by omega
        have hlo := hz.size
        clear htb het hnt hrow
        go_upto_region 7 with fail
        go_wp2_with fail
        refine HTO.out.mono ?_
        rintro e w3 ⟨p, rfl, hp, z3⟩
        have hza : Below w3.heap.size w3 (w3.alloc (.cells #[.pointer p] 124)) := (Below.refl _ _).alloc (Nat.le_refl _) _
        have HP3 := Lib.hid (hp.below hza)
        have HOA := Lib.hid ((HO.out.below z3).below hza)
        have HPB := Lib.hid (fun j t hj (ht : s[j]? = some t) => by obtain ⟨q, e, hq⟩ := HP.out j t hj ht; exact (⟨q, e, (hq.below z3).below hza⟩ : ∃ q, ps[j]? = some q ∧ TrAt (w3.alloc (.cells #[.pointer p] 124)) t q))
        have HZA := Lib.hid (hz.trans ((z3.trans (hza.mono z3.size)).mono hlo))
        have hz3s := z3.size
        clear hp z3 hza hc hbl
        go_wp2_with (at_builtin; refine wpList_append_Own rfl (.tmp 22) (.tmp 25) rfl elTp (lo := w.heap.size) rfl HOA.out rfl (Rd.new1 w3 _ _) (by intro u hu; rw [List.mem_singleton.1 hu]; rfl) (by omega) (by simp only [maxLen]; omega) (by simp; omega) ?_; intro A5 c5 w5 o5 hg5 _; have HO5 := Lib.hid o5; have HG5 := Lib.hid hg5)
        have HKT : Hid (KT (w3.alloc (.cells #[.pointer p] 124)) w5) := Lib.hid (fun _ _ x => x.grown HOA.out HG5.out (by decide))
        go_roundw
        case rel =>
          refine ⟨k + 1, A5, c5, ps ++ [p], by omega, by go_num, rfl, Lib.hid (by rw [List.length_append, HPL.out]; rfl), Lib.hid ?_, Lib.hid ?_, HOA.out.below_of HZA.out HG5.out (by simp; omega)⟩
          · have h := HO5.out
            rw [List.map_append]; exact h
          · intro j t' hj ht'
            by_cases hjk : j < k
            · obtain ⟨q, e, hq⟩ := HPB.out j t' hjk ht'
              exact ⟨q, by rw [List.getElem?_append_left (by rw [HPL.out]; exact hjk)]; exact e, hq.kt HKT.out⟩
            · obtain rfl : j = k := by omega
              rw [HG.out] at ht'
              cases ht'
              exact ⟨p, by rw [List.getElem?_append_right (by rw [HPL.out]; exact Nat.le_refl _), HPL.out, Nat.sub_self]; rfl, HP3.out.kt HKT.out⟩
        case measure => (simp [intOf] <;> omega)
      · obtain rfl : k = 6 := by omega
        have i2 : ¬ ((6 : Nat) : Int) < 6 := by omega
        go_wp2_with fail
        exact bodyPost_ret (v := .tuple #[.slice TA 6 tc, .bool true]) (by simp [results, Try.results68, go_sem]) rfl ⟨hz, by rw [if_pos HK.out, HS.out]; exact ⟨TA, tc, rfl, ps, HPL.out, HSL.out, HO.out, fun j t ht => HP.out j t (by have := (List.getElem?_eq_some_iff.1 ht).1; rw [HSL.out] at this; exact this) ht⟩⟩
end Go.Proofs.Ytfheepjfpgiaoaa

/-
  Contracts of impl's storeLists and RunStore.
-/
namespace Go.Proofs.Ytfheepjfpgiaoaa
open Go.RowKit

theorem StOwn.pick {w : World} {lo sc : Nat} {SA : Option Addr} {s : List Tr} (h : StOwn w lo SA sc s) {k : Nat} (hk : k < 6) : ∃ b off p t, SA = some ⟨b, off, none⟩ ∧ b < w.heap.size ∧ w.cell? ⟨b, off + k, none⟩ = some (.pointer p) ∧ s[k]? = some t ∧ TrAt w t p := by
  obtain ⟨ps, h1, h2, h3, h4⟩ := h
  obtain ⟨b, off, e, _, hlt, hc, _⟩ := h3.at_ (k := k) (by rw [List.length_map]; omega)
  obtain ⟨p, h5, h6⟩ := h4 k (s[k]'(by omega)) (List.getElem?_eq_getElem (by omega))
  obtain ⟨h7, h8⟩ := List.getElem?_eq_some_iff.1 h5
  exact ⟨b, off, p, s[k]'(by omega), e, hlt, by rw [hc, List.getElem_map, h8], List.getElem?_eq_getElem (by omega), h6⟩
/-- What storeLists returns. -/
def LisP (w : World) (s : List Tr) (e : Ending) (w' : World) : Prop := ∃ A c, e = .returned (.slice A 6 c) ∧ NowS w' w.heap.size A c s ∧ Below w.heap.size w w'
set_option maxRecDepth 100000 in
set_option maxHeartbeats 4000000 in
theorem storeLists_any (SA : Option Addr) (sc lo : Nat) (s : List Tr) (w : World) (hs : StOwn w lo SA sc s) (hsn : ∀ t ∈ s, t.nodes ≤ 2000) : Calls Try.prog 72 #[.slice SA 6 sc] w (LisP w s) := by
  have HS := Lib.hid hs
  have HSN := Lib.hid hsn
  have H6 : Hid (s.length = 6) := Lib.hid (by obtain ⟨ps, _, h2, _⟩ := hs; exact h2)
  have z0 : Below w.heap.size w (w.alloc (.cells #[] 43)) := (Below.refl _ _).alloc (Nat.le_refl _) _
  have HN0 : Hid (NowS (w.alloc (.cells #[] 43)) w.heap.size (some ⟨w.heap.size, 0, none⟩) 0 (s.take 0)) := Lib.hid ⟨[], rfl, Own.lit0 w 43 1, by simp, List.Pairwise.nil⟩
  clear hs hsn
  go_enter Try.func72, Try.ntmps72
  go_wp2_with fail
  go_loopw [3, 9] (fun s3 s9 wr => ∃ (i : Nat) (NA : Option Addr) (nc : Nat), i ≤ 6 ∧ s9 = .int .i64 (i : Int) ∧ s3 = .slice NA i nc ∧ Hid (NowS wr w.heap.size NA nc (s.take i)) ∧ Below w.heap.size w wr) (fun _ s9 _ => 6 - (intOf s9).toNat)
  case atStart => exact ⟨0, _, 0, by omega, rfl, rfl, HN0, z0⟩
  case round =>
    clear HN0 z0
    obtain ⟨i, NA, nc, hi, rfl, rfl, HN, hz⟩ := hrel
    by_cases hlt : i < 6
    · obtain ⟨b, off, p, t, rfl, hbl, hc, ht, hp⟩ := (HS.out.below hz).pick hlt
      have HTT := Lib.hid ht
      have htn : t.nodes ≤ 2000 := HSN.out t (List.mem_of_getElem? ht)
      have HLI := Lib.hid (list_any t p wr hp (by omega))
      obtain ⟨us, hus1, hus2⟩ := HN.out
      have HU1 := Lib.hid hus1
      have HU2 := Lib.hid hus2
      have HTL : Hid ((s.take i).length = i) := Lib.hid (by rw [List.length_take, H6.out]; omega)
      have i1 : (0 : Int) ≤ (i : Int) := by omega
      have i2 : (i : Int) < 6 := by omega
      have hlo := hz.size
      obtain ⟨T, hT⟩ : ∃ T, t.enc.length = T := ⟨_, rfl⟩
      have HTn := Lib.hid hT
      clear ht hp hus1 hus2
      go_upto_region 5 with fail
      go_wp2_with fail
      refine HLI.out.mono ?_
      rintro e w3 ⟨A1, c1, rfl, o1, z3⟩
      rw [hT] at o1
      rw [hT]
      have HO1 := Lib.hid o1
      have hza : Below w3.heap.size w3 (w3.alloc (.cells #[.slice A1 T c1] 43)) := (Below.refl _ _).alloc (Nat.le_refl _) _
      have HZ3 := Lib.hid (z3.trans (hza.mono z3.size))
      have HUA : Hid (Own (w3.alloc (.cells #[.slice A1 T c1] 43)) w.heap.size 43 1 NA i nc (us.map Bl.val)) := Lib.hid (by have h := (HU2.out.below HZ3.out).1; rw [HTL.out] at h; exact h)
      have hz3s := z3.size
      clear hc hbl o1 z3 hza hT
      go_wp2_with (at_builtin; refine wpList_append_Own rfl (.tmp 13) (.tmp 16) rfl elBBs (lo := w.heap.size) rfl HUA.out rfl (Rd.new1 w3 _ _) (by intro u hu; rw [List.mem_singleton.1 hu]; rfl) (by omega) (by simp only [maxLen]; omega) (by simp; omega) ?_; intro A5 c5 w5 o5 hg5 _; have HO5 := Lib.hid o5; have HG5 := Lib.hid hg5)
      have HFIN : Hid (NowS w5 w.heap.size A5 c5 (s.take (i + 1))) := Lib.hid (by
        obtain ⟨h1, h2⟩ := List.getElem?_eq_some_iff.1 HTT.out
        rw [List.take_succ_eq_append_getElem h1, h2]
        have hn : t.nodes = T := by rw [← HTn.out, enc_len]
        refine NowS.push HU1.out HU2.out HZ3.out hlo (A1 := A1) (c1 := c1) ?_ ?_ HG5.out
        · rw [hn]; exact HO1.out.alloc _
        · rw [HTL.out, hn]; exact HO5.out)
      have hzf : Below w.heap.size w w5 := HUA.out.below_of (hz.trans (HZ3.out.mono hlo)) HG5.out (by simp; omega)
      go_roundw
      case rel => exact ⟨i + 1, A5, c5, by omega, by go_num, rfl, HFIN, hzf⟩
      case measure => (simp [intOf] <;> omega)
    · obtain rfl : i = 6 := by omega
      have i2 : ¬ ((6 : Nat) : Int) < 6 := by omega
      have HF : Hid (NowS wr w.heap.size NA nc s) := Lib.hid (by have h := HN.out; rwa [List.take_of_length_le (by rw [H6.out]; exact Nat.le_refl _)] at h)
      go_wp2_with fail
      go_ret
      exact ⟨NA, nc, rfl, HF.out, hz⟩
set_option maxRecDepth 100000 in
set_option maxHeartbeats 4000000 in
theorem runStoreI_any (A : Option Addr) (n c : Nat) (ts : List Ce) (B : Option Addr) (m d : Nat) (us : List Bl) (b : Int) (w : World) (hx : SC w A n ts) (hn : n ≤ 1048576) (hnc : n ≤ c) (hr : ∀ t ∈ ts, t.e.length ≤ 1048576) (hy : SBB w B m us) (hm : m ≤ 1048576) (hs : ∀ u ∈ us, u.xs.length ≤ 1048576) :
    Calls Try.prog 14 #[.slice A n c, .slice B m d, .int .i64 b] w (NewBB4 w (runStF (cmds ts) (numsB us) b)) := by
  have hl : (cmds ts).length = n := by rw [cmds_len]; exact hx.len
  have HX := Lib.hid hx
  have HSTO := Lib.hid (storeTrees_any B m d us w hy hm hs)
  have HV := Lib.hid (fun w' (z : Below w.heap.size w w') => validWhile_any A n c ts w' (hx.below z) hn hnc hr)
  cases ht : okStore (numsB us) with
  | false =>
    have HF : Hid (runStF (cmds ts) (numsB us) b = ([], 0, false, 1)) := Lib.hid (runStF_bad (by rw [ht]; rfl))
    have HK : Hid (¬ okStore (numsB us) = true) := Lib.hid (by rw [ht]; decide)
    clear ht hx hy hl
    go_enter Try.func14, Try.ntmps14
    go_wp2_with (go_at_call 68; refine HSTO.out.mono ?_; rintro e w2 ⟨z, he⟩; rw [if_neg HK.out] at he; subst he; have HZ := Lib.hid z)
    rw [HF.out]
    exact bodyPost_ret (v := .tuple #[.slice none 0 0, .int .i64 0, .bool false, .int .i64 1]) (by simp [results, Try.results14, go_sem]) rfl ⟨none, 0, [], rfl, OBB.none _ _, rfl, HZ.out⟩
  | true =>
    have HK : Hid (okStore (numsB us) = true) := Lib.hid ht
    cases hv : validWh (cmds ts) with
    | false =>
      have HF : Hid (runStF (cmds ts) (numsB us) b = ([], 0, false, 1)) := Lib.hid (runStF_bad (by rw [hv, Bool.and_false]))
      rw [hv] at HV
      clear hv hx hy hl ht
      go_enter Try.func14, Try.ntmps14
      go_wp2_with (first | (go_at_call 68; refine HSTO.out.mono ?_; rintro e w2 ⟨z, he⟩; rw [if_pos HK.out] at he; obtain ⟨SA, sc, rfl, hst⟩ := he; have HZ := Lib.hid z) | (go_at_call 69; refine (HV.out _ HZ.out).mono ?_; rintro e w3 ⟨rfl, z3⟩; have HZ3 := Lib.hid (HZ.out.trans (z3.mono HZ.out.size))))
      rw [HF.out]
      exact bodyPost_ret (v := .tuple #[.slice none 0 0, .int .i64 0, .bool false, .int .i64 1]) (by simp [results, Try.results14, go_sem]) rfl ⟨none, 0, [], rfl, OBB.none _ _, rfl, HZ3.out⟩
    | true =>
      obtain ⟨h80, hpe, hpo⟩ := validWh_get hv
      obtain ⟨h6, htr⟩ := okStore_get ht
      have hvt : (okStore (numsB us) && validWh (cmds ts)) = true := by rw [hv, ht]; rfl
      rw [hv] at HV
      cases hb : inB b 1 20000 with
      | false =>
        have HF : Hid (runStF (cmds ts) (numsB us) b = ([], 0, false, 2)) := Lib.hid (runStF_range hvt hb)
        have HB := Lib.hid hb
        clear hv hx hy hl ht hb hpe hpo h80 hvt htr
        go_enter Try.func14, Try.ntmps14
        go_wp2_with (first | (go_at_call 68; refine HSTO.out.mono ?_; rintro e w2 ⟨z, he⟩; rw [if_pos HK.out] at he; obtain ⟨SA, sc, rfl, hst⟩ := he; have HZ := Lib.hid z) | (go_at_call 69; refine (HV.out _ HZ.out).mono ?_; rintro e w3 ⟨rfl, z3⟩; have HZ3 := Lib.hid (HZ.out.trans (z3.mono HZ.out.size))) | (go_at_call 70; refine (budgetOkW HB.out _).mono ?_; rintro e w' ⟨rfl, rfl⟩))
        rw [HF.out]
        exact bodyPost_ret (v := .tuple #[.slice none 0 0, .int .i64 0, .bool false, .int .i64 2]) (by simp [results, Try.results14, go_sem]) rfl ⟨none, 0, [], rfl, OBB.none _ _, rfl, HZ3.out⟩
      | true =>
        have HB := Lib.hid hb
        have hbb := (inB_iff _ _ _).1 hb
        obtain ⟨N, rfl⟩ : ∃ N : Nat, b = (N : Int) := ⟨b.toNat, by omega⟩
        obtain ⟨P, hPP⟩ : ∃ P, pgOf (cmds ts) = P := ⟨_, rfl⟩
        obtain ⟨s0, hs0⟩ : ∃ s0, (numsB us).map trOf = s0 := ⟨_, rfl⟩
        rw [hPP] at hpe hpo
        have HS0 := Lib.hid hs0
        have HS6 : Hid (s0.length = 6) := Lib.hid (by rw [← hs0]; simp [numsB, h6])
        have HSN : Hid (∀ t ∈ s0, t.nodes ≤ 2000) := Lib.hid (fun t h => by
          rw [← hs0] at h
          obtain ⟨x, hx1, rfl⟩ := List.mem_map.1 h
          obtain ⟨u, hu, rfl⟩ := List.mem_map.1 hx1
          exact (enc_trOf (htr u hu)).2)
        have HFN : Hid (goW N 0 P [] s0 = none → runStF (cmds ts) (numsB us) (N : Int) = ([], 0, false, 5)) := Lib.hid (fun h => runStF_none hvt hb (by rw [Int.toNat_natCast, hPP, hs0]; exact h))
        have HFS : Hid (∀ s k d, goW N 0 P [] s0 = some (s, k, d) → runStF (cmds ts) (numsB us) (N : Int) = (s.map Tr.enc, (k : Int), d, 0)) := Lib.hid (fun s k d h => runStF_some hvt hb (by rw [Int.toNat_natCast, hPP, hs0]; exact h))
        have HPE := Lib.hid hpe
        have HPO := Lib.hid hpo
        have hn8 : n ≤ 80 := by rw [← hl]; exact h80
        have hN : N ≤ 20000 := by omega
        clear hv hx hy hl ht hb hpe hpo h80 hvt hbb hPP htr hs0
        go_enter Try.func14, Try.ntmps14
        go_upto_region 6 with (first | (go_at_call 68; refine HSTO.out.mono ?_; rintro e w2 ⟨z, he⟩; rw [if_pos HK.out, HS0.out] at he; obtain ⟨SA, sc, rfl, hst⟩ := he; have HZ := Lib.hid z; have HST := Lib.hid hst) | (go_at_call 69; refine (HV.out _ HZ.out).mono ?_; rintro e w3 ⟨rfl, z3⟩; have HZ3 := Lib.hid (HZ.out.trans (z3.mono HZ.out.size)); have HST3 := Lib.hid (HST.out.below z3)) | (go_at_call 70; refine (budgetOkW HB.out _).mono ?_; rintro e w' ⟨rfl, rfl⟩))
        have HRI := Lib.hid (runTrees_any w w3 A n c ts SA sc s0 N P HZ3.out HX.out (by omega) HPE.out.symm HPO.out HST3.out HSN.out (by omega))
        clear HV HSTO HB z z3 hst
        go_wp2_with fail
        refine HRI.out.mono ?_
        rintro e w4 ⟨hz4, hres⟩
        have HZ4 := Lib.hid hz4
        cases hg : goW N 0 P [] s0 with
        | none =>
          have HF : Hid (runStF (cmds ts) (numsB us) (N : Int) = ([], 0, false, 5)) := Lib.hid (HFN.out hg)
          rw [hg] at hres
          obtain ⟨rfl, _⟩ := hres
          clear hg hz4 HFN HFS
          go_wp2_with fail
          rw [HF.out]
          exact bodyPost_ret (v := .tuple #[.slice none 0 0, .int .i64 0, .bool false, .int .i64 5]) (by simp [results, Try.results14, go_sem]) rfl ⟨none, 0, [], rfl, OBB.none _ _, rfl, HZ4.out⟩
        | some r =>
          obtain ⟨s, k, dd⟩ := r
          have HF : Hid (runStF (cmds ts) (numsB us) (N : Int) = (s.map Tr.enc, (k : Int), dd, 0)) := Lib.hid (HFS.out s k dd hg)
          have hgo := goW_ok _ _ _ _ _ HSN.out s k dd hg
          have hsl : s.length = 6 := hgo.2.trans HS6.out
          rw [hg] at hres
          obtain ⟨rfl, hst4⟩ := hres
          have HLI := Lib.hid (storeLists_any SA sc w.heap.size s w4 hst4 hgo.1)
          have HSL := Lib.hid hsl
          clear hg hz4 HFN HFS hst4 hgo hsl
          go_wp2_with fail
          refine HLI.out.mono ?_
          rintro e w5 ⟨RA, rc, rfl, ⟨vs, hv1, hv2⟩, z5⟩
          rw [HSL.out] at hv2
          have HV1 := Lib.hid hv1
          have HV2 := Lib.hid hv2
          have HZ5 := Lib.hid (HZ4.out.trans (z5.mono HZ4.out.size))
          clear z5 hv1 hv2 HLI
          go_wp2_with fail
          rw [HF.out]
          exact bodyPost_ret (v := .tuple #[.slice RA 6 rc, .int .i64 (k : Int), .bool dd, .int .i64 0]) (by simp [results, Try.results14, go_sem]) rfl ⟨RA, rc, vs, by rw [List.length_map, HSL.out], by rw [List.length_map, HSL.out]; exact ⟨HV2.out.1.mono HZ4.out.size, fun u hu => (HV2.out.2.1 u hu).mono HZ4.out.size, HV2.out.2.2⟩, HV1.out, HZ5.out⟩
end Go.Proofs.Ytfheepjfpgiaoaa

/-
  Contracts of the laws' helpers over []Expr: szExprS, toExpr, toExprS, eqExpr, eqExprS, markExprS.
-/
namespace Go.Proofs.Ytfheepjfpgiaoaa
open Go.RowKit

/-- Whether two elements are alike. -/
def sameX (x y : R2) : Bool := decide (x = y)


set_option maxHeartbeats 400000 in
theorem szEx (A : Option Addr) (n c : Nat) (left : Int) (w : World) (hn : n ≤ 9223372036854775807) (h0 : 0 ≤ left) (h1 : left ≤ 1048576) :
    Calls Try.prog 146 #[.slice A n c, .int .i64 left] w fun e w' => e = .returned (.int .i64 (szF left n)) ∧ w = w' := by
  by_cases h : left < n
  · have h2 : left - n < 0 := by omega
    go_enter Try.func146, Try.ntmps146
    go_wp2
    go_ret
    exact ⟨ret_int (by unfold szF; rw [if_pos h]), rfl⟩
  · have h2 : ¬ left - n < 0 := by omega
    go_enter Try.func146, Try.ntmps146
    go_wp2
    go_ret
    exact ⟨ret_int (by unfold szF; rw [if_neg (by omega)]), rfl⟩

set_option maxHeartbeats 400000 in
theorem toExpr_any (a b : Int) (w : World) :
    Calls Try.prog 227 #[.agg #[.int .i64 a, .int .i64 b]] w fun e w' => e = .returned (.agg #[.int .i64 a, .int .i64 b]) ∧ Below w.heap.size w w' := by
  go_enter Try.func227, Try.ntmps227
  go_wp2
  exact bodyPost_ret (v := .agg #[.int .i64 a, .int .i64 b]) (by simp [results, Try.results227, go_sem]) rfl ⟨rfl, (((Below.refl _ _).alloc (Nat.le_refl _) _).alloc (by simp) _).alloc (by simp; omega) _⟩

set_option maxHeartbeats 400000 in
theorem eqExpr_any (a b a' b' : Int) (w : World) :
    Calls Try.prog 228 #[.agg #[.int .i64 a, .int .i64 b], .agg #[.int .i64 a', .int .i64 b']] w fun e w' => e = .returned (.bool (sameX ⟨a, b⟩ ⟨a', b'⟩)) ∧ Below w.heap.size w w' := by
  have hb : Below w.heap.size w ((w.alloc (.cells #[.int .i64 a, .int .i64 b] 118)).alloc (.cells #[.int .i64 a', .int .i64 b'] 118)) := ((Below.refl _ _).alloc (Nat.le_refl _) _).alloc (by simp) _
  go_enter Try.func228, Try.ntmps228
  go_wp2
  all_goals go_ret
  all_goals exact ⟨ret_bool (by simp_all [sameX]), hb⟩

def ToEx (w : World) (n : Nat) (rs : List R2) (e : Ending) (w' : World) : Prop :=
  ∃ A, e = .returned (.slice A n n) ∧ Own w' w.heap.size 118 2 A n n (cells2 rs) ∧ Below w.heap.size w w'

set_option maxHeartbeats 1000000 in
theorem toEx (A : Option Addr) (n c : Nat) (rs : List R2) (w : World) (hx : S2 w A n rs) (hn : n ≤ 1048576) :
    Calls Try.prog 151 #[.slice A n c] w (ToEx w n rs) := by
  have HL := Lib.hid hx.len
  have hxl : n ≤ rs.length := by have := hx.len; omega
  have hxl' : rs.length ≤ n := by have := hx.len; omega
  go_enter Try.func151, Try.ntmps151
  go_wp2_with (at_make; refine wpList_make_Own rfl (.tmp 6) (.tmp 6) rfl elEx (n := n) (lo := w.heap.size) rfl rfl (by omega) (by unfold maxLen; omega) (Nat.le_refl _) ?_; intro w2 ho2 hb2 hs2)
  rw [made_cells2 n rs HL.out] at ho2
  have HS := Lib.hid hs2
  clear hs2
  go_loopw [4] (fun i wr => ∃ k : Nat, k ≤ n ∧ i = .int .i64 k ∧ Own wr w.heap.size 118 2 (some ⟨w.heap.size, 0, none⟩) n n (cells2 (copied2 rs k)) ∧ Below w.heap.size w wr) (fun i _ => n - (intOf i).toNat)
  case atStart => exact ⟨0, by omega, rfl, ho2, hb2⟩
  case round =>
    obtain ⟨k, hk, rfl, ho, hb⟩ := hrel
    by_cases hlt : k < n
    · obtain ⟨r, b, off, hr, _, rfl, hbl, q0, q1⟩ := (hx.below hb).pick hlt
      go_wp2_with fail
      refine (toExpr_any _ _ _).mono ?_
      rintro e w3 ⟨rfl, hb3⟩
      have ho3 := ho.below hb3
      have hll : n * 2 ≤ (cells2 (copied2 rs k)).length := by rw [length_cells2, length_copied2 _ _ (by omega)]; omega
      obtain ⟨b0, off0, he, hlo, hlt0, hc0, hf0⟩ := ho3.at_ (k := k * 2) (by omega)
      obtain ⟨b1, off1, he1, _, _, hc1, hf1⟩ := ho3.at_ (k := k * 2 + 1) (by omega)
      simp only [Option.some.injEq, Addr.mk.injEq, and_true] at he he1
      obtain ⟨rfl, rfl⟩ := he
      obtain ⟨rfl, rfl⟩ := he1
      have ho4 := (ho3.set_ (k := k * 2) (by omega) (.int .i64 r.a)).set_ (k := k * 2 + 1) (by rw [List.length_set]; omega) (.int .i64 r.b)
      rw [cells2_set (r := r) (by rw [length_copied2 _ _ (by omega)]; omega), copied2_next _ _ _ hr.out] at ho4
      simp only [Nat.zero_add] at hc0 hc1 hf0 hf1 ho4
      have hb4 := ((hb.trans (hb3.mono hb.size)).setCell (p := ⟨w.heap.size, k * 2, none⟩) (Nat.le_refl _) (.int .i64 r.a)).setCell (p := ⟨w.heap.size, k * 2 + 1, none⟩) (Nat.le_refl _) (.int .i64 r.b)
      clear q0 q1
      go_wp2_with fail
      exact ⟨⟨k + 1, by omega, by go_num, ho4, hb4⟩, by simp [intOf]; omega⟩
    · go_wp2
      go_ret
      have hoo := ho
      rw [copied2_end rs (by omega)] at hoo
      exact ⟨_, rfl, hoo, hb⟩

set_option maxHeartbeats 1000000 in
theorem eqEx (A B : Option Addr) (n m c d : Nat) (xs ys : List R2) (w : World) (hx : S2 w A n xs) (hy : S2 w B m ys) (hn : n ≤ 9223372036854775807) :
    Calls Try.prog 156 #[.slice A n c, .slice B m d] w fun e w' => e = .returned (.bool (same2 xs ys)) ∧ Below w.heap.size w w' := by
  by_cases hnm : n = m
  · subst hnm
    go_enter Try.func156, Try.ntmps156
    go_wp2
    go_loopw [5] (fun i wr => ∃ k : Nat, k ≤ n ∧ i = .int .i64 k ∧ Hid (xs.take k = ys.take k) ∧ Below w.heap.size w wr) (fun i _ => n - (intOf i).toNat)
    case atStart => exact ⟨0, by omega, rfl, rfl, Below.refl _ _⟩
    case round =>
      obtain ⟨k, hk, rfl, he, hb⟩ := hrel
      by_cases hlt : k < n
      · obtain ⟨x, b, off, hX, _, rfl, hbl, q0, q1⟩ := (hx.below hb).pick hlt
        obtain ⟨y, b', off', hY, _, rfl, hbl', q0', q1'⟩ := (hy.below hb).pick hlt
        go_upto_region 6 with fail
        go_cut [26] (fun s26 wx => s26 = .bool (!sameX x y) ∧ Below w.heap.size w wx)
        case first =>
          go_region_held3 (fun w' => w'.cell? ⟨b, off + k * 2, none⟩ = some (.int .i64 x.a) ∧ w'.cell? ⟨b, off + k * 2 + 1, none⟩ = some (.int .i64 x.b) ∧
              w'.cell? ⟨b', off' + k * 2, none⟩ = some (.int .i64 y.a) ∧ w'.cell? ⟨b', off' + k * 2 + 1, none⟩ = some (.int .i64 y.b))
            (first
              | (go_keep; done)
              | (exact ⟨(hb2.cell (p := ⟨b, off + k * 2, none⟩) hbl).trans q0, (hb2.cell (p := ⟨b, off + k * 2 + 1, none⟩) hbl).trans q1, (hb2.cell (p := ⟨b', off' + k * 2, none⟩) hbl').trans q0', (hb2.cell (p := ⟨b', off' + k * 2 + 1, none⟩) hbl').trans q1'⟩))
            (first
              | (go_at_call 228; refine (eqExpr_any _ _ _ _ _).mono ?_; rintro e w2 ⟨rfl, hb2'⟩; have hb2 : Below wr.heap.size wr w2 := below_undrew hb2'))
          go_wp2_with fail
          go_meet
          exact ⟨rfl, hb.trans (hb2.mono hb.size)⟩
        case rest =>
          obtain ⟨rfl, hb3⟩ := hcut
          clear q0 q1 q0' q1'
          go_wp2_with fail
          · go_ret
            exact ⟨ret_bool (same2_ne hX.out hY.out (by assumption)), hb3⟩
          · exact ⟨⟨k + 1, by omega, by go_num, same2_next hX.out hY.out he.out (by assumption), hb3⟩, by simp [intOf]; omega⟩
      · go_wp2
        go_ret
        exact ⟨ret_bool (same2_eq (by omega) hx.len hy.len he.out), hb⟩
  · have hne : ((n : Int) != (m : Int)) = true := by simp; omega
    go_enter Try.func156, Try.ntmps156
    go_wp2
    go_ret
    exact ⟨ret_bool (same2_len hnm hx.len hy.len), Below.refl _ _⟩

set_option maxHeartbeats 1000000 in
theorem markEx_m (T : List TypeId) (A : Option Addr) (n c : Nat) (m : Int) (w : World) (lo hi : Nat) (hx : Mk w lo hi 118 2 A n) (hT : 118 ∈ T) (h0 : 0 ≤ m) (h1 : m + n * 2 ≤ 9223372036854775807) :
    Calls Try.prog 75 #[.slice A n c, .int .i64 m] w (MarkP T w lo hi (n * 2) m) := by
  have HT := Lib.hid hT
  clear hT
  go_enter Try.func75, Try.ntmps75
  go_wp2
  go_loopw [1, 5] (fun q i wr => ∃ k : Nat, k ≤ n ∧ i = .int .i64 k ∧ q = .int .i64 (m + k * 2) ∧ Mk wr lo hi 118 2 A n ∧ MkF T lo hi w wr) (fun _ i _ => n - (intOf i).toNat)
  case atStart => exact ⟨0, by omega, rfl, by simp, hx, MkF.refl _ _ _ _⟩
  case round =>
    obtain ⟨k, hk, rfl, rfl, ho, ht⟩ := hrel
    by_cases hlt : k < n
    · obtain ⟨b, off, cur, v, rfl, hlo, hhi, hg, hc, hf⟩ := ho.at_ (k := k * 2) (by omega)
      obtain ⟨b1, off1, _, v1, he1, _, _, _, hc1, hf1⟩ := ho.at_ (k := k * 2 + 1) (by omega)
      simp only [Option.some.injEq, Addr.mk.injEq, and_true] at he1
      obtain ⟨rfl, rfl⟩ := he1
      have f1 := (MkF.refl T lo hi wr).setCell (i := off + k * 2) hg HT.out hlo hhi (.int .i64 (m + k * 2))
      have g1 := heap_setCell_same wr b (off + k * 2) cur _ (.int .i64 (m + k * 2)) hg
      have f2 := f1.setCell (i := off + k * 2 + 1) g1 HT.out hlo hhi (.int .i64 (m + k * 2 + 1))
      have HG := Lib.hid hg
      clear hg g1 f1
      rw [← Nat.add_assoc] at hc1 hf1
      have i1 : m + (k : Int) * 2 + 1 ≤ 9223372036854775806 := by omega
      go_wp2
      exact ⟨⟨k + 1, by omega, by go_num, by go_num, ho.mkf f2, ht.trans f2⟩, by simp [intOf]; omega⟩
    · go_wp2
      go_ret
      obtain rfl : k = n := by omega
      exact ⟨ret_int (by omega), ht⟩
theorem szEx_p (A : Option Addr) (n c : Nat) (left : Int) (w : World) (hn : n ≤ 9223372036854775807) (h0 : 0 ≤ left) (h1 : left ≤ 1048576) :
    Calls Try.prog 146 #[.slice A n c, .int .i64 left] w (SzP w left n) :=
  (szEx A n c left w hn h0 h1).mono fun _e _w' ⟨he, hw⟩ => ⟨_, he, (szF_p h0).1, (szF_p h0).2.1, (szF_p h0).2.2, hw ▸ Below.refl _ _⟩
end Go.Proofs.Ytfheepjfpgiaoaa

/-
  Contracts of the laws' helpers over Command: szCommand, toCommand, eqCommand, markCommand.
-/
namespace Go.Proofs.Ytfheepjfpgiaoaa
open Go.RowKit

set_option maxHeartbeats 400000 in
theorem szCommand_any (d0 : Int) (d1 : Int) (d2 : Int) (A0 : Option Addr) (n0 c0 : Nat) (left : Int) (w : World) (h0 : n0 ≤ 9223372036854775807) (g0 : 0 ≤ left) (g1 : left ≤ 1048576) :
    Calls Try.prog 60 #[.agg #[.int .i64 d0, .int .i64 d1, .int .i64 d2, .slice A0 n0 c0], .int .i64 left] w (SzP w left ((n0 : Int))) := by
  obtain ⟨W, hW⟩ : ∃ W, W = w.alloc (.cells #[.int .i64 d0, .int .i64 d1, .int .i64 d2, .slice A0 n0 c0] 91) := ⟨_, rfl⟩
  have b0 : Blk W w.heap.size 91 #[.int .i64 d0, .int .i64 d1, .int .i64 d2, .slice A0 n0 c0] := by rw [hW]; exact Blk.new w _ _
  have z0 : Below w.heap.size w W := by rw [hW]; exact (Below.refl _ _).alloc (Nat.le_refl _) _
  have HW := Lib.hid hW
  clear hW
  go_enter Try.func60, Try.ntmps60
  go_wp2_with fail
  rw [← HW.out]
  refine (szEx_p A0 n0 c0 left W h0 (by omega) (by omega)).mono ?_
  rintro e w1 ⟨z1, rfl, l1, u1, e1, b1⟩
  have E1 := Lib.hid e1
  clear e1
  have y1 : Below w.heap.size w w1 := z0.trans (b1.mono z0.size)
  by_cases hneg1 : z1 < 0
  · go_wp2_with fail
    go_ret
    exact ⟨-1, rfl, by omega, by omega, by omega, y1⟩
  go_wp2_with fail
  go_ret
  exact ⟨z1, rfl, by omega, by omega, fun _ => by have t1 := E1.out (by omega); omega, y1⟩

def ToCommand (w : World) (d0 : Int) (d1 : Int) (d2 : Int) (n0 : Nat) (x0 : List R2) (e : Ending) (w' : World) : Prop :=
  ∃ B0, e = .returned (.agg #[.int .i64 d0, .int .i64 d1, .int .i64 d2, .slice B0 n0 n0]) ∧ Own w' w.heap.size 118 2 B0 n0 n0 (cells2 x0) ∧ Below w.heap.size w w'

set_option maxHeartbeats 1000000 in
theorem toCommand_any (d0 : Int) (d1 : Int) (d2 : Int) (A0 : Option Addr) (n0 c0 : Nat) (x0 : List R2) (w : World) (r0 : S2 w A0 n0 x0) (h0 : n0 ≤ 1048576) :
    Calls Try.prog 66 #[.agg #[.int .i64 d0, .int .i64 d1, .int .i64 d2, .slice A0 n0 c0]] w (ToCommand w d0 d1 d2 n0 x0) := by
  obtain ⟨W, hW⟩ : ∃ W, W = ((w.alloc (.cells #[.int .i64 d0, .int .i64 d1, .int .i64 d2, .slice A0 n0 c0] 91)).alloc (.cells #[.int .i64 0, .int .i64 0, .int .i64 0, .slice none 0 0] 99)).alloc (.cells #[.int .i64 d0, .int .i64 d1, .int .i64 d2, .slice none 0 0] 99) := ⟨_, rfl⟩
  have s1 : (w.alloc (.cells #[.int .i64 d0, .int .i64 d1, .int .i64 d2, .slice A0 n0 c0] 91)).heap.size = w.heap.size + 1 := by simp
  have s2 : ((w.alloc (.cells #[.int .i64 d0, .int .i64 d1, .int .i64 d2, .slice A0 n0 c0] 91)).alloc (.cells #[.int .i64 0, .int .i64 0, .int .i64 0, .slice none 0 0] 99)).heap.size = w.heap.size + 1 + 1 := by simp
  have b0 : Blk W w.heap.size 91 #[.int .i64 d0, .int .i64 d1, .int .i64 d2, .slice A0 n0 c0] := by rw [hW]; exact ((Blk.new w _ _).alloc _).alloc _
  have b1 : Blk W (w.heap.size + 1) 99 #[.int .i64 0, .int .i64 0, .int .i64 0, .slice none 0 0] := by rw [hW, ← s1]; exact (Blk.new _ _ _).alloc _
  have b2 : Blk W (w.heap.size + 1 + 1) 99 #[.int .i64 d0, .int .i64 d1, .int .i64 d2, .slice none 0 0] := by rw [hW, ← s2]; exact Blk.new _ _ _
  have y0 : Below w.heap.size w W := by rw [hW]; exact (((Below.refl _ _).alloc (Nat.le_refl _) _).alloc (by simp) _).alloc (by simp; omega) _
  have hz : w.heap.size + 1 + 1 < W.heap.size := b2.lt
  have HW := Lib.hid hW
  clear hW s1 s2
  go_enter Try.func66, Try.ntmps66
  go_wp2_with fail
  rw [← HW.out]
  clear HW
  refine (toEx _ _ _ x0 _ (r0.below y0) h0).mono ?_
  rintro e w0 ⟨B0, rfl, o0, bz0⟩
  have b0 := b0.below' bz0
  have b1 := b1.below' bz0
  have b2 := b2.below' bz0
  have yc0 : Below w.heap.size w w0 := y0.trans (bz0.mono y0.size)
  have hw0 : W.heap.size ≤ w0.heap.size := by have := bz0.size; omega
  have p0 : w0.cell? ⟨w.heap.size + 1 + 1, 3, none⟩ = some (.slice none 0 0) := b2.cell 3
  have pf0 := b2.frozen 3
  have a0 : w0.cell? ⟨w.heap.size + 1 + 1, 0, none⟩ = some (.int .i64 d0) := b2.cell 0
  have a1 : w0.cell? ⟨w.heap.size + 1 + 1, 1, none⟩ = some (.int .i64 d1) := b2.cell 1
  have a2 : w0.cell? ⟨w.heap.size + 1 + 1, 2, none⟩ = some (.int .i64 d2) := b2.cell 2
  have c0_ : w0.cell? ⟨w.heap.size + 1, 0, none⟩ = some (.int .i64 0) := b1.cell 0
  have f0_ := b1.frozen 0
  have c1_ : w0.cell? ⟨w.heap.size + 1, 1, none⟩ = some (.int .i64 0) := b1.cell 1
  have f1_ := b1.frozen 1
  have c2_ : w0.cell? ⟨w.heap.size + 1, 2, none⟩ = some (.int .i64 0) := b1.cell 2
  have f2_ := b1.frozen 2
  have c3_ : w0.cell? ⟨w.heap.size + 1, 3, none⟩ = some (.slice none 0 0) := b1.cell 3
  have f3_ := b1.frozen 3
  go_wp2_with fail
  have dB : Blk (((((w0.setCell ⟨w.heap.size + 1 + 1, 3, none⟩ (.slice B0 n0 n0)).setCell ⟨w.heap.size + 1, 0, none⟩ (.int .i64 d0)).setCell ⟨w.heap.size + 1, 1, none⟩ (.int .i64 d1)).setCell ⟨w.heap.size + 1, 2, none⟩ (.int .i64 d2)).setCell ⟨w.heap.size + 1, 3, none⟩ (.slice B0 n0 n0)) (w.heap.size + 1) 99 #[.int .i64 d0, .int .i64 d1, .int .i64 d2, .slice B0 n0 n0] := ((((b1.far (p := ⟨w.heap.size + 1 + 1, 3, none⟩) (by simp) _).set_ 0 _).set_ 1 _).set_ 2 _).set_ 3 _
  have m0 : Own (((((w0.setCell ⟨w.heap.size + 1 + 1, 3, none⟩ (.slice B0 n0 n0)).setCell ⟨w.heap.size + 1, 0, none⟩ (.int .i64 d0)).setCell ⟨w.heap.size + 1, 1, none⟩ (.int .i64 d1)).setCell ⟨w.heap.size + 1, 2, none⟩ (.int .i64 d2)).setCell ⟨w.heap.size + 1, 3, none⟩ (.slice B0 n0 n0)) W.heap.size 118 2 B0 n0 n0 (cells2 x0) := ((((o0.far (fun e => by have := o0.blk_ge _ e; simp at this; omega) _).far (fun e => by have := o0.blk_ge _ e; simp at this; omega) _).far (fun e => by have := o0.blk_ge _ e; simp at this; omega) _).far (fun e => by have := o0.blk_ge _ e; simp at this; omega) _).far (fun e => by have := o0.blk_ge _ e; simp at this; omega) _
  have yf : Below w.heap.size w (((((w0.setCell ⟨w.heap.size + 1 + 1, 3, none⟩ (.slice B0 n0 n0)).setCell ⟨w.heap.size + 1, 0, none⟩ (.int .i64 d0)).setCell ⟨w.heap.size + 1, 1, none⟩ (.int .i64 d1)).setCell ⟨w.heap.size + 1, 2, none⟩ (.int .i64 d2)).setCell ⟨w.heap.size + 1, 3, none⟩ (.slice B0 n0 n0)) := ((((yc0.setCell (by simp; omega) _).setCell (by simp) _).setCell (by simp) _).setCell (by simp) _).setCell (by simp) _
  generalize ((((w0.setCell ⟨w.heap.size + 1 + 1, 3, none⟩ (.slice B0 n0 n0)).setCell ⟨w.heap.size + 1, 0, none⟩ (.int .i64 d0)).setCell ⟨w.heap.size + 1, 1, none⟩ (.int .i64 d1)).setCell ⟨w.heap.size + 1, 2, none⟩ (.int .i64 d2)).setCell ⟨w.heap.size + 1, 3, none⟩ (.slice B0 n0 n0) = wf at *
  have g0_ : wf.cell? ⟨w.heap.size + 1, 0, none⟩ = some (.int .i64 d0) := dB.cell 0
  have g1_ : wf.cell? ⟨w.heap.size + 1, 1, none⟩ = some (.int .i64 d1) := dB.cell 1
  have g2_ : wf.cell? ⟨w.heap.size + 1, 2, none⟩ = some (.int .i64 d2) := dB.cell 2
  have g3_ : wf.cell? ⟨w.heap.size + 1, 3, none⟩ = some (.slice B0 n0 n0) := dB.cell 3
  have hres : ToCommand w d0 d1 d2 n0 x0 (.returned (.agg #[.int .i64 d0, .int .i64 d1, .int .i64 d2, .slice B0 n0 n0])) wf := ⟨B0, rfl, m0.mono (by omega), yf⟩
  exact bodyPost_ret (v := .agg #[.int .i64 d0, .int .i64 d1, .int .i64 d2, .slice B0 n0 n0]) (by simp [results, Try.results66, go_sem, g0_, g1_, g2_, g3_]) rfl hres

def sameCommandB (d0 d0' : Int) (d1 d1' : Int) (d2 d2' : Int) (x0 x0' : List R2) : Bool :=
  decide (d0 = d0') && decide (d1 = d1') && decide (d2 = d2') && same2 x0 x0'
theorem sameCommandB_self (d0 : Int) (d1 : Int) (d2 : Int) (x0 : List R2) : sameCommandB d0 d0 d1 d1 d2 d2 x0 x0 = true := by simp [sameCommandB, same2]

set_option maxHeartbeats 1000000 in
theorem eqCommand_any (d0 : Int) (d1 : Int) (d2 : Int) (A0 : Option Addr) (n0 c0 : Nat) (x0 : List R2) (d0' : Int) (d1' : Int) (d2' : Int) (A0' : Option Addr) (n0' c0' : Nat) (x0' : List R2) (w : World) (r0 : S2 w A0 n0 x0) (r0' : S2 w A0' n0' x0') (h0 : n0 ≤ 1048576) :
    Calls Try.prog 74 #[.agg #[.int .i64 d0, .int .i64 d1, .int .i64 d2, .slice A0 n0 c0], .agg #[.int .i64 d0', .int .i64 d1', .int .i64 d2', .slice A0' n0' c0']] w fun e w' => e = .returned (.bool (sameCommandB d0 d0' d1 d1' d2 d2' x0 x0')) ∧ Below w.heap.size w w' := by
  obtain ⟨W, hW⟩ : ∃ W, W = (w.alloc (.cells #[.int .i64 d0, .int .i64 d1, .int .i64 d2, .slice A0 n0 c0] 99)).alloc (.cells #[.int .i64 d0', .int .i64 d1', .int .i64 d2', .slice A0' n0' c0'] 99) := ⟨_, rfl⟩
  have s1 : (w.alloc (.cells #[.int .i64 d0, .int .i64 d1, .int .i64 d2, .slice A0 n0 c0] 99)).heap.size = w.heap.size + 1 := by simp
  have b0 : Blk W w.heap.size 99 #[.int .i64 d0, .int .i64 d1, .int .i64 d2, .slice A0 n0 c0] := by rw [hW]; exact (Blk.new w _ _).alloc _
  have b1 : Blk W (w.heap.size + 1) 99 #[.int .i64 d0', .int .i64 d1', .int .i64 d2', .slice A0' n0' c0'] := by rw [hW, ← s1]; exact Blk.new _ _ _
  have y0 : Below w.heap.size w W := by rw [hW]; exact ((Below.refl _ _).alloc (Nat.le_refl _) _).alloc (by simp) _
  have HW := Lib.hid hW
  clear hW s1
  cases hd_d0 : (d0 != d0')
  · skip
    have HD_d0 := Lib.hid (show d0 = d0' by simpa using hd_d0)
    cases hd_d1 : (d1 != d1')
    · skip
      have HD_d1 := Lib.hid (show d1 = d1' by simpa using hd_d1)
      cases hd_d2 : (d2 != d2')
      · skip
        have HD_d2 := Lib.hid (show d2 = d2' by simpa using hd_d2)
        go_enter Try.func74, Try.ntmps74
        go_wp2_with fail
        rw [← HW.out]
        clear hd_d0 hd_d1 hd_d2
        refine (eqEx _ _ _ _ _ _ x0 x0' _ (r0.below y0) (r0'.below y0) (by omega)).mono ?_
        rintro e w0 ⟨rfl, bz0⟩
        have yy0 : Below w.heap.size w w0 := y0.trans (bz0.mono y0.size)
        have b0 := b0.below' bz0
        have b1 := b1.below' bz0
        cases hs0 : same2 x0 x0'
        · have HS := Lib.hid hs0
          clear hs0
          go_wp2_with fail
          go_ret
          exact ⟨ret_bool (by unfold sameCommandB; rw [HS.out]; simp), yy0⟩
        · skip
          have HS0 := Lib.hid hs0
          clear hs0
          go_wp2_with fail
          go_ret
          exact ⟨ret_bool (by unfold sameCommandB; rw [HS0.out]; simp [HD_d0.out, HD_d1.out, HD_d2.out]), yy0⟩
      · have HD := Lib.hid (show ¬ d2 = d2' by simpa using hd_d2)
        go_enter Try.func74, Try.ntmps74
        go_wp2_with fail
        rw [← HW.out]
        go_ret
        exact ⟨ret_bool (by unfold sameCommandB; simp [HD.out]), y0⟩
    · have HD := Lib.hid (show ¬ d1 = d1' by simpa using hd_d1)
      go_enter Try.func74, Try.ntmps74
      go_wp2_with fail
      rw [← HW.out]
      go_ret
      exact ⟨ret_bool (by unfold sameCommandB; simp [HD.out]), y0⟩
  · have HD := Lib.hid (show ¬ d0 = d0' by simpa using hd_d0)
    go_enter Try.func74, Try.ntmps74
    go_wp2_with fail
    rw [← HW.out]
    go_ret
    exact ⟨ret_bool (by unfold sameCommandB; simp [HD.out]), y0⟩

end Go.Proofs.Ytfheepjfpgiaoaa
