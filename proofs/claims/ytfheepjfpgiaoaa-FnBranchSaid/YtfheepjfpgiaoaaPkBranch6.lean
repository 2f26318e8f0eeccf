/-
  Contracts of the reference's l22Store and RunStore.
-/
import Derived.Test.YtfheepjfpgiaoaaPkBranch5
import Derived.Test.YtfheepjfpgiaoaaByts
import Derived.Test.YtfheepjfpgiaoaaHelpA
import Derived.Test.YtfheepjfpgiaoaaBrP
import Derived.Test.YtfheepjfpgiaoaaHelpBoS
namespace Go.Proofs.Ytfheepjfpgiaoaa
open Go.RowKit

/-- Rows of Bools in new memory, two numbers and a Bool. -/
def NewBB4 (w : World) (r : List (List Bool) × Int × Bool × Int) (e : Ending) (w' : World) : Prop :=
  ∃ A c us, e = .returned (.tuple #[.slice A r.1.length c, .int .i64 r.2.1, .bool r.2.2.1, .int .i64 r.2.2.2]) ∧ OBB w' w.heap.size 43 4 A r.1.length c us ∧ numsB us = r.1 ∧ Below w.heap.size w w'
theorem OBB.none (w : World) (lo : Nat) : OBB w lo 43 4 none 0 0 [] := ⟨Own.nil, by simp, List.Pairwise.nil⟩
theorem okStore_get {us : List Bl} (h : okStore (numsB us) = true) : us.length = 6 ∧ ∀ u ∈ us, treeB u.xs = true := by
  unfold okStore at h
  rw [Bool.and_eq_true, decide_eq_true_iff, List.all_eq_true] at h
  refine ⟨by have := h.1; simpa [numsB] using this, fun u hu => h.2 _ (List.mem_map.2 ⟨u, hu, rfl⟩)⟩
set_option maxHeartbeats 1000000 in
theorem l22Store_any (A : Option Addr) (n c : Nat) (us : List Bl) (w : World) (hx : SBB w A n us) (hn : n ≤ 1048576) (hr : ∀ u ∈ us, u.xs.length ≤ 1048576) :
    Calls Try.prog 63 #[.slice A n c] w fun e w' => e = .returned (.bool (okStore (numsB us))) ∧ w = w' := by
  have HL := Lib.hid hx.len
  have HR := Lib.hid hr
  clear hr
  by_cases h6 : n = 6
  rotate_left
  · have i1 : ((n : Int) != 6) = true := by simp; omega
    have HF : Hid (okStore (numsB us) = false) := Lib.hid (by unfold okStore; rw [decide_eq_false (by simp only [numsB, List.length_map]; rw [HL.out]; exact h6)]; rfl)
    go_enter Try.func63, Try.ntmps63
    go_wp2_with fail
    go_ret
    exact ⟨ret_bool HF.out.symm, rfl⟩
  subst h6
  go_enter Try.func63, Try.ntmps63
  go_wp2_with fail
  go_loop [3] (fun i => ∃ k : Nat, k ≤ 6 ∧ i = .int .i64 k ∧ Hid (((numsB us).take k).all treeB = true)) (fun i => 6 - (intOf i).toNat)
  case atStart => exact ⟨0, Nat.zero_le _, rfl, Lib.hid (by simp)⟩
  case round =>
    obtain ⟨k, hk, rfl, HA⟩ := hrel
    by_cases hlt : k < 6
    · obtain ⟨t, b, off, HT, htm, rfl, hbl, hc, hrow⟩ := hx.pick hlt
      have hrl := HR.out t htm
      have HI := Lib.hid (l21Is_any t.A t.xs.length t.c t.xs w hrow (by omega))
      have HG : Hid ((numsB us)[k]? = some t.xs) := Lib.hid (by simp only [numsB, List.getElem?_map, HT.out]; rfl)
      have i1 : (0 : Int) ≤ (k : Int) := by omega
      have i2 : (k : Int) < 6 := by omega
      cases ht : treeB t.xs with
      | false =>
        have HF : Hid (okStore (numsB us) = false) := Lib.hid (by
          unfold okStore
          rw [Bool.and_eq_false_iff]
          right
          rw [List.all_eq_false]
          exact ⟨t.xs, List.mem_of_getElem? HG.out, by rw [ht]; simp⟩)
        rw [ht] at HI
        clear ht
        go_wp2_with (go_at_call 149; refine HI.out.mono ?_; rintro e w' ⟨rfl, rfl⟩)
        go_ret
        exact ⟨ret_bool HF.out.symm, rfl⟩
      | true =>
        have HN : Hid (((numsB us).take (k + 1)).all treeB = true) := Lib.hid (by
          obtain ⟨h1, h2⟩ := List.getElem?_eq_some_iff.1 HG.out
          rw [List.take_succ_eq_append_getElem h1, List.all_append, HA.out, h2]
          simp [ht])
        rw [ht] at HI
        clear ht
        go_wp2_with (go_at_call 149; refine HI.out.mono ?_; rintro e w' ⟨rfl, rfl⟩)
        go_round
        case rel => exact ⟨k + 1, by omega, by go_num, HN⟩
        case measure => (simp [intOf] <;> omega)
    · obtain rfl : k = 6 := by omega
      have i2 : ¬ ((6 : Nat) : Int) < 6 := by omega
      have HF : Hid (okStore (numsB us) = true) := Lib.hid (by
        have h := HA.out
        have hl6 : (numsB us).length = 6 := by simp only [numsB, List.length_map]; exact HL.out
        rw [List.take_of_length_le (by omega)] at h
        unfold okStore; rw [h, hl6]; rfl)
      go_wp2_with fail
      go_ret
      exact ⟨ret_bool HF.out.symm, rfl⟩
theorem TRd.of {w : World} {lo n c : Nat} {A : Option Addr} {us : List Bl} (h : OBB w lo 43 4 A n c us) (hk : ∀ u ∈ us, treeB u.xs = true) : TRd w A ((numsB us).map trOf) := by
  have hl := h.sii.len
  refine ⟨us, by simp [numsB], ?_, fun k t hT => ?_⟩
  · have e : ((numsB us).map trOf).length = n := by simp [numsB, hl]
    rw [e]; exact h.1.rd
  · simp only [numsB, List.map_map, List.getElem?_map] at hT
    obtain ⟨u, hu, e⟩ := Option.map_eq_some_iff.1 hT
    have hm := List.mem_of_getElem? hu
    refine ⟨u, hu, ?_, (h.2.1 u hm).mono (Nat.zero_le _)⟩
    rw [← e]; exact (enc_trOf (hk u hm)).1.symm
set_option maxRecDepth 100000 in
set_option maxHeartbeats 4000000 in
theorem runStoreS_any (A : Option Addr) (n c : Nat) (ts : List Ce) (lo : Nat) (B : Option Addr) (m d : Nat) (us : List Bl) (b : Int) (w : World) (hx : SC w A n ts) (hn : n ≤ 1048576) (hr : ∀ t ∈ ts, t.e.length ≤ 1048576) (hy : OBB w lo 43 4 B m d us) (hm : m ≤ 1048576) (hs : ∀ u ∈ us, u.xs.length ≤ 1048576) :
    Calls Try.prog 11 #[.slice A n c, .slice B m d, .int .i64 b] w (NewBB4 w (runStF (cmds ts) (numsB us) b)) := by
  have hl : (cmds ts).length = n := by rw [cmds_len]; exact hx.len
  have HX := Lib.hid hx
  have HY := Lib.hid hy
  have HV := Lib.hid (l22Is_any A n c ts w hx hn hr)
  have HT := Lib.hid (fun w' (z : Below w.heap.size w w') => l22Store_any B m d us w' (hy.below z).sii hm hs)
  cases hv : validWh (cmds ts) with
  | false =>
    have HF : Hid (runStF (cmds ts) (numsB us) b = ([], 0, false, 1)) := Lib.hid (runStF_bad (by rw [hv, Bool.and_false]))
    rw [hv] at HV
    clear hv hx hy hl
    go_enter Try.func11, Try.ntmps11
    go_wp2_with (go_at_call 62; refine HV.out.mono ?_; rintro e w' ⟨rfl, z⟩; have HZ := Lib.hid z)
    rw [HF.out]
    exact bodyPost_ret (v := .tuple #[.slice none 0 0, .int .i64 0, .bool false, .int .i64 1]) (by simp [results, Try.results11, go_sem]) rfl ⟨none, 0, [], rfl, OBB.none _ _, rfl, HZ.out⟩
  | true =>
    cases ht : okStore (numsB us) with
    | false =>
      have HF : Hid (runStF (cmds ts) (numsB us) b = ([], 0, false, 1)) := Lib.hid (runStF_bad (by rw [ht]; rfl))
      rw [hv] at HV
      rw [ht] at HT
      clear hv hx hy hl ht
      go_enter Try.func11, Try.ntmps11
      go_wp2_with (first | (go_at_call 62; refine HV.out.mono ?_; rintro e w2 ⟨rfl, z⟩; have HZ := Lib.hid z) | (go_at_call 63; refine (HT.out _ HZ.out).mono ?_; rintro e w' ⟨rfl, rfl⟩))
      rw [HF.out]
      exact bodyPost_ret (v := .tuple #[.slice none 0 0, .int .i64 0, .bool false, .int .i64 1]) (by simp [results, Try.results11, go_sem]) rfl ⟨none, 0, [], rfl, OBB.none _ _, rfl, HZ.out⟩
    | true =>
      obtain ⟨h80, hpe, hpo⟩ := validWh_get hv
      obtain ⟨h6, htr⟩ := okStore_get ht
      have hvt : (okStore (numsB us) && validWh (cmds ts)) = true := by rw [hv, ht]; rfl
      rw [hv] at HV
      rw [ht] at HT
      cases hb : inB b 1 20000 with
      | false =>
        have HF : Hid (runStF (cmds ts) (numsB us) b = ([], 0, false, 2)) := Lib.hid (runStF_range hvt hb)
        have HB := Lib.hid hb
        clear hv hx hy hl ht hb hpe hpo h80 hvt htr
        go_enter Try.func11, Try.ntmps11
        go_wp2_with (first | (go_at_call 62; refine HV.out.mono ?_; rintro e w2 ⟨rfl, z⟩; have HZ := Lib.hid z) | (go_at_call 63; refine (HT.out _ HZ.out).mono ?_; rintro e w' ⟨rfl, rfl⟩) | (go_at_call 64; refine (l05Budget_is HB.out _).mono ?_; rintro e w' ⟨rfl, rfl⟩))
        rw [HF.out]
        exact bodyPost_ret (v := .tuple #[.slice none 0 0, .int .i64 0, .bool false, .int .i64 2]) (by simp [results, Try.results11, go_sem]) rfl ⟨none, 0, [], rfl, OBB.none _ _, rfl, HZ.out⟩
      | true =>
        have HB := Lib.hid hb
        have hbb := (inB_iff _ _ _).1 hb
        obtain ⟨N, rfl⟩ : ∃ N : Nat, b = (N : Int) := ⟨b.toNat, by omega⟩
        obtain ⟨P, hPP⟩ : ∃ P, pgOf (cmds ts) = P := ⟨_, rfl⟩
        obtain ⟨s0, hs0⟩ : ∃ s0, (numsB us).map trOf = s0 := ⟨_, rfl⟩
        rw [hPP] at hpe hpo
        have HTD : Hid (∀ w', Below w.heap.size w w' → TRd w' B s0) := Lib.hid (fun w' z => hs0 ▸ TRd.of (hy.below z) htr)
        have HS6 : Hid (s0.length = 6) := Lib.hid (by rw [← hs0]; simp [numsB, h6])
        have HSN : Hid (∀ t ∈ s0, t.nodes ≤ 2000) := Lib.hid (fun t h => by
          rw [← hs0] at h
          obtain ⟨x, hx1, rfl⟩ := List.mem_map.1 h
          obtain ⟨u, hu, rfl⟩ := List.mem_map.1 hx1
          exact (enc_trOf (htr u hu)).2)
        have HFN : Hid (goW N 0 P [] s0 = none → runStF (cmds ts) (numsB us) (N : Int) = ([], 0, false, 5)) := Lib.hid (fun h => runStF_none hvt hb (by rw [Int.toNat_natCast, hPP, hs0]; exact h))
        have HFS : Hid (∀ s k d, goW N 0 P [] s0 = some (s, k, d) → runStF (cmds ts) (numsB us) (N : Int) = (s.map Tr.enc, (k : Int), d, 0)) := Lib.hid (fun s k d h => runStF_some hvt hb (by rw [Int.toNat_natCast, hPP, hs0]; exact h))
        have HPE := Lib.hid hpe
        have HPO := Lib.hid hpo
        have hn8 : n ≤ 80 := by rw [← hl]; exact h80
        have hN : N ≤ 20000 := by omega
        obtain rfl : m = 6 := by have := hy.sii.len; omega
        clear hv hx hy hl ht hb hpe hpo h80 hvt hbb hPP htr hs0
        go_enter Try.func11, Try.ntmps11
        go_upto_region 5 with (first | (go_at_call 62; refine HV.out.mono ?_; rintro e w2 ⟨rfl, z⟩; have HZ := Lib.hid z) | (go_at_call 63; refine (HT.out _ HZ.out).mono ?_; rintro e w' ⟨rfl, rfl⟩) | (go_at_call 64; refine (l05Budget_is HB.out _).mono ?_; rintro e w' ⟨rfl, rfl⟩))
        have HRI := Lib.hid (l22Run_any w2 A n c ts B d s0 N P (HX.out.below HZ.out) (by omega) HPE.out.symm HPO.out (HTD.out _ HZ.out) HS6.out HSN.out (by omega))
        clear HV HT HB
        go_wp2_with fail
        refine HRI.out.mono ?_
        rintro e w4 ⟨hz4, hres⟩
        have HZ4 := Lib.hid (HZ.out.trans (hz4.mono HZ.out.size))
        cases hg : goW N 0 P [] s0 with
        | none =>
          have HF : Hid (runStF (cmds ts) (numsB us) (N : Int) = ([], 0, false, 5)) := Lib.hid (HFN.out hg)
          rw [hg] at hres
          obtain rfl := hres
          clear hg hz4 HFN HFS
          go_wp2_with fail
          rw [HF.out]
          exact bodyPost_ret (v := .tuple #[.slice none 0 0, .int .i64 0, .bool false, .int .i64 5]) (by simp [results, Try.results11, go_sem]) rfl ⟨none, 0, [], rfl, OBB.none _ _, rfl, HZ4.out⟩
        | some r =>
          obtain ⟨s, k, dd⟩ := r
          have HF : Hid (runStF (cmds ts) (numsB us) (N : Int) = (s.map Tr.enc, (k : Int), dd, 0)) := Lib.hid (HFS.out s k dd hg)
          have hsl : s.length = 6 := (goW_ok _ _ _ _ _ HSN.out s k dd hg).2.trans HS6.out
          rw [hg] at hres
          obtain ⟨RA, rc, rfl, vs, hv1, hv2⟩ := hres
          rw [hsl] at hv2
          have HV1 := Lib.hid hv1
          have HV2 := Lib.hid hv2
          have HSL := Lib.hid hsl
          clear hg hz4 HFN HFS hv1 hv2 hsl
          go_wp2_with fail
          rw [HF.out]
          exact bodyPost_ret (v := .tuple #[.slice RA 6 rc, .int .i64 (k : Int), .bool dd, .int .i64 0]) (by simp [results, Try.results11, go_sem]) rfl ⟨RA, rc, vs, by rw [List.length_map, HSL.out], by rw [List.length_map, HSL.out]; exact ⟨HV2.out.1.mono HZ.out.size, fun u hu => (HV2.out.2.1 u hu).mono HZ.out.size, HV2.out.2.2⟩, HV1.out, HZ4.out⟩
end Go.Proofs.Ytfheepjfpgiaoaa

/-
  Contracts of impl's areTrees, storeTrees, storeLists and RunStore.
-/
namespace Go.Proofs.Ytfheepjfpgiaoaa
open Go.RowKit

def firstR (p : List Bool → Bool) (xss : List (List Bool)) : Int := match xss.findIdx? p with | some k => k | none => -1
theorem firstR_at {p : List Bool → Bool} {ts : List Bl} {t : Bl} {k : Nat} (hT : ts[k]? = some t) (h : p t.xs = true) (he : ((numsB ts).take k).any p = false) : (k : Int) = firstR p (numsB ts) := by
  unfold firstR
  obtain ⟨hk, rfl⟩ := List.getElem?_eq_some_iff.1 hT
  have : (numsB ts).findIdx? p = some k := by
    rw [List.findIdx?_eq_some_iff_getElem]
    refine ⟨by simpa [numsB] using hk, by simpa [numsB] using h, fun j hj => ?_⟩
    rw [List.any_eq_false] at he
    have := he ((numsB ts)[j]'(by simp [numsB]; omega)) (by rw [List.mem_take_iff_getElem]; exact ⟨j, by simp [numsB]; omega, rfl⟩)
    simpa using this
  rw [this]
theorem firstR_none {p : List Bool → Bool} {ts : List Bl} {k n : Nat} (hk : n ≤ k) (hl : ts.length = n) (he : ((numsB ts).take k).any p = false) : -1 = firstR p (numsB ts) := by
  unfold firstR
  rw [List.take_of_length_le (by simp [numsB]; omega)] at he
  have : (numsB ts).findIdx? p = none := by
    rw [List.findIdx?_eq_none_iff]
    intro x hx
    rw [List.any_eq_false] at he
    simpa using he x hx
  rw [this]
theorem firstR_next {p : List Bool → Bool} {ts : List Bl} {t : Bl} {k : Nat} (hT : ts[k]? = some t) (h : p t.xs = false) (he : ((numsB ts).take k).any p = false) : ((numsB ts).take (k + 1)).any p = false := by
  obtain ⟨hk, rfl⟩ := List.getElem?_eq_some_iff.1 hT
  rw [List.take_succ_eq_append_getElem (by simpa [numsB] using hk), List.any_append, he]
  simpa [numsB] using h
theorem firstR_ge (p : List Bool → Bool) (xss : List (List Bool)) : decide (0 ≤ firstR p xss) = xss.any p := by
  unfold firstR
  cases h : xss.findIdx? p with
  | some k =>
    obtain ⟨hk, hp, _⟩ := List.findIdx?_eq_some_iff_getElem.1 h
    have : xss.any p = true := List.any_eq_true.2 ⟨_, List.getElem_mem hk, hp⟩
    rw [this]; simp
  | none =>
    have : xss.any p = false := by rw [List.any_eq_false]; intro x hx; simpa using List.findIdx?_eq_none_iff.1 h x hx
    rw [this]; rfl
set_option maxHeartbeats 400000 in
theorem indexFuncBB_any (A : Option Addr) (n c : Nat) (ts : List Bl) (f : FuncId) (p : List Bool → Bool) (w : World) (hx : SBB w A n ts) (hn : n ≤ 9223372036854775807) (hcall : ∀ (args : Array Value) (w : World), (callFunc f args).run Try.prog w = .ok (.enter f args) w)
    (hf : Hid (∀ t ∈ ts, Calls Try.prog f #[.slice t.A t.xs.length t.c] w fun e w' => e = .returned (.bool (p t.xs)) ∧ w = w')) :
    Calls Try.prog 236 #[.slice A n c, .func (.func f) #[] #[]] w fun e w' => e = .returned (.int .i64 (firstR p (numsB ts))) ∧ w = w' := by
  go_enter Try.func236, Try.ntmps236
  go_wp2
  go_loop [8] (fun i => ∃ k : Nat, k ≤ n ∧ i = .int .i64 k ∧ Hid (((numsB ts).take k).any p = false)) (fun i => n - (intOf i).toNat)
  case atStart => exact ⟨0, by omega, rfl, rfl⟩
  case round =>
    obtain ⟨k, hk, rfl, he⟩ := hrel
    by_cases hlt : k < n
    · obtain ⟨t, b, off, hT, htm, rfl, _, hc, hr⟩ := hx.pick hlt
      go_wp2_with fail
      refine (hf.out t htm).mono ?_
      rintro e w' ⟨rfl, rfl⟩
      cases hp : p t.xs
      · have HP := Lib.hid hp
        clear hp
        go_wp2
        exact ⟨⟨k + 1, by omega, by go_num, firstR_next hT.out HP.out he.out⟩, by simp [intOf]; omega⟩
      · have HP := Lib.hid hp
        clear hp
        go_wp2
        go_ret
        exact ⟨ret_int (firstR_at hT.out HP.out he.out), rfl⟩
    · go_wp2
      go_ret
      exact ⟨ret_int (firstR_none (by omega) hx.len he.out), rfl⟩
theorem containsFuncBB_any (A : Option Addr) (n c : Nat) (ts : List Bl) (f : FuncId) (p : List Bool → Bool) (w : World) (hx : SBB w A n ts) (hn : n ≤ 9223372036854775807) (hcall : ∀ (args : Array Value) (w : World), (callFunc f args).run Try.prog w = .ok (.enter f args) w)
    (hf : Hid (∀ t ∈ ts, Calls Try.prog f #[.slice t.A t.xs.length t.c] w fun e w' => e = .returned (.bool (p t.xs)) ∧ w = w')) :
    Calls Try.prog 178 #[.slice A n c, .func (.func f) #[] #[]] w fun e w' => e = .returned (.bool ((numsB ts).any p)) ∧ w = w' := by
  go_enter Try.func178, Try.ntmps178
  go_wp2_with (go_at_call 236; refine (indexFuncBB_any _ _ _ ts _ p _ hx hn hcall hf).mono ?_; rintro e w' ⟨rfl, rfl⟩)
  go_ret
  exact ⟨ret_bool (firstR_ge p (numsB ts)), rfl⟩
theorem allTrees_not (xss : List (List Bool)) : (!xss.any (fun xs => !treeB xs)) = xss.all treeB := by
  rw [List.not_any_eq_all_not]; simp
theorem areTrees_any (A : Option Addr) (n c : Nat) (ts : List Bl) (w : World) (hx : SBB w A n ts) (hn : n ≤ 9223372036854775807) (hns : ∀ t ∈ ts, t.xs.length ≤ 1048576) :
    Calls Try.prog 93 #[.slice A n c] w fun e w' => e = .returned (.bool ((numsB ts).all treeB)) ∧ w = w' := by
  have HNS := Lib.hid hns
  clear hns
  go_enter Try.func93, Try.ntmps93
  go_wp2_with fail
  refine (containsFuncBB_any _ _ _ ts _ (fun xs => !treeB xs) _ hx hn Try.call179 (fun t ht => areTrees1_any _ _ _ _ _ (hx.2 t ht) (by have := HNS.out t ht; omega))).mono ?_
  rintro e w' ⟨rfl, rfl⟩
  go_wp2
  go_ret
  exact ⟨ret_bool (allTrees_not _), rfl⟩
/-- What storeTrees returns. -/
def StoP (w : World) (xss : List (List Bool)) (e : Ending) (w' : World) : Prop :=
  Below w.heap.size w w' ∧ if okStore xss = true then ∃ SA sc, e = .returned (.tuple #[.slice SA 6 sc, .bool true]) ∧ StOwn w' w.heap.size SA sc (xss.map trOf) else e = .returned (.tuple #[.slice none 0 0, .bool false])
set_option maxRecDepth 100000 in
set_option maxHeartbeats 4000000 in
theorem storeTrees_any (A : Option Addr) (n c : Nat) (us : List Bl) (w : World) (hx : SBB w A n us) (hn : n ≤ 1048576) (hns : ∀ t ∈ us, t.xs.length ≤ 1048576) : Calls Try.prog 68 #[.slice A n c] w (StoP w (numsB us)) := by
  have HL := Lib.hid hx.len
  have HA := Lib.hid (areTrees_any A n c us w hx (by omega) hns)
  clear hns
  by_cases h6 : n = 6
  rotate_left
  · have i1 : ((n : Int) != 6) = true := by simp; omega
    have HF : Hid (¬ okStore (numsB us) = true) := Lib.hid (by intro h; have := (okStore_get h).1; rw [HL.out] at this; exact h6 this)
    go_enter Try.func68, Try.ntmps68
    go_wp2_with fail
    exact bodyPost_ret (v := .tuple #[.slice none 0 0, .bool false]) (by simp [results, Try.results68, go_sem]) rfl ⟨Below.refl _ _, by rw [if_neg HF.out]⟩
  subst h6
  have hl6 : (numsB us).length = 6 := by simp only [numsB, List.length_map]; exact HL.out
  cases hall : (numsB us).all treeB with
  | false =>
    have HF : Hid (¬ okStore (numsB us) = true) := Lib.hid (by unfold okStore; rw [hall, Bool.and_false]; simp)
    rw [hall] at HA
    clear hall hl6
    go_enter Try.func68, Try.ntmps68
    go_wp2_with (go_at_call 93; refine HA.out.mono ?_; rintro e w' ⟨rfl, rfl⟩)
    exact bodyPost_ret (v := .tuple #[.slice none 0 0, .bool false]) (by simp [results, Try.results68, go_sem]) rfl ⟨Below.refl _ _, by rw [if_neg HF.out]⟩
  | true =>
    have HK : Hid (okStore (numsB us) = true) := Lib.hid (by unfold okStore; rw [hall, hl6]; rfl)
    rw [hall] at HA
    have HTB := Lib.hid (okStore_get HK.out).2
    obtain ⟨s, hs⟩ : ∃ s, (numsB us).map trOf = s := ⟨_, rfl⟩
    have HS := Lib.hid hs
    have HSG : Hid (∀ (k : Nat) (t : Bl), us[k]? = some t → s[k]? = some (trOf t.xs)) := Lib.hid (fun k t h => by rw [← hs]; simp only [numsB, List.map_map, List.getElem?_map, h]; rfl)
    have HSL : Hid (s.length = 6) := Lib.hid (by rw [← hs, List.length_map]; exact hl6)
    clear hall hl6 hs
    have o0 := Own.lit0 w 124 1
    have z0 : Below w.heap.size w (w.alloc (.cells #[] 124)) := (Below.refl _ _).alloc (Nat.le_refl _) _
    have HO0 := Lib.hid o0
    clear o0
    go_enter Try.func68, Try.ntmps68
    go_wp2_with (go_at_call 93; refine HA.out.mono ?_; rintro e w' ⟨rfl, rfl⟩)
    go_loopw [4, 18] (fun s4 s18 wr => ∃ (k : Nat) (TA : Option Addr) (tc : Nat) (ps : List (Option Addr)), k ≤ 6 ∧ s18 = .int .i64 (k : Int) ∧ s4 = .slice TA k tc ∧ Hid (ps.length = k) ∧ Hid (Own wr w.heap.size 124 1 TA k tc (ps.map Value.pointer)) ∧ Hid (∀ j t, j < k → s[j]? = some t → ∃ p, ps[j]? = some p ∧ TrAt wr t p) ∧ Below w.heap.size w wr) (fun _ s18 _ => 6 - (intOf s18).toNat)
    case atStart => exact ⟨0, _, 0, [], by omega, rfl, rfl, Lib.hid rfl, HO0, Lib.hid (fun j t hj => absurd hj (by omega)), z0⟩
    case round =>
      clear HO0 z0
      obtain ⟨k, TA, tc, ps, hk, rfl, rfl, HPL, HO, HP, hz⟩ := hrel
      by_cases hlt : k < 6
      · obtain ⟨t, b, off, HT, htm, rfl, hbl, hc, hrow⟩ := (hx.below hz).pick hlt
        have htb := HTB.out t htm
        obtain ⟨het, hnt⟩ := enc_trOf htb
        have hrl : t.xs.length ≤ 2000 := by rw [← het, enc_len]; exact hnt
        have HG := Lib.hid (HSG.out k t HT.out)
        have HTO := Lib.hid (treeOf_any t.A t.xs.length t.c (trOf t.xs) wr (by rw [het]; exact hrow) hrl)
        have i1 : (0 : Int) ≤ (k : Int) := by omega
        have i2 : (k : Int) < 6 := by omega
        have hlo := hz.size
        clear htb het hnt hrow
        go_upto_region 7 with fail
        go_wp2_with fail
        refine HTO.out.mono ?_
        rintro e w3 ⟨p, rfl, hp, z3⟩
        have hza : Below w3.heap.size w3 (w3.alloc (.cells #[.pointer p] 124)) := (Below.refl _ _).alloc (Nat.le_refl _) _
        have HP3 := Lib.hid (hp.below hza)
        have HOA := Lib.hid ((HO.out.below z3).below hza)
        have HPB := Lib.hid (fun j t hj (ht : s[j]? = some t) => by obtain ⟨q, e, hq⟩ := HP.out j t hj ht; exact (⟨q, e, (hq.below z3).below hza⟩ : ∃ q, ps[j]? = some q ∧ TrAt (w3.alloc (.cells #[.pointer p] 124)) t q))
        have HZA := Lib.hid (hz.trans ((z3.trans (hza.mono z3.size)).mono hlo))
        have hz3s := z3.size
        clear hp z3 hza hc hbl
        go_wp2_with (at_builtin; refine wpList_append_Own rfl (.tmp 22) (.tmp 25) rfl elTp (lo := w.heap.size) rfl HOA.out rfl (Rd.new1 w3 _ _) (by intro u hu; rw [List.mem_singleton.1 hu]; rfl) (by omega) (by simp only [maxLen]; omega) (by simp; omega) ?_; intro A5 c5 w5 o5 hg5 _; have HO5 := Lib.hid o5; have HG5 := Lib.hid hg5)
        have HKT : Hid (KT (w3.alloc (.cells #[.pointer p] 124)) w5) := Lib.hid (fun _ _ x => x.grown HOA.out HG5.out (by decide))
        go_roundw
        case rel =>
          refine ⟨k + 1, A5, c5, ps ++ [p], by omega, by go_num, rfl, Lib.hid (by rw [List.length_append, HPL.out]; rfl), Lib.hid ?_, Lib.hid ?_, HOA.out.below_of HZA.out HG5.out (by simp; omega)⟩
          · have h := HO5.out
            rw [List.map_append]; exact h
          · intro j t' hj ht'
            by_cases hjk : j < k
            · obtain ⟨q, e, hq⟩ := HPB.out j t' hjk ht'
              exact ⟨q, by rw [List.getElem?_append_left (by rw [HPL.out]; exact hjk)]; exact e, hq.kt HKT.out⟩
            · obtain rfl : j = k := by omega
              rw [HG.out] at ht'
              cases ht'
              exact ⟨p, by rw [List.getElem?_append_right (by rw [HPL.out]; exact Nat.le_refl _), HPL.out, Nat.sub_self]; rfl, HP3.out.kt HKT.out⟩
        case measure => (simp [intOf] <;> omega)
      · obtain rfl : k = 6 := by omega
        have i2 : ¬ ((6 : Nat) : Int) < 6 := by omega
        go_wp2_with fail
        exact bodyPost_ret (v := .tuple #[.slice TA 6 tc, .bool true]) (by simp [results, Try.results68, go_sem]) rfl ⟨hz, by rw [if_pos HK.out, HS.out]; exact ⟨TA, tc, rfl, ps, HPL.out, HSL.out, HO.out, fun j t ht => HP.out j t (by have := (List.getElem?_eq_some_iff.1 ht).1; rw [HSL.out] at this; exact this) ht⟩⟩
end Go.Proofs.Ytfheepjfpgiaoaa

/-
  Contracts of impl's storeLists and RunStore.
-/
namespace Go.Proofs.Ytfheepjfpgiaoaa
open Go.RowKit

theorem StOwn.pick {w : World} {lo sc : Nat} {SA : Option Addr} {s : List Tr} (h : StOwn w lo SA sc s) {k : Nat} (hk : k < 6) : ∃ b off p t, SA = some ⟨b, off, none⟩ ∧ b < w.heap.size ∧ w.cell? ⟨b, off + k, none⟩ = some (.pointer p) ∧ s[k]? = some t ∧ TrAt w t p := by
  obtain ⟨ps, h1, h2, h3, h4⟩ := h
  obtain ⟨b, off, e, _, hlt, hc, _⟩ := h3.at_ (k := k) (by rw [List.length_map]; omega)
  obtain ⟨p, h5, h6⟩ := h4 k (s[k]'(by omega)) (List.getElem?_eq_getElem (by omega))
  obtain ⟨h7, h8⟩ := List.getElem?_eq_some_iff.1 h5
  exact ⟨b, off, p, s[k]'(by omega), e, hlt, by rw [hc, List.getElem_map, h8], List.getElem?_eq_getElem (by omega), h6⟩
/-- What storeLists returns. -/
def LisP (w : World) (s : List Tr) (e : Ending) (w' : World) : Prop := ∃ A c, e = .returned (.slice A 6 c) ∧ NowS w' w.heap.size A c s ∧ Below w.heap.size w w'
set_option maxRecDepth 100000 in
set_option maxHeartbeats 4000000 in
theorem storeLists_any (SA : Option Addr) (sc lo : Nat) (s : List Tr) (w : World) (hs : StOwn w lo SA sc s) (hsn : ∀ t ∈ s, t.nodes ≤ 2000) : Calls Try.prog 72 #[.slice SA 6 sc] w (LisP w s) := by
  have HS := Lib.hid hs
  have HSN := Lib.hid hsn
  have H6 : Hid (s.length = 6) := Lib.hid (by obtain ⟨ps, _, h2, _⟩ := hs; exact h2)
  have z0 : Below w.heap.size w (w.alloc (.cells #[] 43)) := (Below.refl _ _).alloc (Nat.le_refl _) _
  have HN0 : Hid (NowS (w.alloc (.cells #[] 43)) w.heap.size (some ⟨w.heap.size, 0, none⟩) 0 (s.take 0)) := Lib.hid ⟨[], rfl, Own.lit0 w 43 1, by simp, List.Pairwise.nil⟩
  clear hs hsn
  go_enter Try.func72, Try.ntmps72
  go_wp2_with fail
  go_loopw [3, 9] (fun s3 s9 wr => ∃ (i : Nat) (NA : Option Addr) (nc : Nat), i ≤ 6 ∧ s9 = .int .i64 (i : Int) ∧ s3 = .slice NA i nc ∧ Hid (NowS wr w.heap.size NA nc (s.take i)) ∧ Below w.heap.size w wr) (fun _ s9 _ => 6 - (intOf s9).toNat)
  case atStart => exact ⟨0, _, 0, by omega, rfl, rfl, HN0, z0⟩
  case round =>
    clear HN0 z0
    obtain ⟨i, NA, nc, hi, rfl, rfl, HN, hz⟩ := hrel
    by_cases hlt : i < 6
    · obtain ⟨b, off, p, t, rfl, hbl, hc, ht, hp⟩ := (HS.out.below hz).pick hlt
      have HTT := Lib.hid ht
      have htn : t.nodes ≤ 2000 := HSN.out t (List.mem_of_getElem? ht)
      have HLI := Lib.hid (list_any t p wr hp (by omega))
      obtain ⟨us, hus1, hus2⟩ := HN.out
      have HU1 := Lib.hid hus1
      have HU2 := Lib.hid hus2
      have HTL : Hid ((s.take i).length = i) := Lib.hid (by rw [List.length_take, H6.out]; omega)
      have i1 : (0 : Int) ≤ (i : Int) := by omega
      have i2 : (i : Int) < 6 := by omega
      have hlo := hz.size
      obtain ⟨T, hT⟩ : ∃ T, t.enc.length = T := ⟨_, rfl⟩
      have HTn := Lib.hid hT
      clear ht hp hus1 hus2
      go_upto_region 5 with fail
      go_wp2_with fail
      refine HLI.out.mono ?_
      rintro e w3 ⟨A1, c1, rfl, o1, z3⟩
      rw [hT] at o1
      rw [hT]
      have HO1 := Lib.hid o1
      have hza : Below w3.heap.size w3 (w3.alloc (.cells #[.slice A1 T c1] 43)) := (Below.refl _ _).alloc (Nat.le_refl _) _
      have HZ3 := Lib.hid (z3.trans (hza.mono z3.size))
      have HUA : Hid (Own (w3.alloc (.cells #[.slice A1 T c1] 43)) w.heap.size 43 1 NA i nc (us.map Bl.val)) := Lib.hid (by have h := (HU2.out.below HZ3.out).1; rw [HTL.out] at h; exact h)
      have hz3s := z3.size
      clear hc hbl o1 z3 hza hT
      go_wp2_with (at_builtin; refine wpList_append_Own rfl (.tmp 13) (.tmp 16) rfl elBBs (lo := w.heap.size) rfl HUA.out rfl (Rd.new1 w3 _ _) (by intro u hu; rw [List.mem_singleton.1 hu]; rfl) (by omega) (by simp only [maxLen]; omega) (by simp; omega) ?_; intro A5 c5 w5 o5 hg5 _; have HO5 := Lib.hid o5; have HG5 := Lib.hid hg5)
      have HFIN : Hid (NowS w5 w.heap.size A5 c5 (s.take (i + 1))) := Lib.hid (by
        obtain ⟨h1, h2⟩ := List.getElem?_eq_some_iff.1 HTT.out
        rw [List.take_succ_eq_append_getElem h1, h2]
        have hn : t.nodes = T := by rw [← HTn.out, enc_len]
        refine NowS.push HU1.out HU2.out HZ3.out hlo (A1 := A1) (c1 := c1) ?_ ?_ HG5.out
        · rw [hn]; exact HO1.out.alloc _
        · rw [HTL.out, hn]; exact HO5.out)
      have hzf : Below w.heap.size w w5 := HUA.out.below_of (hz.trans (HZ3.out.mono hlo)) HG5.out (by simp; omega)
      go_roundw
      case rel => exact ⟨i + 1, A5, c5, by omega, by go_num, rfl, HFIN, hzf⟩
      case measure => (simp [intOf] <;> omega)
    · obtain rfl : i = 6 := by omega
      have i2 : ¬ ((6 : Nat) : Int) < 6 := by omega
      have HF : Hid (NowS wr w.heap.size NA nc s) := Lib.hid (by have h := HN.out; rwa [List.take_of_length_le (by rw [H6.out]; exact Nat.le_refl _)] at h)
      go_wp2_with fail
      go_ret
      exact ⟨NA, nc, rfl, HF.out, hz⟩
set_option maxRecDepth 100000 in
set_option maxHeartbeats 4000000 in
theorem runStoreI_any (A : Option Addr) (n c : Nat) (ts : List Ce) (B : Option Addr) (m d : Nat) (us : List Bl) (b : Int) (w : World) (hx : SC w A n ts) (hn : n ≤ 1048576) (hnc : n ≤ c) (hr : ∀ t ∈ ts, t.e.length ≤ 1048576) (hy : SBB w B m us) (hm : m ≤ 1048576) (hs : ∀ u ∈ us, u.xs.length ≤ 1048576) :
    Calls Try.prog 14 #[.slice A n c, .slice B m d, .int .i64 b] w (NewBB4 w (runStF (cmds ts) (numsB us) b)) := by
  have hl : (cmds ts).length = n := by rw [cmds_len]; exact hx.len
  have HX := Lib.hid hx
  have HSTO := Lib.hid (storeTrees_any B m d us w hy hm hs)
  have HV := Lib.hid (fun w' (z : Below w.heap.size w w') => validWhile_any A n c ts w' (hx.below z) hn hnc hr)
  cases ht : okStore (numsB us) with
  | false =>
    have HF : Hid (runStF (cmds ts) (numsB us) b = ([], 0, false, 1)) := Lib.hid (runStF_bad (by rw [ht]; rfl))
    have HK : Hid (¬ okStore (numsB us) = true) := Lib.hid (by rw [ht]; decide)
    clear ht hx hy hl
    go_enter Try.func14, Try.ntmps14
    go_wp2_with (go_at_call 68; refine HSTO.out.mono ?_; rintro e w2 ⟨z, he⟩; rw [if_neg HK.out] at he; subst he; have HZ := Lib.hid z)
    rw [HF.out]
    exact bodyPost_ret (v := .tuple #[.slice none 0 0, .int .i64 0, .bool false, .int .i64 1]) (by simp [results, Try.results14, go_sem]) rfl ⟨none, 0, [], rfl, OBB.none _ _, rfl, HZ.out⟩
  | true =>
    have HK : Hid (okStore (numsB us) = true) := Lib.hid ht
    cases hv : validWh (cmds ts) with
    | false =>
      have HF : Hid (runStF (cmds ts) (numsB us) b = ([], 0, false, 1)) := Lib.hid (runStF_bad (by rw [hv, Bool.and_false]))
      rw [hv] at HV
      clear hv hx hy hl ht
      go_enter Try.func14, Try.ntmps14
      go_wp2_with (first | (go_at_call 68; refine HSTO.out.mono ?_; rintro e w2 ⟨z, he⟩; rw [if_pos HK.out] at he; obtain ⟨SA, sc, rfl, hst⟩ := he; have HZ := Lib.hid z) | (go_at_call 69; refine (HV.out _ HZ.out).mono ?_; rintro e w3 ⟨rfl, z3⟩; have HZ3 := Lib.hid (HZ.out.trans (z3.mono HZ.out.size))))
      rw [HF.out]
      exact bodyPost_ret (v := .tuple #[.slice none 0 0, .int .i64 0, .bool false, .int .i64 1]) (by simp [results, Try.results14, go_sem]) rfl ⟨none, 0, [], rfl, OBB.none _ _, rfl, HZ3.out⟩
    | true =>
      obtain ⟨h80, hpe, hpo⟩ := validWh_get hv
      obtain ⟨h6, htr⟩ := okStore_get ht
      have hvt : (okStore (numsB us) && validWh (cmds ts)) = true := by rw [hv, ht]; rfl
      rw [hv] at HV
      cases hb : inB b 1 20000 with
      | false =>
        have HF : Hid (runStF (cmds ts) (numsB us) b = ([], 0, false, 2)) := Lib.hid (runStF_range hvt hb)
        have HB := Lib.hid hb
        clear hv hx hy hl ht hb hpe hpo h80 hvt htr
        go_enter Try.func14, Try.ntmps14
        go_wp2_with (first | (go_at_call 68; refine HSTO.out.mono ?_; rintro e w2 ⟨z, he⟩; rw [if_pos HK.out] at he; obtain ⟨SA, sc, rfl, hst⟩ := he; have HZ := Lib.hid z) | (go_at_call 69; refine (HV.out _ HZ.out).mono ?_; rintro e w3 ⟨rfl, z3⟩; have HZ3 := Lib.hid (HZ.out.trans (z3.mono HZ.out.size))) | (go_at_call 70; refine (budgetOkW HB.out _).mono ?_; rintro e w' ⟨rfl, rfl⟩))
        rw [HF.out]
        exact bodyPost_ret (v := .tuple #[.slice none 0 0, .int .i64 0, .bool false, .int .i64 2]) (by simp [results, Try.results14, go_sem]) rfl ⟨none, 0, [], rfl, OBB.none _ _, rfl, HZ3.out⟩
      | true =>
        have HB := Lib.hid hb
        have hbb := (inB_iff _ _ _).1 hb
        obtain ⟨N, rfl⟩ : ∃ N : Nat, b = (N : Int) := ⟨b.toNat, by omega⟩
        obtain ⟨P, hPP⟩ : ∃ P, pgOf (cmds ts) = P := ⟨_, rfl⟩
        obtain ⟨s0, hs0⟩ : ∃ s0, (numsB us).map trOf = s0 := ⟨_, rfl⟩
        rw [hPP] at hpe hpo
        have HS0 := Lib.hid hs0
        have HS6 : Hid (s0.length = 6) := Lib.hid (by rw [← hs0]; simp [numsB, h6])
        have HSN : Hid (∀ t ∈ s0, t.nodes ≤ 2000) := Lib.hid (fun t h => by
          rw [← hs0] at h
          obtain ⟨x, hx1, rfl⟩ := List.mem_map.1 h
          obtain ⟨u, hu, rfl⟩ := List.mem_map.1 hx1
          exact (enc_trOf (htr u hu)).2)
        have HFN : Hid (goW N 0 P [] s0 = none → runStF (cmds ts) (numsB us) (N : Int) = ([], 0, false, 5)) := Lib.hid (fun h => runStF_none hvt hb (by rw [Int.toNat_natCast, hPP, hs0]; exact h))
        have HFS : Hid (∀ s k d, goW N 0 P [] s0 = some (s, k, d) → runStF (cmds ts) (numsB us) (N : Int) = (s.map Tr.enc, (k : Int), d, 0)) := Lib.hid (fun s k d h => runStF_some hvt hb (by rw [Int.toNat_natCast, hPP, hs0]; exact h))
        have HPE := Lib.hid hpe
        have HPO := Lib.hid hpo
        have hn8 : n ≤ 80 := by rw [← hl]; exact h80
        have hN : N ≤ 20000 := by omega
        clear hv hx hy hl ht hb hpe hpo h80 hvt hbb hPP htr hs0
        go_enter Try.func14, Try.ntmps14
        go_upto_region 6 with (first | (go_at_call 68; refine HSTO.out.mono ?_; rintro e w2 ⟨z, he⟩; rw [if_pos HK.out, HS0.out] at he; obtain ⟨SA, sc, rfl, hst⟩ := he; have HZ := Lib.hid z; have HST := Lib.hid hst) | (go_at_call 69; refine (HV.out _ HZ.out).mono ?_; rintro e w3 ⟨rfl, z3⟩; have HZ3 := Lib.hid (HZ.out.trans (z3.mono HZ.out.size)); have HST3 := Lib.hid (HST.out.below z3)) | (go_at_call 70; refine (budgetOkW HB.out _).mono ?_; rintro e w' ⟨rfl, rfl⟩))
        have HRI := Lib.hid (runTrees_any w w3 A n c ts SA sc s0 N P HZ3.out HX.out (by omega) HPE.out.symm HPO.out HST3.out HSN.out (by omega))
        clear HV HSTO HB z z3 hst
        go_wp2_with fail
        refine HRI.out.mono ?_
        rintro e w4 ⟨hz4, hres⟩
        have HZ4 := Lib.hid hz4
        cases hg : goW N 0 P [] s0 with
        | none =>
          have HF : Hid (runStF (cmds ts) (numsB us) (N : Int) = ([], 0, false, 5)) := Lib.hid (HFN.out hg)
          rw [hg] at hres
          obtain ⟨rfl, _⟩ := hres
          clear hg hz4 HFN HFS
          go_wp2_with fail
          rw [HF.out]
          exact bodyPost_ret (v := .tuple #[.slice none 0 0, .int .i64 0, .bool false, .int .i64 5]) (by simp [results, Try.results14, go_sem]) rfl ⟨none, 0, [], rfl, OBB.none _ _, rfl, HZ4.out⟩
        | some r =>
          obtain ⟨s, k, dd⟩ := r
          have HF : Hid (runStF (cmds ts) (numsB us) (N : Int) = (s.map Tr.enc, (k : Int), dd, 0)) := Lib.hid (HFS.out s k dd hg)
          have hgo := goW_ok _ _ _ _ _ HSN.out s k dd hg
          have hsl : s.length = 6 := hgo.2.trans HS6.out
          rw [hg] at hres
          obtain ⟨rfl, hst4⟩ := hres
          have HLI := Lib.hid (storeLists_any SA sc w.heap.size s w4 hst4 hgo.1)
          have HSL := Lib.hid hsl
          clear hg hz4 HFN HFS hst4 hgo hsl
          go_wp2_with fail
          refine HLI.out.mono ?_
          rintro e w5 ⟨RA, rc, rfl, ⟨vs, hv1, hv2⟩, z5⟩
          rw [HSL.out] at hv2
          have HV1 := Lib.hid hv1
          have HV2 := Lib.hid hv2
          have HZ5 := Lib.hid (HZ4.out.trans (z5.mono HZ4.out.size))
          clear z5 hv1 hv2 HLI
          go_wp2_with fail
          rw [HF.out]
          exact bodyPost_ret (v := .tuple #[.slice RA 6 rc, .int .i64 (k : Int), .bool dd, .int .i64 0]) (by simp [results, Try.results14, go_sem]) rfl ⟨RA, rc, vs, by rw [List.length_map, HSL.out], by rw [List.length_map, HSL.out]; exact ⟨HV2.out.1.mono HZ4.out.size, fun u hu => (HV2.out.2.1 u hu).mono HZ4.out.size, HV2.out.2.2⟩, HV1.out, HZ5.out⟩
end Go.Proofs.Ytfheepjfpgiaoaa

/-
  Contract of impl's EvalExpr.
-/
namespace Go.Proofs.Ytfheepjfpgiaoaa
open Go.RowKit

theorem idleE (p q : Addr) (w : World) :
    CallsD Try.prog 90 #[.pointer (some p), .pointer (some q)] .returning w fun e u' w' => e = .returned (.tuple #[]) ∧ u' = .returning ∧ w' = w := by
  refine callsD_of_wpS Try.func90 rfl fun c₀ cs hu => ?_
  apply wpS_seq
  apply wpS_region
  simp [wpOpsS, go_sem, recoverD, hu, Try.ntmps90, Exit.thenS]
  refine wpS_of_wp ?_
  go_wp2_with fail
  cases c₀
  simp_all [bodyPostS, results, Try.results90]
set_option maxRecDepth 100000 in
theorem panicE (x y : Nat) (v0 v1 : Value) (w : World) (hx : Blk w x 43 #[v0]) (hy : Blk w y 2 #[v1]) :
    CallsD Try.prog 90 #[.pointer (some ⟨x, 0, none⟩), .pointer (some ⟨y, 0, none⟩)] (.panicking [{ v := .iface 226 (.agg #[]), recovered := false }]) w fun e u' w' =>
      e = .returned (.tuple #[]) ∧ u' = .panicking [{ v := .iface 226 (.agg #[]), recovered := true }] ∧ Blk w' x 43 #[.slice none 0 0] ∧ Blk w' y 2 #[.int .i64 5] ∧ Hid (∀ lo w0, Below lo w0 w → lo ≤ x → lo ≤ y → Below lo w0 w') := by
  have hxy : x ≠ y := hx.ne hy (by decide)
  have x0 : w.cell? ⟨x, 0, none⟩ = some v0 := hx.cell 0
  have y0 : w.cell? ⟨y, 0, none⟩ = some v1 := hy.cell 0
  have fx := hx.frozen 0
  have fy := hy.frozen 0
  refine callsD_of_wpS Try.func90 rfl fun c₀ cs hu => ?_
  apply wpS_seq
  apply wpS_region
  simp [wpOpsS, go_sem, recoverD, hu, Try.ntmps90, Exit.thenS]
  refine wpS_of_wp ?_
  obtain ⟨W3, hW3⟩ : ∃ W3, W3 = (w.setCell ⟨x, 0, none⟩ (.slice none 0 0)).setCell ⟨y, 0, none⟩ (.int .i64 5) := ⟨_, rfl⟩
  have hx3 : Blk W3 x 43 #[.slice none 0 0] := by
    rw [hW3]
    exact (hx.set_ 0 (.slice none 0 0)).far (p := ⟨y, 0, none⟩) hxy (.int .i64 5)
  have hy3 : Blk W3 y 2 #[.int .i64 5] := by
    rw [hW3]
    exact (hy.far (p := ⟨x, 0, none⟩) (Ne.symm hxy) (.slice none 0 0)).set_ 0 (.int .i64 5)
  have hbel : ∀ lo w0, Below lo w0 w → lo ≤ x → lo ≤ y → Below lo w0 W3 := fun lo w0 h h1 h2 => by
    rw [hW3]
    exact (h.setCell (p := ⟨x, 0, none⟩) h1 _).setCell (p := ⟨y, 0, none⟩) h2 _
  have HF := Lib.hid (⟨hx3, hy3, Lib.hid hbel⟩ : _ ∧ _ ∧ _)
  have HW3 := Lib.hid hW3
  clear hx3 hy3 hbel hx hy hW3
  go_wp2_with fail
  rw [← HW3.out]
  have HF2 := HF.out
  cases c₀
  simp_all [bodyPostS, results, Try.results90]
/-- What EvalExpr returns for a valid expression and store. -/
def EvalP (w : World) (r : Option Tr) (e : Ending) (w' : World) : Prop :=
  Below w.heap.size w w' ∧ match r with
  | some x => ∃ A c, e = .returned (.tuple #[.slice A x.nodes c, .int .i64 0]) ∧ Own w' w.heap.size 4 1 A x.nodes c (bools x.enc)
  | none => e = .returned (.tuple #[.slice none 0 0, .int .i64 5])
theorem StOwn.st {w : World} {lo : Nat} {SA : Option Addr} {sc : Nat} {s : List Tr} (h : StOwn w lo SA sc s) : StAt w SA s := by
  obtain ⟨ps, h1, h2, h3, h4⟩ := h
  exact ⟨ps, h1, h2, h3.rd, h4⟩
set_option maxRecDepth 100000 in
set_option maxHeartbeats 8000000 in
theorem evalExpr_any (E : Option Addr) (m d : Nat) (ex : Ex) (B : Option Addr) (n c : Nat) (us : List Bl) (w : World) (he : S2 w E m ex.enc) (hm : m ≤ 40) (hok : ex.ok) (hx : SBB w B n us) (hn : n ≤ 1048576) (hns : ∀ t ∈ us, t.xs.length ≤ 1048576) (hst : okStore (numsB us) = true) :
    Calls Try.prog 25 #[.slice E m d, .slice B n c] w (EvalP w (ex.ev ((numsB us).map trOf))) := by
  have hmf : ∀ (fn : Fn) (first cap : Array Value) (w : World), (Instr.makeFunc fn first cap).run Try.prog w = .ok (.func fn first cap) w := fun _ _ _ _ => rfl
  have hml : ex.len = m := by rw [← ex_len]; exact he.len
  obtain ⟨s, hs⟩ : ∃ s, (numsB us).map trOf = s := ⟨_, rfl⟩
  have HSN : Hid (∀ t ∈ s, t.nodes ≤ 2000) := Lib.hid (by
    rw [← hs]
    intro t ht
    obtain ⟨xs, hxs, rfl⟩ := List.mem_map.1 ht
    obtain ⟨u, hu, rfl⟩ := List.mem_map.1 hxs
    exact (enc_trOf ((okStore_get hst).2 u hu)).2)
  obtain ⟨W1, hW_⟩ : ∃ W, W = (w.alloc (.cells #[.slice none 0 0] 43)).alloc (.cells #[.int .i64 0] 2) := ⟨_, rfl⟩
  have s_1 : (w.alloc (.cells #[.slice none 0 0] 43)).heap.size = w.heap.size + 1 := by simp
  have b0 : Blk W1 w.heap.size 43 #[.slice none 0 0] := by rw [hW_]; exact (Blk.new w _ _).alloc _
  have b1 : Blk W1 (w.heap.size + 1) 2 #[.int .i64 0] := by rw [hW_, ← s_1]; exact Blk.new _ _ _
  have y1 : Below w.heap.size w W1 := by rw [hW_]; exact ((Below.refl _ _).alloc (Nat.le_refl _) _).alloc (by simp) _
  have HW1 := Lib.hid hW_
  clear hW_ s_1
  have HSTO : Hid (Calls Try.prog 68 #[.slice B n c] W1 fun e w' => Below W1.heap.size W1 w' ∧ ∃ SA sc, e = .returned (.tuple #[.slice SA 6 sc, .bool true]) ∧ StOwn w' W1.heap.size SA sc s) := Lib.hid (by
    have h := storeTrees_any B n c us W1 (hx.below y1) hn hns
    refine h.mono fun e w' h1 => ?_
    unfold StoP at h1
    rw [if_pos hst, hs] at h1
    exact h1)
  have hee : isEx ex.enc = true := isEx_good ⟨hok, by omega⟩
  have HVE := Lib.hid (fun (W : World) (z : Below w.heap.size w W) => validExpr_any E m d ex.enc W (he.below z) (by omega))
  rw [hee] at HVE
  have HE0 := Lib.hid he
  have HOK := Lib.hid hok
  have HY1 := Lib.hid y1
  have hb1 := b1.lt
  rw [hs]
  clear hx hns hst hs he hok hee y1
  go_enter_defers Try.func25, Try.ntmps25
  go_upto_region 1 with fail
  rw [← HW1.out]
  clear HW1
  have hcall := Try.call90
  go_wp2_with fail
  refine HSTO.out.mono ?_
  rintro e w2 ⟨z2, SA, sc, rfl, hst2⟩
  have y2 : Below w.heap.size w w2 := HY1.out.trans (z2.mono HY1.out.size)
  have c0 := b0.below' z2
  have c1 := b1.below' z2
  have HST2 := Lib.hid hst2
  clear b0 b1 z2 hst2 HSTO
  go_wp2_with fail
  refine (HVE.out w2 y2).mono ?_
  rintro e w3 ⟨rfl, z3⟩
  have y3 : Below w.heap.size w w3 := y2.trans (z3.mono y2.size)
  have d0 := c0.below' z3
  have d1 := c1.below' z3
  have HST3 := Lib.hid (HST2.out.below z3).st
  have HEV : Hid (Calls Try.prog 91 #[.slice E m d, .int .i64 0, .slice SA 6 sc] w3 (EvP w3 ((0 + ex.len : Nat) : Int) (ex.ev s))) := Lib.hid (exprValue_any E m d ex.enc SA sc s (by omega) HSN.out ex 0 [] w3 (by rw [List.drop_zero, List.append_nil]) HOK.out (HE0.out.below y3) HST3.out)
  have HY3 := Lib.hid y3
  clear c0 c1 z3 y2 HST2 y3
  cases hev : ex.ev s with
  | none =>
    rw [hev] at HEV
    go_wp2_with fail
    refine HEV.out.mono ?_
    rintro e w4 ⟨rfl, z4⟩
    have e0 := d0.below' z4
    have e1 := d1.below' z4
    have y4 : Below w.heap.size w w4 := HY3.out.trans (z4.mono HY3.out.size)
    refine leaves_cons (f := 90) (args := #[.pointer (some ⟨w.heap.size, 0, none⟩), .pointer (some ⟨w.heap.size + 1, 0, none⟩)]) (by simp) (by simp [go_sem]) ?_
    refine (panicE w.heap.size (w.heap.size + 1) _ _ w4 e0 e1).mono ?_
    rintro e u' w'' ⟨rfl, rfl, f0, f1, HZ⟩
    have hz6 := HZ.out _ _ y4 (Nat.le_refl _) (Nat.le_succ _)
    have q0 : w''.cell? ⟨w.heap.size, 0, none⟩ = some (.slice none 0 0) := f0.cell 0
    have q1 : w''.cell? ⟨w.heap.size + 1, 0, none⟩ = some (.int .i64 5) := f1.cell 0
    have hfin : EvalP w none (.returned (.tuple #[.slice none 0 0, .int .i64 5])) w'' := ⟨hz6, rfl⟩
    simp [Leaves, settle, results, Try.results25, go_sem, q0, q1]
    exact hfin
  | some x =>
    rw [hev] at HEV
    have HXN : Hid (x.nodes ≤ 2000) := Lib.hid (ev_nodes HSN.out ex x hev)
    have HEVX := Lib.hid hev
    clear hev
    go_wp2_with fail
    refine HEV.out.mono ?_
    rintro e w4 ⟨⟨p, rfl, htr⟩, z4⟩
    have e0 := d0.below' z4
    have e1 := d1.below' z4
    have y4 : Below w.heap.size w w4 := HY3.out.trans (z4.mono HY3.out.size)
    have HLI := Lib.hid (list_any x p w4 htr (by have := HXN.out; omega))
    clear htr z4 d0 d1 HEV
    go_wp2_with fail
    refine HLI.out.mono ?_
    rintro e w5 ⟨A, ac, rfl, o5, z5⟩
    rw [enc_len] at o5 ⊢
    have f0 := e0.below' z5
    have f1 := e1.below' z5
    have y5 : Below w.heap.size w w5 := y4.trans (z5.mono y4.size)
    have a0 : w5.cell? ⟨w.heap.size, 0, none⟩ = some (.slice none 0 0) := f0.cell 0
    have b0 : w5.cell? ⟨(w.heap.size + 1), 0, none⟩ = some (.int .i64 0) := f1.cell 0
    have fa0 := f0.frozen 0
    have fb0 := f1.frozen 0
    obtain ⟨W6, hW6⟩ : ∃ W6, W6 = (w5.setCell ⟨w.heap.size, 0, none⟩ (.slice A x.nodes ac)).setCell ⟨w.heap.size + 1, 0, none⟩ (.int .i64 0) := ⟨_, rfl⟩
    have hz6 : Below w.heap.size w W6 := by rw [hW6]; exact (y5.setCell (p := ⟨w.heap.size, 0, none⟩) (Nat.le_refl _) _).setCell (p := ⟨w.heap.size + 1, 0, none⟩) (Nat.le_succ _) _
    have g0 : Blk W6 w.heap.size 43 #[.slice A x.nodes ac] := by rw [hW6]; exact (f0.set_ 0 _).far (p := ⟨w.heap.size + 1, 0, none⟩) (by simp) _
    have g1 : Blk W6 (w.heap.size + 1) 2 #[.int .i64 0] := by rw [hW6]; exact (f1.far (p := ⟨w.heap.size, 0, none⟩) (by simp) _).set_ 0 _
    have o6 : Own W6 w.heap.size 4 1 A x.nodes ac (bools x.enc) := by
      rw [hW6]
      exact ((o5.mono y4.size).far (p := ⟨w.heap.size, 0, none⟩) (f0.apt o5 (by decide)) _).far (p := ⟨w.heap.size + 1, 0, none⟩) (f1.apt o5 (by decide)) _
    have HF := Lib.hid (⟨hz6, g0, g1, o6⟩ : _ ∧ _ ∧ _ ∧ _)
    have HW6 := Lib.hid hW6
    clear hz6 g0 g1 o6 hW6 o5 f0 f1 e0 e1 z5
    go_wp2_with fail
    rw [← HW6.out]
    refine leaves_cons (f := 90) (args := #[.pointer (some ⟨w.heap.size, 0, none⟩), .pointer (some ⟨w.heap.size + 1, 0, none⟩)]) (by simp) (by simp [go_sem]) ?_
    refine (idleE _ _ _).mono ?_
    rintro e u' w'' ⟨rfl, rfl, rfl⟩
    obtain ⟨hz6, g0, g1, o6⟩ := HF.out
    have q0 : w''.cell? ⟨w.heap.size, 0, none⟩ = some (.slice A x.nodes ac) := g0.cell 0
    have q1 : w''.cell? ⟨w.heap.size + 1, 0, none⟩ = some (.int .i64 0) := g1.cell 0
    have hfin : EvalP w (some x) (.returned (.tuple #[.slice A x.nodes ac, .int .i64 0])) w'' := ⟨hz6, A, ac, rfl, o6⟩
    simp [Leaves, settle, results, Try.results25, go_sem, q0, q1]
    rw [HEVX.out]
    exact hfin
end Go.Proofs.Ytfheepjfpgiaoaa

/-
  Whether two lists are equal (b10Nums).
-/
namespace Go.Proofs.Ytfheepjfpgiaoaa
open Go.RowKit

set_option maxHeartbeats 400000 in
theorem b10Nums_any (A B : Option Addr) (n m c d : Nat) (xs ys : List Int) (w : World) (hx : SI w A n xs) (hy : SI w B m ys) (hn : n ≤ 9223372036854775807) :
    Calls Try.prog 121 #[.slice A n c, .slice B m d] w fun e w' => e = .returned (.bool (sameI xs ys)) ∧ ∃ q, w' = w.drewN q := by
  by_cases hnm : n = m
  · subst hnm
    go_enter Try.func121, Try.ntmps121
    go_wp2
    go_loopw [5] (fun i wr => ∃ k q : Nat, k ≤ n ∧ i = .int .i64 k ∧ Hid (xs.take k = ys.take k) ∧ wr = w.drewN q) (fun i _ => n - (intOf i).toNat)
    case atStart => exact ⟨0, 0, by omega, rfl, rfl, rfl⟩
    case round =>
      obtain ⟨k, q, hk, rfl, he, rfl⟩ := hrel
      by_cases hlt : k < n
      · obtain ⟨b, off, rfl, _, hc⟩ := hx.at_ hlt
        obtain ⟨b', off', rfl, _, hc'⟩ := hy.at_ hlt
        go_wp2
        go_quiet (fail)
        go_wp2
        · go_ret
          exact ⟨ret_bool (sameI_ne hlt hx.len hy.len (by assumption)), _, World.drewN_drewN _ _ _⟩
        · exact ⟨⟨k + 1, _, by omega, by go_num, take_next hlt hx.len hy.len he.out (by assumption), rfl⟩, by simp [intOf]; omega⟩
      · go_wp2
        go_ret
        exact ⟨ret_bool (sameI_eq (by omega) hx.len hy.len he.out), _, rfl⟩
  · have hne : ((n : Int) != (m : Int)) = true := by simp; omega
    go_enter Try.func121, Try.ntmps121
    go_wp2
    go_ret
    exact ⟨ret_bool (sameI_len hnm hx.len hy.len), 0, rfl⟩
theorem b10Nums_yes (A B : Option Addr) (n c d : Nat) (xs : List Int) (w : World) (hx : SI w A n xs) (hy : SI w B n xs) (hn : n ≤ 9223372036854775807) :
    Calls Try.prog 121 #[.slice A n c, .slice B n d] w fun e w' => e = .returned (.bool true) ∧ ∃ q, w' = w.drewN q :=
  (b10Nums_any A B n n c d xs xs w hx hy hn).mono fun _ _ ⟨h1, h2⟩ => ⟨by rw [h1]; simp [sameI], h2⟩
theorem b10Long_yes (A : Option Addr) (n c : Nat) (w : World) (h : 1048576 < n) : Calls Try.prog 20 #[.slice A n c] w fun e w' => e = .returned (.bool true) ∧ w = w' := by
  have i1 : (1048576 : Int) < (n : Int) := by omega
  go_enter Try.func20, Try.ntmps20
  go_wp2_with fail
  go_ret
  exact ⟨ret_bool (by simp), rfl⟩
theorem b10Long_no (A : Option Addr) (n c : Nat) (w : World) (h : ¬ 1048576 < n) : Calls Try.prog 20 #[.slice A n c] w fun e w' => e = .returned (.bool false) ∧ w = w' := by
  have i1 : ¬ (1048576 : Int) < (n : Int) := by omega
  go_enter Try.func20, Try.ntmps20
  go_wp2_with fail
  go_ret
  exact ⟨ret_bool (by simp), rfl⟩
end Go.Proofs.Ytfheepjfpgiaoaa

/-
  b10Trees; what RunStore answers to a program and a store that are known.
-/
namespace Go.Proofs.Ytfheepjfpgiaoaa
open Go.RowKit

set_option maxHeartbeats 400000 in
theorem b10Trees_any (A B : Option Addr) (n m c d : Nat) (xs ys : List Bool) (w : World) (hx : SB w A n xs) (hy : SB w B m ys) (hn : n ≤ 9223372036854775807) :
    Calls Try.prog 26 #[.slice A n c, .slice B m d] w fun e w' => e = .returned (.bool (sameBo xs ys)) ∧ ∃ q, w' = w.drewN q := by
  by_cases hnm : n = m
  · subst hnm
    go_enter Try.func26, Try.ntmps26
    go_wp2
    go_loopw [5] (fun i wr => ∃ k q : Nat, k ≤ n ∧ i = .int .i64 k ∧ Hid (xs.take k = ys.take k) ∧ wr = w.drewN q) (fun i _ => n - (intOf i).toNat)
    case atStart => exact ⟨0, 0, by omega, rfl, rfl, rfl⟩
    case round =>
      obtain ⟨k, q, hk, rfl, he, rfl⟩ := hrel
      by_cases hlt : k < n
      · obtain ⟨b, off, rfl, _, hc⟩ := hx.at_ hlt
        obtain ⟨b', off', rfl, _, hc'⟩ := hy.at_ hlt
        go_wp2
        go_quiet (fail)
        go_wp2
        · go_ret
          exact ⟨ret_bool (sameBo_ne hlt hx.len hy.len (by assumption)), _, World.drewN_drewN _ _ _⟩
        · exact ⟨⟨k + 1, _, by omega, by go_num, takeB_next hlt hx.len hy.len he.out (by assumption), rfl⟩, by simp [intOf]; omega⟩
      · go_wp2
        go_ret
        exact ⟨ret_bool (sameBo_eq (by omega) hx.len hy.len he.out), _, rfl⟩
  · have hne : ((n : Int) != (m : Int)) = true := by simp; omega
    go_enter Try.func26, Try.ntmps26
    go_wp2
    go_ret
    exact ⟨ret_bool (sameBo_len hnm hx.len hy.len), 0, rfl⟩
theorem b10Trees_yes (A B : Option Addr) (n c d : Nat) (xs : List Bool) (w : World) (hx : SB w A n xs) (hy : SB w B n xs) (hn : n ≤ 9223372036854775807) :
    Calls Try.prog 26 #[.slice A n c, .slice B n d] w fun e w' => e = .returned (.bool true) ∧ ∃ q, w' = w.drewN q :=
  (b10Trees_any A B n n c d xs xs w hx hy hn).mono fun _ _ ⟨h1, h2⟩ => ⟨by rw [h1, sameBo_self], h2⟩
theorem validWh_of {cs : List Cmd} {P : Pg} (hc : cs = P.enc) (hl : cs.length ≤ 80) (hok : P.ok) : validWh cs = true := by
  unfold validWh
  rw [decide_eq_true hl, hc, validC_enc P hok]; rfl
theorem okStore_of {xs : List (List Bool)} {s : List Tr} (hx : xs = s.map Tr.enc) (h6 : s.length = 6) (hn : ∀ t ∈ s, t.nodes ≤ 2000) : okStore xs = true ∧ xs.map trOf = s := by
  subst hx
  refine ⟨?_, ?_⟩
  · unfold okStore
    rw [List.length_map, decide_eq_true h6, Bool.true_and, List.all_eq_true]
    intro l hl
    obtain ⟨t, ht, rfl⟩ := List.mem_map.1 hl
    exact treeB_enc (hn t ht)
  · rw [List.map_map]
    have : trOf ∘ Tr.enc = id := by funext t; exact trOf_enc t
    rw [this, List.map_id]
def runStG (r : Option (List Tr × Nat × Bool)) : List (List Bool) × Int × Bool × Int := match r with
  | some (s, k, d) => (s.map Tr.enc, (k : Int), d, 0)
  | none => ([], 0, false, 5)
theorem runStF_of {cs : List Cmd} {xs : List (List Bool)} {P : Pg} {s : List Tr} {b : Nat} (hc : cs = P.enc) (hl : cs.length ≤ 80) (hok : P.ok) (hx : xs = s.map Tr.enc) (h6 : s.length = 6) (hn : ∀ t ∈ s, t.nodes ≤ 2000) (hb1 : 1 ≤ b) (hb2 : b ≤ 20000) : runStF cs xs (b : Int) = runStG (goW b 0 P [] s) := by
  obtain ⟨h1, h2⟩ := okStore_of hx h6 hn
  have h3 := validWh_of hc hl hok
  have h : (okStore xs && validWh cs) = true := by rw [h1, h3]; rfl
  have hb : inB (b : Int) 1 20000 = true := by simp [inB]; omega
  have hp : pgOf cs = P := by rw [hc, pgOf_enc]
  cases hg : goW b 0 P [] s with
  | none => exact runStF_none h hb (by rw [Int.toNat_natCast, hp, h2]; exact hg)
  | some r =>
    obtain ⟨s', k, d⟩ := r
    exact runStF_some h hb (by rw [Int.toNat_natCast, hp, h2]; exact hg)
theorem goW_le : ∀ (f n : Nat) (p : Pg) (S : List Pg) (s s' : List Tr) (k : Nat) (d : Bool), goW f n p S s = some (s', k, d) → k ≤ n + f
  | 0, n, p, S, s, s', k, d, h => by
    have h1 : some (s, n, doneW p S) = some (s', k, d) := h
    simp only [Option.some.injEq, Prod.mk.injEq] at h1
    omega
  | f + 1, n, p, S, s, s', k, d, h => by
    rw [goW] at h
    split at h
    · simp only [Option.some.injEq, Prod.mk.injEq] at h
      omega
    · cases hst : stepW (normW p S).1 (normW p S).2 s with
      | none => rw [hst] at h; cases h
      | some r =>
        obtain ⟨p2, S2, s2⟩ := r
        rw [hst] at h
        have := goW_le f (n + 1) p2 S2 s2 s' k d h
        omega
/-- The list of nodes of a tree begins with whether it is a pair. -/
theorem enc_at0 (x : Tr) : ∃ l, x.enc = decide (x ≠ .nil) :: l := by cases x <;> simp [Tr.enc]
end Go.Proofs.Ytfheepjfpgiaoaa
