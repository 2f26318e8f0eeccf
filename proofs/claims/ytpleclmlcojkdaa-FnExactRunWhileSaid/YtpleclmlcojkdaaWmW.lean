/-
  Contracts of impl's runInput and RunWhile.
-/
import Derived.Test.YtpleclmlcojkdaaWmT
namespace Go.Proofs.Ytpleclmlcojkdaa
open Go.RowKit

theorem budgetOkW {b : Int} {r : Bool} (h : inB b 1 20000 = r) (w : World) : Calls Try.prog 143 #[.int .i64 b] w fun e w' => e = .returned (.bool r) ∧ w = w' := by
  go_enter Try.func143, Try.ntmps143
  go_wp2_with (go_at_call 92; refine (within_is h _).mono ?_; rintro e w' ⟨rfl, rfl⟩)
  go_ret
  exact ⟨rfl, rfl⟩
def InpP (w : World) (r : Option (List Tr × Nat × Bool)) (e : Ending) (w' : World) : Prop :=
  Below w.heap.size w w' ∧ match r with
  | some (s, k, d) => ∃ q, e = .returned (.tuple #[.pointer q, .int .i64 (k : Int), .bool d, .int .i64 0]) ∧ TrAt w' (s.getD 0 .nil) q
  | none => ∃ q, e = .returned (.tuple #[.pointer q, .int .i64 0, .bool false, .int .i64 5])
theorem StOwn.cell {w : World} {lo : Nat} {b off sc : Nat} {s : List Tr} (h : StOwn w lo (some ⟨b, off, none⟩) sc s) {k : Nat} (hk : k < 6) : ∃ p, w.cell? ⟨b, off + k, none⟩ = some (.pointer p) ∧ TrAt w (s.getD k .nil) p := by
  obtain ⟨ps, h1, h2, h3, h4⟩ := h
  obtain ⟨b', off', e, _, _, hc, _⟩ := h3.at_ (k := k) (by rw [List.length_map]; omega)
  cases e
  obtain ⟨p, h5, h6⟩ := h4 k (s[k]'(by omega)) (List.getElem?_eq_getElem (by omega))
  obtain ⟨h7, h8⟩ := List.getElem?_eq_some_iff.1 h5
  refine ⟨p, ?_, ?_⟩
  · rw [hc, List.getElem_map, h8]
  · rw [List.getD_eq_getElem?_getD, List.getElem?_eq_getElem (by omega : k < s.length)]; exact h6
set_option maxRecDepth 100000 in
set_option maxHeartbeats 4000000 in
theorem runInput_any (w : World) (PA : Option Addr) (n pc : Nat) (ts : List Ce) (t : Tr) (p : Option Addr) (bud : Nat) (pg : Pg) (hx : SC w PA n ts) (hn : n ≤ 1000) (hpg : cmds ts = pg.enc) (hok : pg.ok) (hp : TrAt w t p) (ht : t.nodes ≤ 2000) (hb : bud ≤ 1000000) :
    Calls Try.prog 153 #[.slice PA n pc, .pointer p, .int .i64 (bud : Int)] w (InpP w (goW bud 0 pg [] (startW t))) := by
  have HP := Lib.hid hp
  have HX := Lib.hid hx
  have HST := Lib.hid (startW_ok ht)
  clear hp hx ht
  go_enter Try.func153, Try.ntmps153
  go_upto_region 2 with (at_make; refine wpList_make_Own rfl (.const (.int .i64 6)) (.const (.int .i64 6)) rfl elTp (n := 6) (lo := w.heap.size) rfl rfl (by omega) (by unfold maxLen; omega) (Nat.le_refl _) ?_; intro w2 ho2 hb2 hs2)
  have hm : (madeCells (Value.pointer none).cells (6 * 1)).toList = ([none, none, none, none, none, none] : List (Option Addr)).map Value.pointer := by
    show (madeCells #[Value.pointer none] (6 * 1)).toList = _
    rw [toList_madeCells_one]; rfl
  rw [hm] at ho2
  have HO := Lib.hid ho2
  obtain ⟨b, off, e, _, _, hc, hf⟩ := ho2.at_ (k := 0) (by simp)
  cases e
  have hc0 : w2.cell? ⟨w.heap.size, 0, none⟩ = some (.pointer none) := hc
  have hf0 : w2.frozen? ⟨w.heap.size, 0, none⟩ = false := hf
  have HZ := Lib.hid hb2
  clear hc hf ho2 hb2 hs2 hm
  go_upto_region 3 with fail
  obtain ⟨W3, hW3⟩ : ∃ W3, W3 = w2.setCell ⟨w.heap.size, 0, none⟩ (.pointer p) := ⟨_, rfl⟩
  rw [← hW3]
  have hz3 : Below w.heap.size w W3 := by rw [hW3]; exact HZ.out.setCell (p := ⟨w.heap.size, 0, none⟩) (Nat.le_refl _) _
  have hst : StOwn W3 w.heap.size (some ⟨w.heap.size, 0, none⟩) 6 (startW t) := by
    have h1 := HO.out.set_ (k := 0) (by simp) (.pointer p)
    refine ⟨[p, none, none, none, none, none], rfl, rfl, by rw [hW3]; exact h1, fun k x hk => ?_⟩
    have hp3 := HP.out.below hz3
    match k, hk with
    | 0, hk => cases hk; exact ⟨p, rfl, hp3⟩
    | 1, hk => cases hk; exact ⟨none, rfl, rfl⟩
    | 2, hk => cases hk; exact ⟨none, rfl, rfl⟩
    | 3, hk => cases hk; exact ⟨none, rfl, rfl⟩
    | 4, hk => cases hk; exact ⟨none, rfl, rfl⟩
    | 5, hk => cases hk; exact ⟨none, rfl, rfl⟩
    | k + 6, hk => simp [startW] at hk
  have HR := Lib.hid (runTrees_any w W3 PA n pc ts (some ⟨w.heap.size, 0, none⟩) 6 (startW t) bud pg hz3 HX.out hn hpg hok hst HST.out hb)
  clear hW3 hz3 hst hc0 hf0
  go_wp2_with fail
  refine HR.out.mono ?_
  rintro e W4 ⟨hz4, hr⟩
  have HZ4 := Lib.hid hz4
  cases hg : goW bud 0 pg [] (startW t) with
  | none =>
    rw [hg] at hr
    obtain ⟨rfl, s, hs⟩ := hr
    obtain ⟨q, hq, _⟩ := hs.cell (k := 0) (by omega)
    have hq0 : W4.cell? ⟨w.heap.size, 0, none⟩ = some (.pointer q) := hq
    clear hq hs hz4
    go_wp2_with fail
    exact bodyPost_ret (v := .tuple #[.pointer q, .int .i64 0, .bool false, .int .i64 5]) (by simp [results, Try.results153, go_sem]) rfl ⟨HZ4.out, by rw [hg]; exact ⟨q, rfl⟩⟩
  | some r =>
    obtain ⟨s, k, d⟩ := r
    rw [hg] at hr
    obtain ⟨rfl, hs⟩ := hr
    obtain ⟨q, hq, ht⟩ := hs.cell (k := 0) (by omega)
    have hq0 : W4.cell? ⟨w.heap.size, 0, none⟩ = some (.pointer q) := hq
    have HT := Lib.hid ht
    clear hq hs hz4 ht
    go_wp2_with fail
    exact bodyPost_ret (v := .tuple #[.pointer q, .int .i64 (k : Int), .bool d, .int .i64 0]) (by simp [results, Try.results153, go_sem]) rfl ⟨HZ4.out, by rw [hg]; exact ⟨q, rfl, HT.out⟩⟩
/-- A slice of Bools in new memory, two numbers and a Bool. -/
def NewBo4 (w : World) (r : List Bool × Int × Bool × Int) (e : Ending) (w' : World) : Prop :=
  ∃ A c, e = .returned (.tuple #[.slice A r.1.length c, .int .i64 r.2.1, .bool r.2.2.1, .int .i64 r.2.2.2]) ∧ Own w' w.heap.size 4 1 A r.1.length c (bools r.1) ∧ Below w.heap.size w w'
set_option maxRecDepth 100000 in
set_option maxHeartbeats 4000000 in
theorem runWhileI_any (A : Option Addr) (n c : Nat) (ts : List Ce) (B : Option Addr) (m d : Nat) (xs : List Bool) (b : Int) (w : World) (hx : SC w A n ts) (hn : n ≤ 1048576) (hnc : n ≤ c) (hr : ∀ t ∈ ts, t.e.length ≤ 1048576) (hy : SB w B m xs) (hm : m ≤ 1048576) :
    Calls Try.prog 60 #[.slice A n c, .slice B m d, .int .i64 b] w (NewBo4 w (runWhF (cmds ts) xs b)) := by
  have hl : (cmds ts).length = n := by rw [cmds_len]; exact hx.len
  have HX := Lib.hid hx
  have HY := Lib.hid hy
  have HV := Lib.hid (validWhile_any A n c ts w hx hn hnc hr)
  have HT := Lib.hid (fun w' (z : Below w.heap.size w w') => isTree_any B m d xs w' (hy.below z) (by omega))
  cases hv : validWh (cmds ts) with
  | false =>
    have HF : Hid (runWhF (cmds ts) xs b = ([], 0, false, 1)) := Lib.hid (runWhF_bad (by rw [hv]; rfl))
    rw [hv] at HV
    clear hv hx hy hl
    go_enter Try.func60, Try.ntmps60
    go_wp2_with (go_at_call 133; refine HV.out.mono ?_; rintro e w' ⟨rfl, z⟩; have HZ := Lib.hid z)
    rw [HF.out]
    exact bodyPost_ret (v := .tuple #[.slice none 0 0, .int .i64 0, .bool false, .int .i64 1]) (by simp [results, Try.results60, go_sem]) rfl ⟨none, 0, rfl, Own.nil, HZ.out⟩
  | true =>
    cases ht : treeB xs with
    | false =>
      have HF : Hid (runWhF (cmds ts) xs b = ([], 0, false, 1)) := Lib.hid (runWhF_bad (by rw [hv, ht]; rfl))
      rw [hv] at HV
      rw [ht] at HT
      clear hv hx hy hl ht
      go_enter Try.func60, Try.ntmps60
      go_wp2_with (first | (go_at_call 133; refine HV.out.mono ?_; rintro e w2 ⟨rfl, z⟩; have HZ := Lib.hid z) | (go_at_call 80; refine (HT.out _ HZ.out).mono ?_; rintro e w' ⟨rfl, rfl⟩))
      rw [HF.out]
      exact bodyPost_ret (v := .tuple #[.slice none 0 0, .int .i64 0, .bool false, .int .i64 1]) (by simp [results, Try.results60, go_sem]) rfl ⟨none, 0, rfl, Own.nil, HZ.out⟩
    | true =>
      obtain ⟨h80, hpe, hpo⟩ := validWh_get hv
      obtain ⟨hte, htn⟩ := enc_trOf ht
      have hvt : (validWh (cmds ts) && treeB xs) = true := by rw [hv, ht]; rfl
      rw [hv] at HV
      rw [ht] at HT
      cases hb : inB b 1 20000 with
      | false =>
        have HF : Hid (runWhF (cmds ts) xs b = ([], 0, false, 2)) := Lib.hid (runWhF_range hvt hb)
        have HB := Lib.hid hb
        clear hv hx hy hl ht hb hpe hpo hte htn h80 hvt
        go_enter Try.func60, Try.ntmps60
        go_wp2_with (first | (go_at_call 133; refine HV.out.mono ?_; rintro e w2 ⟨rfl, z⟩; have HZ := Lib.hid z) | (go_at_call 80; refine (HT.out _ HZ.out).mono ?_; rintro e w' ⟨rfl, rfl⟩) | (go_at_call 143; refine (budgetOkW HB.out _).mono ?_; rintro e w' ⟨rfl, rfl⟩))
        rw [HF.out]
        exact bodyPost_ret (v := .tuple #[.slice none 0 0, .int .i64 0, .bool false, .int .i64 2]) (by simp [results, Try.results60, go_sem]) rfl ⟨none, 0, rfl, Own.nil, HZ.out⟩
      | true =>
        have HB := Lib.hid hb
        have hbb := (inB_iff _ _ _).1 hb
        obtain ⟨N, rfl⟩ : ∃ N : Nat, b = (N : Int) := ⟨b.toNat, by omega⟩
        obtain ⟨T, hTT⟩ : ∃ T, trOf xs = T := ⟨_, rfl⟩
        obtain ⟨P, hPP⟩ : ∃ P, pgOf (cmds ts) = P := ⟨_, rfl⟩
        rw [hTT] at hte htn
        rw [hPP] at hpe hpo
        have HFN : Hid (goW N 0 P [] (startW T) = none → runWhF (cmds ts) xs (N : Int) = ([], 0, false, 5)) := Lib.hid (fun h => runWhF_none hvt hb (by rw [Int.toNat_natCast, hPP, hTT]; exact h))
        have HFS : Hid (∀ s k d, goW N 0 P [] (startW T) = some (s, k, d) → runWhF (cmds ts) xs (N : Int) = ((s.getD 0 .nil).enc, (k : Int), d, 0)) := Lib.hid (fun s k d h => runWhF_some hvt hb (by rw [Int.toNat_natCast, hPP, hTT]; exact h))
        subst hte
        have HPE := Lib.hid hpe
        have HPO := Lib.hid hpo
        have HTN := Lib.hid htn
        have hn8 : n ≤ 80 := by rw [← hl]; exact h80
        have hN : N ≤ 20000 := by omega
        have hm2 : m ≤ 2000 := by have h5 := hy.len; rw [enc_len] at h5; omega
        clear hv hx hy hl ht hb hpe hpo htn h80 hvt hbb hTT hPP
        go_enter Try.func60, Try.ntmps60
        go_upto_region 5 with (first | (go_at_call 133; refine HV.out.mono ?_; rintro e w2 ⟨rfl, z⟩; have HZ := Lib.hid z) | (go_at_call 80; refine (HT.out _ HZ.out).mono ?_; rintro e w' ⟨rfl, rfl⟩) | (go_at_call 143; refine (budgetOkW HB.out _).mono ?_; rintro e w' ⟨rfl, rfl⟩))
        have HTO := Lib.hid (treeOf_any B m d T w2 (HY.out.below HZ.out) hm2)
        clear HV HT HB
        go_wp2_with fail
        refine HTO.out.mono ?_
        rintro e w3 ⟨p, rfl, hp, z3⟩
        have HZ3 := Lib.hid (HZ.out.trans (z3.mono HZ.out.size))
        have HRI := Lib.hid (runInput_any w3 A n c ts T p N P (HX.out.below HZ3.out) (by omega) HPE.out.symm HPO.out hp HTN.out (by omega))
        clear hp z3 HTO
        go_wp2_with fail
        refine HRI.out.mono ?_
        rintro e w4 ⟨hz4, hres⟩
        have HZ4 := Lib.hid (HZ3.out.trans (hz4.mono HZ3.out.size))
        cases hg : goW N 0 P [] (startW T) with
        | none =>
          have HF : Hid (runWhF (cmds ts) T.enc (N : Int) = ([], 0, false, 5)) := Lib.hid (HFN.out hg)
          rw [hg] at hres
          obtain ⟨q, rfl⟩ := hres
          clear hg hz4 HFN HFS
          go_wp2_with fail
          rw [HF.out]
          exact bodyPost_ret (v := .tuple #[.slice none 0 0, .int .i64 0, .bool false, .int .i64 5]) (by simp [results, Try.results60, go_sem]) rfl ⟨none, 0, rfl, Own.nil, HZ4.out⟩
        | some r =>
          obtain ⟨s, k, dd⟩ := r
          have HF : Hid (runWhF (cmds ts) T.enc (N : Int) = ((s.getD 0 .nil).enc, (k : Int), dd, 0)) := Lib.hid (HFS.out s k dd hg)
          have hsn := getD_nodes (goW_ok _ _ _ _ _ (startW_ok HTN.out) s k dd hg).1 0
          rw [hg] at hres
          obtain ⟨q, rfl, hq⟩ := hres
          have HLI := Lib.hid (list_any (s.getD 0 .nil) q w4 hq (by omega))
          obtain ⟨X, hX⟩ : ∃ X, (s.getD 0 .nil).enc = X := ⟨_, rfl⟩
          rw [hX] at HLI HF
          clear hg hz4 HFN HFS hq hsn hX
          go_wp2_with fail
          refine HLI.out.mono ?_
          rintro e w5 ⟨A5, c5, rfl, o5, z5⟩
          have HO5 := Lib.hid (o5.mono HZ4.out.size)
          have HZ5 := Lib.hid (HZ4.out.trans (z5.mono HZ4.out.size))
          clear o5 z5 HLI
          go_wp2_with fail
          rw [HF.out]
          exact bodyPost_ret (v := .tuple #[.slice A5 X.length c5, .int .i64 (k : Int), .bool dd, .int .i64 0]) (by simp [results, Try.results60, go_sem]) rfl ⟨A5, c5, rfl, HO5.out, HZ5.out⟩
end Go.Proofs.Ytpleclmlcojkdaa
