/-
  Contract of the reference's RunWhile.
-/
import Derived.Test.YtpleclmlcojkdaaRtI
import Derived.Test.YtpleclmlcojkdaaWmW
import Derived.Test.YtpleclmlcojkdaaBudS
import Derived.Test.YtpleclmlcojkdaaBase
import Derived.Test.YtpleclmlcojkdaaHelpP
import Derived.Test.YtpleclmlcojkdaaCm
import Derived.Deep.RegionHeld3
import Derived.Deep.DeepCutAuto
import Derived.BigGuardPart
import Derived.Test.YtpleclmlcojkdaaHelpBo
import Derived.Test.YtpleclmlcojkdaaHelpL
namespace Go.Proofs.Ytpleclmlcojkdaa
open Go.RowKit

theorem NowS.first {w : World} {lo c : Nat} {A : Option Addr} {s : List Tr} (h : NowS w lo A c s) (h6 : 0 < s.length) : ∃ b off A1 c1, A = some ⟨b, off, none⟩ ∧ w.cell? ⟨b, off, none⟩ = some (.slice A1 (s.getD 0 .nil).enc.length c1) ∧ Own w lo 4 1 A1 (s.getD 0 .nil).enc.length c1 (bools (s.getD 0 .nil).enc) := by
  obtain ⟨us, h1, h2⟩ := h
  obtain ⟨b, off, e, _, _, hc, _⟩ := h2.1.at_ (k := 0) (by rw [List.length_map, nums_len h1]; exact h6)
  obtain ⟨u, hu, ex⟩ := nums_get h1 (List.getElem?_eq_getElem h6)
  have hd : s.getD 0 .nil = s[0] := by rw [List.getD_eq_getElem?_getD, List.getElem?_eq_getElem h6]; rfl
  obtain ⟨hl, he⟩ := List.getElem?_eq_some_iff.1 hu
  have ho := h2.2.1 u (List.mem_of_getElem? hu)
  rw [hd, ← ex]
  refine ⟨b, off, u.A, u.c, e, ?_, ho⟩
  have hc' : w.cell? ⟨b, off, none⟩ = some ((us.map Bl.val)[0]'(by rw [List.length_map]; exact hl)) := hc
  rw [hc', List.getElem_map, he]
  rfl
set_option maxRecDepth 100000 in
set_option maxHeartbeats 4000000 in
theorem runWhileS_any (A : Option Addr) (n c : Nat) (ts : List Ce) (B : Option Addr) (m d : Nat) (xs : List Bool) (b : Int) (w : World) (hx : SC w A n ts) (hn : n ≤ 1048576) (hr : ∀ t ∈ ts, t.e.length ≤ 1048576) (hy : SB w B m xs) (hm : m ≤ 1048576) :
    Calls Try.prog 57 #[.slice A n c, .slice B m d, .int .i64 b] w (NewBo4 w (runWhF (cmds ts) xs b)) := by
  have hl : (cmds ts).length = n := by rw [cmds_len]; exact hx.len
  have HX := Lib.hid hx
  have HY := Lib.hid hy
  have HV := Lib.hid (l22Is_any A n c ts w hx hn hr)
  have HT := Lib.hid (fun w' (z : Below w.heap.size w w') => l21Is_any B m d xs w' (hy.below z) (by omega))
  cases hv : validWh (cmds ts) with
  | false =>
    have HF : Hid (runWhF (cmds ts) xs b = ([], 0, false, 1)) := Lib.hid (runWhF_bad (by rw [hv]; rfl))
    rw [hv] at HV
    clear hv hx hy hl
    go_enter Try.func57, Try.ntmps57
    go_wp2_with (go_at_call 147; refine HV.out.mono ?_; rintro e w' ⟨rfl, z⟩; have HZ := Lib.hid z)
    rw [HF.out]
    exact bodyPost_ret (v := .tuple #[.slice none 0 0, .int .i64 0, .bool false, .int .i64 1]) (by simp [results, Try.results57, go_sem]) rfl ⟨none, 0, rfl, Own.nil, HZ.out⟩
  | true =>
    cases ht : treeB xs with
    | false =>
      have HF : Hid (runWhF (cmds ts) xs b = ([], 0, false, 1)) := Lib.hid (runWhF_bad (by rw [hv, ht]; rfl))
      rw [hv] at HV
      rw [ht] at HT
      clear hv hx hy hl ht
      go_enter Try.func57, Try.ntmps57
      go_wp2_with (first | (go_at_call 147; refine HV.out.mono ?_; rintro e w2 ⟨rfl, z⟩; have HZ := Lib.hid z) | (go_at_call 148; refine (HT.out _ HZ.out).mono ?_; rintro e w' ⟨rfl, rfl⟩))
      rw [HF.out]
      exact bodyPost_ret (v := .tuple #[.slice none 0 0, .int .i64 0, .bool false, .int .i64 1]) (by simp [results, Try.results57, go_sem]) rfl ⟨none, 0, rfl, Own.nil, HZ.out⟩
    | true =>
      obtain ⟨h80, hpe, hpo⟩ := validWh_get hv
      obtain ⟨hte, htn⟩ := enc_trOf ht
      have hvt : (validWh (cmds ts) && treeB xs) = true := by rw [hv, ht]; rfl
      rw [hv] at HV
      rw [ht] at HT
      cases hb : inB b 1 20000 with
      | false =>
        have HF : Hid (runWhF (cmds ts) xs b = ([], 0, false, 2)) := Lib.hid (runWhF_range hvt hb)
        have HB := Lib.hid hb
        clear hv hx hy hl ht hb hpe hpo hte htn h80 hvt
        go_enter Try.func57, Try.ntmps57
        go_wp2_with (first | (go_at_call 147; refine HV.out.mono ?_; rintro e w2 ⟨rfl, z⟩; have HZ := Lib.hid z) | (go_at_call 148; refine (HT.out _ HZ.out).mono ?_; rintro e w' ⟨rfl, rfl⟩) | (go_at_call 149; refine (l05Budget_is HB.out _).mono ?_; rintro e w' ⟨rfl, rfl⟩))
        rw [HF.out]
        exact bodyPost_ret (v := .tuple #[.slice none 0 0, .int .i64 0, .bool false, .int .i64 2]) (by simp [results, Try.results57, go_sem]) rfl ⟨none, 0, rfl, Own.nil, HZ.out⟩
      | true =>
        have HB := Lib.hid hb
        have hbb := (inB_iff _ _ _).1 hb
        obtain ⟨N, rfl⟩ : ∃ N : Nat, b = (N : Int) := ⟨b.toNat, by omega⟩
        obtain ⟨T, hTT⟩ : ∃ T, trOf xs = T := ⟨_, rfl⟩
        obtain ⟨P, hPP⟩ : ∃ P, pgOf (cmds ts) = P := ⟨_, rfl⟩
        rw [hTT] at hte htn
        rw [hPP] at hpe hpo
        have HFN : Hid (goW N 0 P [] (startW T) = none → runWhF (cmds ts) xs (N : Int) = ([], 0, false, 5)) := Lib.hid (fun h => runWhF_none hvt hb (by rw [Int.toNat_natCast, hPP, hTT]; exact h))
        have HFS : Hid (∀ s k d, goW N 0 P [] (startW T) = some (s, k, d) → runWhF (cmds ts) xs (N : Int) = ((s.getD 0 .nil).enc, (k : Int), d, 0)) := Lib.hid (fun s k d h => runWhF_some hvt hb (by rw [Int.toNat_natCast, hPP, hTT]; exact h))
        subst hte
        have HPE := Lib.hid hpe
        have HPO := Lib.hid hpo
        have HTN := Lib.hid htn
        have hn8 : n ≤ 80 := by rw [← hl]; exact h80
        have hN : N ≤ 20000 := by omega
        clear hv hx hy hl ht hb hpe hpo htn h80 hvt hbb hTT hPP
        go_enter Try.func57, Try.ntmps57
        go_upto_region 5 with (first | (go_at_call 147; refine HV.out.mono ?_; rintro e w2 ⟨rfl, z⟩; have HZ := Lib.hid z) | (go_at_call 148; refine (HT.out _ HZ.out).mono ?_; rintro e w' ⟨rfl, rfl⟩) | (go_at_call 149; refine (l05Budget_is HB.out _).mono ?_; rintro e w' ⟨rfl, rfl⟩))
        have HSA := Lib.hid (l22Start_any B m d T w2 (HY.out.below HZ.out) (by have h1 := HY.out.len; rw [enc_len] at h1; have h2 := HTN.out; omega))
        clear HV HT HB
        go_wp2_with fail
        refine HSA.out.mono ?_
        rintro e w3 ⟨NA, nc, rfl, hnow, z3⟩
        have HZ3 := Lib.hid (HZ.out.trans (z3.mono HZ.out.size))
        have HRI := Lib.hid (l22Run_any w3 A n c ts NA nc (startW T) N P (HX.out.below HZ3.out) (by omega) HPE.out.symm HPO.out hnow.trd rfl (startW_ok HTN.out) (by omega))
        clear hnow z3 HSA
        go_wp2_with fail
        refine HRI.out.mono ?_
        rintro e w4 ⟨hz4, hres⟩
        have HZ4 := Lib.hid (HZ3.out.trans (hz4.mono HZ3.out.size))
        cases hg : goW N 0 P [] (startW T) with
        | none =>
          have HF : Hid (runWhF (cmds ts) T.enc (N : Int) = ([], 0, false, 5)) := Lib.hid (HFN.out hg)
          rw [hg] at hres
          obtain rfl := hres
          clear hg hz4 HFN HFS
          go_wp2_with fail
          rw [HF.out]
          exact bodyPost_ret (v := .tuple #[.slice none 0 0, .int .i64 0, .bool false, .int .i64 5]) (by simp [results, Try.results57, go_sem]) rfl ⟨none, 0, rfl, Own.nil, HZ4.out⟩
        | some r =>
          obtain ⟨s, k, dd⟩ := r
          have HF : Hid (runWhF (cmds ts) T.enc (N : Int) = ((s.getD 0 .nil).enc, (k : Int), dd, 0)) := Lib.hid (HFS.out s k dd hg)
          have hsl := (goW_ok _ _ _ _ _ (startW_ok HTN.out) s k dd hg).2
          rw [hg] at hres
          obtain ⟨RA, rc, rfl, hrs⟩ := hres
          obtain ⟨rb, ro, A5, c5, rfl, hc5, ho5⟩ := hrs.first (by rw [hsl]; exact Nat.succ_pos _)
          have HO5 := Lib.hid (ho5.mono HZ3.out.size)
          obtain ⟨X, hX⟩ : ∃ X, (s.getD 0 .nil).enc = X := ⟨_, rfl⟩
          rw [hX] at HF hc5 HO5
          obtain ⟨XL, hXL⟩ : ∃ XL, X.length = XL := ⟨_, rfl⟩
          have HXL := Lib.hid hXL
          rw [hXL] at hc5
          clear hg hz4 HFN HFS hrs hsl ho5 hX hXL
          go_wp2_with fail
          rw [HF.out]
          exact bodyPost_ret (v := .tuple #[.slice A5 XL c5, .int .i64 (k : Int), .bool dd, .int .i64 0]) (by simp [results, Try.results57, go_sem]) rfl ⟨A5, c5, by rw [HXL.out], HO5.out, HZ4.out⟩
end Go.Proofs.Ytpleclmlcojkdaa

/-
  Contracts of the laws' helpers over []Expr: szExprS, toExpr, toExprS, eqExpr, eqExprS, markExprS.
-/
namespace Go.Proofs.Ytpleclmlcojkdaa
open Go.RowKit

/-- Whether two elements are alike. -/
def sameX (x y : R2) : Bool := decide (x = y)


set_option maxHeartbeats 400000 in
theorem szEx (A : Option Addr) (n c : Nat) (left : Int) (w : World) (hn : n ≤ 9223372036854775807) (h0 : 0 ≤ left) (h1 : left ≤ 1048576) :
    Calls Try.prog 204 #[.slice A n c, .int .i64 left] w fun e w' => e = .returned (.int .i64 (szF left n)) ∧ w = w' := by
  by_cases h : left < n
  · have h2 : left - n < 0 := by omega
    go_enter Try.func204, Try.ntmps204
    go_wp2
    go_ret
    exact ⟨ret_int (by unfold szF; rw [if_pos h]), rfl⟩
  · have h2 : ¬ left - n < 0 := by omega
    go_enter Try.func204, Try.ntmps204
    go_wp2
    go_ret
    exact ⟨ret_int (by unfold szF; rw [if_neg (by omega)]), rfl⟩

set_option maxHeartbeats 400000 in
theorem toExpr_any (a b : Int) (w : World) :
    Calls Try.prog 227 #[.agg #[.int .i64 a, .int .i64 b]] w fun e w' => e = .returned (.agg #[.int .i64 a, .int .i64 b]) ∧ Below w.heap.size w w' := by
  go_enter Try.func227, Try.ntmps227
  go_wp2
  exact bodyPost_ret (v := .agg #[.int .i64 a, .int .i64 b]) (by simp [results, Try.results227, go_sem]) rfl ⟨rfl, (((Below.refl _ _).alloc (Nat.le_refl _) _).alloc (by simp) _).alloc (by simp; omega) _⟩

set_option maxHeartbeats 400000 in
theorem eqExpr_any (a b a' b' : Int) (w : World) :
    Calls Try.prog 228 #[.agg #[.int .i64 a, .int .i64 b], .agg #[.int .i64 a', .int .i64 b']] w fun e w' => e = .returned (.bool (sameX ⟨a, b⟩ ⟨a', b'⟩)) ∧ Below w.heap.size w w' := by
  have hb : Below w.heap.size w ((w.alloc (.cells #[.int .i64 a, .int .i64 b] 137)).alloc (.cells #[.int .i64 a', .int .i64 b'] 137)) := ((Below.refl _ _).alloc (Nat.le_refl _) _).alloc (by simp) _
  go_enter Try.func228, Try.ntmps228
  go_wp2
  all_goals go_ret
  all_goals exact ⟨ret_bool (by simp_all [sameX]), hb⟩

def ToEx (w : World) (n : Nat) (rs : List R2) (e : Ending) (w' : World) : Prop :=
  ∃ A, e = .returned (.slice A n n) ∧ Own w' w.heap.size 137 2 A n n (cells2 rs) ∧ Below w.heap.size w w'

set_option maxHeartbeats 1000000 in
theorem toEx (A : Option Addr) (n c : Nat) (rs : List R2) (w : World) (hx : S2 w A n rs) (hn : n ≤ 1048576) :
    Calls Try.prog 208 #[.slice A n c] w (ToEx w n rs) := by
  have HL := Lib.hid hx.len
  have hxl : n ≤ rs.length := by have := hx.len; omega
  have hxl' : rs.length ≤ n := by have := hx.len; omega
  go_enter Try.func208, Try.ntmps208
  go_wp2_with (at_make; refine wpList_make_Own rfl (.tmp 6) (.tmp 6) rfl elEx (n := n) (lo := w.heap.size) rfl rfl (by omega) (by unfold maxLen; omega) (Nat.le_refl _) ?_; intro w2 ho2 hb2 hs2)
  rw [made_cells2 n rs HL.out] at ho2
  have HS := Lib.hid hs2
  clear hs2
  go_loopw [4] (fun i wr => ∃ k : Nat, k ≤ n ∧ i = .int .i64 k ∧ Own wr w.heap.size 137 2 (some ⟨w.heap.size, 0, none⟩) n n (cells2 (copied2 rs k)) ∧ Below w.heap.size w wr) (fun i _ => n - (intOf i).toNat)
  case atStart => exact ⟨0, by omega, rfl, ho2, hb2⟩
  case round =>
    obtain ⟨k, hk, rfl, ho, hb⟩ := hrel
    by_cases hlt : k < n
    · obtain ⟨r, b, off, hr, _, rfl, hbl, q0, q1⟩ := (hx.below hb).pick hlt
      go_wp2_with fail
      refine (toExpr_any _ _ _).mono ?_
      rintro e w3 ⟨rfl, hb3⟩
      have ho3 := ho.below hb3
      have hll : n * 2 ≤ (cells2 (copied2 rs k)).length := by rw [length_cells2, length_copied2 _ _ (by omega)]; omega
      obtain ⟨b0, off0, he, hlo, hlt0, hc0, hf0⟩ := ho3.at_ (k := k * 2) (by omega)
      obtain ⟨b1, off1, he1, _, _, hc1, hf1⟩ := ho3.at_ (k := k * 2 + 1) (by omega)
      simp only [Option.some.injEq, Addr.mk.injEq, and_true] at he he1
      obtain ⟨rfl, rfl⟩ := he
      obtain ⟨rfl, rfl⟩ := he1
      have ho4 := (ho3.set_ (k := k * 2) (by omega) (.int .i64 r.a)).set_ (k := k * 2 + 1) (by rw [List.length_set]; omega) (.int .i64 r.b)
      rw [cells2_set (r := r) (by rw [length_copied2 _ _ (by omega)]; omega), copied2_next _ _ _ hr.out] at ho4
      simp only [Nat.zero_add] at hc0 hc1 hf0 hf1 ho4
      have hb4 := ((hb.trans (hb3.mono hb.size)).setCell (p := ⟨w.heap.size, k * 2, none⟩) (Nat.le_refl _) (.int .i64 r.a)).setCell (p := ⟨w.heap.size, k * 2 + 1, none⟩) (Nat.le_refl _) (.int .i64 r.b)
      clear q0 q1
      go_wp2_with fail
      exact ⟨⟨k + 1, by omega, by go_num, ho4, hb4⟩, by simp [intOf]; omega⟩
    · go_wp2
      go_ret
      have hoo := ho
      rw [copied2_end rs (by omega)] at hoo
      exact ⟨_, rfl, hoo, hb⟩

set_option maxHeartbeats 1000000 in
theorem eqEx (A B : Option Addr) (n m c d : Nat) (xs ys : List R2) (w : World) (hx : S2 w A n xs) (hy : S2 w B m ys) (hn : n ≤ 9223372036854775807) :
    Calls Try.prog 209 #[.slice A n c, .slice B m d] w fun e w' => e = .returned (.bool (same2 xs ys)) ∧ Below w.heap.size w w' := by
  by_cases hnm : n = m
  · subst hnm
    go_enter Try.func209, Try.ntmps209
    go_wp2
    go_loopw [5] (fun i wr => ∃ k : Nat, k ≤ n ∧ i = .int .i64 k ∧ Hid (xs.take k = ys.take k) ∧ Below w.heap.size w wr) (fun i _ => n - (intOf i).toNat)
    case atStart => exact ⟨0, by omega, rfl, rfl, Below.refl _ _⟩
    case round =>
      obtain ⟨k, hk, rfl, he, hb⟩ := hrel
      by_cases hlt : k < n
      · obtain ⟨x, b, off, hX, _, rfl, hbl, q0, q1⟩ := (hx.below hb).pick hlt
        obtain ⟨y, b', off', hY, _, rfl, hbl', q0', q1'⟩ := (hy.below hb).pick hlt
        go_upto_region 6 with fail
        go_cut [26] (fun s26 wx => s26 = .bool (!sameX x y) ∧ Below w.heap.size w wx)
        case first =>
          go_region_held3 (fun w' => w'.cell? ⟨b, off + k * 2, none⟩ = some (.int .i64 x.a) ∧ w'.cell? ⟨b, off + k * 2 + 1, none⟩ = some (.int .i64 x.b) ∧
              w'.cell? ⟨b', off' + k * 2, none⟩ = some (.int .i64 y.a) ∧ w'.cell? ⟨b', off' + k * 2 + 1, none⟩ = some (.int .i64 y.b))
            (first
              | (go_keep; done)
              | (exact ⟨(hb2.cell (p := ⟨b, off + k * 2, none⟩) hbl).trans q0, (hb2.cell (p := ⟨b, off + k * 2 + 1, none⟩) hbl).trans q1, (hb2.cell (p := ⟨b', off' + k * 2, none⟩) hbl').trans q0', (hb2.cell (p := ⟨b', off' + k * 2 + 1, none⟩) hbl').trans q1'⟩))
            (first
              | (go_at_call 228; refine (eqExpr_any _ _ _ _ _).mono ?_; rintro e w2 ⟨rfl, hb2'⟩; have hb2 : Below wr.heap.size wr w2 := below_undrew hb2'))
          go_wp2_with fail
          go_meet
          exact ⟨rfl, hb.trans (hb2.mono hb.size)⟩
        case rest =>
          obtain ⟨rfl, hb3⟩ := hcut
          clear q0 q1 q0' q1'
          go_wp2_with fail
          · go_ret
            exact ⟨ret_bool (same2_ne hX.out hY.out (by assumption)), hb3⟩
          · exact ⟨⟨k + 1, by omega, by go_num, same2_next hX.out hY.out he.out (by assumption), hb3⟩, by simp [intOf]; omega⟩
      · go_wp2
        go_ret
        exact ⟨ret_bool (same2_eq (by omega) hx.len hy.len he.out), hb⟩
  · have hne : ((n : Int) != (m : Int)) = true := by simp; omega
    go_enter Try.func209, Try.ntmps209
    go_wp2
    go_ret
    exact ⟨ret_bool (same2_len hnm hx.len hy.len), Below.refl _ _⟩

set_option maxHeartbeats 1000000 in
theorem markEx_m (T : List TypeId) (A : Option Addr) (n c : Nat) (m : Int) (w : World) (lo hi : Nat) (hx : Mk w lo hi 137 2 A n) (hT : 137 ∈ T) (h0 : 0 ≤ m) (h1 : m + n * 2 ≤ 9223372036854775807) :
    Calls Try.prog 155 #[.slice A n c, .int .i64 m] w (MarkP T w lo hi (n * 2) m) := by
  have HT := Lib.hid hT
  clear hT
  go_enter Try.func155, Try.ntmps155
  go_wp2
  go_loopw [1, 5] (fun q i wr => ∃ k : Nat, k ≤ n ∧ i = .int .i64 k ∧ q = .int .i64 (m + k * 2) ∧ Mk wr lo hi 137 2 A n ∧ MkF T lo hi w wr) (fun _ i _ => n - (intOf i).toNat)
  case atStart => exact ⟨0, by omega, rfl, by simp, hx, MkF.refl _ _ _ _⟩
  case round =>
    obtain ⟨k, hk, rfl, rfl, ho, ht⟩ := hrel
    by_cases hlt : k < n
    · obtain ⟨b, off, cur, v, rfl, hlo, hhi, hg, hc, hf⟩ := ho.at_ (k := k * 2) (by omega)
      obtain ⟨b1, off1, _, v1, he1, _, _, _, hc1, hf1⟩ := ho.at_ (k := k * 2 + 1) (by omega)
      simp only [Option.some.injEq, Addr.mk.injEq, and_true] at he1
      obtain ⟨rfl, rfl⟩ := he1
      have f1 := (MkF.refl T lo hi wr).setCell (i := off + k * 2) hg HT.out hlo hhi (.int .i64 (m + k * 2))
      have g1 := heap_setCell_same wr b (off + k * 2) cur _ (.int .i64 (m + k * 2)) hg
      have f2 := f1.setCell (i := off + k * 2 + 1) g1 HT.out hlo hhi (.int .i64 (m + k * 2 + 1))
      have HG := Lib.hid hg
      clear hg g1 f1
      rw [← Nat.add_assoc] at hc1 hf1
      have i1 : m + (k : Int) * 2 + 1 ≤ 9223372036854775806 := by omega
      go_wp2
      exact ⟨⟨k + 1, by omega, by go_num, by go_num, ho.mkf f2, ht.trans f2⟩, by simp [intOf]; omega⟩
    · go_wp2
      go_ret
      obtain rfl : k = n := by omega
      exact ⟨ret_int (by omega), ht⟩
theorem szEx_p (A : Option Addr) (n c : Nat) (left : Int) (w : World) (hn : n ≤ 9223372036854775807) (h0 : 0 ≤ left) (h1 : left ≤ 1048576) :
    Calls Try.prog 204 #[.slice A n c, .int .i64 left] w (SzP w left n) :=
  (szEx A n c left w hn h0 h1).mono fun _e _w' ⟨he, hw⟩ => ⟨_, he, (szF_p h0).1, (szF_p h0).2.1, (szF_p h0).2.2, hw ▸ Below.refl _ _⟩
end Go.Proofs.Ytpleclmlcojkdaa

/-
  Contracts of the laws' helpers over Command: szCommand, toCommand, eqCommand, markCommand.
-/
namespace Go.Proofs.Ytpleclmlcojkdaa
open Go.RowKit

set_option maxHeartbeats 400000 in
theorem szCommand_any (d0 : Int) (d1 : Int) (d2 : Int) (A0 : Option Addr) (n0 c0 : Nat) (left : Int) (w : World) (h0 : n0 ≤ 9223372036854775807) (g0 : 0 ≤ left) (g1 : left ≤ 1048576) :
    Calls Try.prog 146 #[.agg #[.int .i64 d0, .int .i64 d1, .int .i64 d2, .slice A0 n0 c0], .int .i64 left] w (SzP w left ((n0 : Int))) := by
  obtain ⟨W, hW⟩ : ∃ W, W = w.alloc (.cells #[.int .i64 d0, .int .i64 d1, .int .i64 d2, .slice A0 n0 c0] 156) := ⟨_, rfl⟩
  have b0 : Blk W w.heap.size 156 #[.int .i64 d0, .int .i64 d1, .int .i64 d2, .slice A0 n0 c0] := by rw [hW]; exact Blk.new w _ _
  have z0 : Below w.heap.size w W := by rw [hW]; exact (Below.refl _ _).alloc (Nat.le_refl _) _
  have HW := Lib.hid hW
  clear hW
  go_enter Try.func146, Try.ntmps146
  go_wp2_with fail
  rw [← HW.out]
  refine (szEx_p A0 n0 c0 left W h0 (by omega) (by omega)).mono ?_
  rintro e w1 ⟨z1, rfl, l1, u1, e1, b1⟩
  have E1 := Lib.hid e1
  clear e1
  have y1 : Below w.heap.size w w1 := z0.trans (b1.mono z0.size)
  by_cases hneg1 : z1 < 0
  · go_wp2_with fail
    go_ret
    exact ⟨-1, rfl, by omega, by omega, by omega, y1⟩
  go_wp2_with fail
  go_ret
  exact ⟨z1, rfl, by omega, by omega, fun _ => by have t1 := E1.out (by omega); omega, y1⟩

def ToCommand (w : World) (d0 : Int) (d1 : Int) (d2 : Int) (n0 : Nat) (x0 : List R2) (e : Ending) (w' : World) : Prop :=
  ∃ B0, e = .returned (.agg #[.int .i64 d0, .int .i64 d1, .int .i64 d2, .slice B0 n0 n0]) ∧ Own w' w.heap.size 137 2 B0 n0 n0 (cells2 x0) ∧ Below w.heap.size w w'

set_option maxHeartbeats 1000000 in
theorem toCommand_any (d0 : Int) (d1 : Int) (d2 : Int) (A0 : Option Addr) (n0 c0 : Nat) (x0 : List R2) (w : World) (r0 : S2 w A0 n0 x0) (h0 : n0 ≤ 1048576) :
    Calls Try.prog 152 #[.agg #[.int .i64 d0, .int .i64 d1, .int .i64 d2, .slice A0 n0 c0]] w (ToCommand w d0 d1 d2 n0 x0) := by
  obtain ⟨W, hW⟩ : ∃ W, W = ((w.alloc (.cells #[.int .i64 d0, .int .i64 d1, .int .i64 d2, .slice A0 n0 c0] 156)).alloc (.cells #[.int .i64 0, .int .i64 0, .int .i64 0, .slice none 0 0] 142)).alloc (.cells #[.int .i64 d0, .int .i64 d1, .int .i64 d2, .slice none 0 0] 142) := ⟨_, rfl⟩
  have s1 : (w.alloc (.cells #[.int .i64 d0, .int .i64 d1, .int .i64 d2, .slice A0 n0 c0] 156)).heap.size = w.heap.size + 1 := by simp
  have s2 : ((w.alloc (.cells #[.int .i64 d0, .int .i64 d1, .int .i64 d2, .slice A0 n0 c0] 156)).alloc (.cells #[.int .i64 0, .int .i64 0, .int .i64 0, .slice none 0 0] 142)).heap.size = w.heap.size + 1 + 1 := by simp
  have b0 : Blk W w.heap.size 156 #[.int .i64 d0, .int .i64 d1, .int .i64 d2, .slice A0 n0 c0] := by rw [hW]; exact ((Blk.new w _ _).alloc _).alloc _
  have b1 : Blk W (w.heap.size + 1) 142 #[.int .i64 0, .int .i64 0, .int .i64 0, .slice none 0 0] := by rw [hW, ← s1]; exact (Blk.new _ _ _).alloc _
  have b2 : Blk W (w.heap.size + 1 + 1) 142 #[.int .i64 d0, .int .i64 d1, .int .i64 d2, .slice none 0 0] := by rw [hW, ← s2]; exact Blk.new _ _ _
  have y0 : Below w.heap.size w W := by rw [hW]; exact (((Below.refl _ _).alloc (Nat.le_refl _) _).alloc (by simp) _).alloc (by simp; omega) _
  have hz : w.heap.size + 1 + 1 < W.heap.size := b2.lt
  have HW := Lib.hid hW
  clear hW s1 s2
  go_enter Try.func152, Try.ntmps152
  go_wp2_with fail
  rw [← HW.out]
  clear HW
  refine (toEx _ _ _ x0 _ (r0.below y0) h0).mono ?_
  rintro e w0 ⟨B0, rfl, o0, bz0⟩
  have b0 := b0.below' bz0
  have b1 := b1.below' bz0
  have b2 := b2.below' bz0
  have yc0 : Below w.heap.size w w0 := y0.trans (bz0.mono y0.size)
  have hw0 : W.heap.size ≤ w0.heap.size := by have := bz0.size; omega
  have p0 : w0.cell? ⟨w.heap.size + 1 + 1, 3, none⟩ = some (.slice none 0 0) := b2.cell 3
  have pf0 := b2.frozen 3
  have a0 : w0.cell? ⟨w.heap.size + 1 + 1, 0, none⟩ = some (.int .i64 d0) := b2.cell 0
  have a1 : w0.cell? ⟨w.heap.size + 1 + 1, 1, none⟩ = some (.int .i64 d1) := b2.cell 1
  have a2 : w0.cell? ⟨w.heap.size + 1 + 1, 2, none⟩ = some (.int .i64 d2) := b2.cell 2
  have c0_ : w0.cell? ⟨w.heap.size + 1, 0, none⟩ = some (.int .i64 0) := b1.cell 0
  have f0_ := b1.frozen 0
  have c1_ : w0.cell? ⟨w.heap.size + 1, 1, none⟩ = some (.int .i64 0) := b1.cell 1
  have f1_ := b1.frozen 1
  have c2_ : w0.cell? ⟨w.heap.size + 1, 2, none⟩ = some (.int .i64 0) := b1.cell 2
  have f2_ := b1.frozen 2
  have c3_ : w0.cell? ⟨w.heap.size + 1, 3, none⟩ = some (.slice none 0 0) := b1.cell 3
  have f3_ := b1.frozen 3
  go_wp2_with fail
  have dB : Blk (((((w0.setCell ⟨w.heap.size + 1 + 1, 3, none⟩ (.slice B0 n0 n0)).setCell ⟨w.heap.size + 1, 0, none⟩ (.int .i64 d0)).setCell ⟨w.heap.size + 1, 1, none⟩ (.int .i64 d1)).setCell ⟨w.heap.size + 1, 2, none⟩ (.int .i64 d2)).setCell ⟨w.heap.size + 1, 3, none⟩ (.slice B0 n0 n0)) (w.heap.size + 1) 142 #[.int .i64 d0, .int .i64 d1, .int .i64 d2, .slice B0 n0 n0] := ((((b1.far (p := ⟨w.heap.size + 1 + 1, 3, none⟩) (by simp) _).set_ 0 _).set_ 1 _).set_ 2 _).set_ 3 _
  have m0 : Own (((((w0.setCell ⟨w.heap.size + 1 + 1, 3, none⟩ (.slice B0 n0 n0)).setCell ⟨w.heap.size + 1, 0, none⟩ (.int .i64 d0)).setCell ⟨w.heap.size + 1, 1, none⟩ (.int .i64 d1)).setCell ⟨w.heap.size + 1, 2, none⟩ (.int .i64 d2)).setCell ⟨w.heap.size + 1, 3, none⟩ (.slice B0 n0 n0)) W.heap.size 137 2 B0 n0 n0 (cells2 x0) := ((((o0.far (fun e => by have := o0.blk_ge _ e; simp at this; omega) _).far (fun e => by have := o0.blk_ge _ e; simp at this; omega) _).far (fun e => by have := o0.blk_ge _ e; simp at this; omega) _).far (fun e => by have := o0.blk_ge _ e; simp at this; omega) _).far (fun e => by have := o0.blk_ge _ e; simp at this; omega) _
  have yf : Below w.heap.size w (((((w0.setCell ⟨w.heap.size + 1 + 1, 3, none⟩ (.slice B0 n0 n0)).setCell ⟨w.heap.size + 1, 0, none⟩ (.int .i64 d0)).setCell ⟨w.heap.size + 1, 1, none⟩ (.int .i64 d1)).setCell ⟨w.heap.size + 1, 2, none⟩ (.int .i64 d2)).setCell ⟨w.heap.size + 1, 3, none⟩ (.slice B0 n0 n0)) := ((((yc0.setCell (by simp; omega) _).setCell (by simp) _).setCell (by simp) _).setCell (by simp) _).setCell (by simp) _
  generalize ((((w0.setCell ⟨w.heap.size + 1 + 1, 3, none⟩ (.slice B0 n0 n0)).setCell ⟨w.heap.size + 1, 0, none⟩ (.int .i64 d0)).setCell ⟨w.heap.size + 1, 1, none⟩ (.int .i64 d1)).setCell ⟨w.heap.size + 1, 2, none⟩ (.int .i64 d2)).setCell ⟨w.heap.size + 1, 3, none⟩ (.slice B0 n0 n0) = wf at *
  have g0_ : wf.cell? ⟨w.heap.size + 1, 0, none⟩ = some (.int .i64 d0) := dB.cell 0
  have g1_ : wf.cell? ⟨w.heap.size + 1, 1, none⟩ = some (.int .i64 d1) := dB.cell 1
  have g2_ : wf.cell? ⟨w.heap.size + 1, 2, none⟩ = some (.int .i64 d2) := dB.cell 2
  have g3_ : wf.cell? ⟨w.heap.size + 1, 3, none⟩ = some (.slice B0 n0 n0) := dB.cell 3
  have hres : ToCommand w d0 d1 d2 n0 x0 (.returned (.agg #[.int .i64 d0, .int .i64 d1, .int .i64 d2, .slice B0 n0 n0])) wf := ⟨B0, rfl, m0.mono (by omega), yf⟩
  exact bodyPost_ret (v := .agg #[.int .i64 d0, .int .i64 d1, .int .i64 d2, .slice B0 n0 n0]) (by simp [results, Try.results152, go_sem, g0_, g1_, g2_, g3_]) rfl hres

def sameCommandB (d0 d0' : Int) (d1 d1' : Int) (d2 d2' : Int) (x0 x0' : List R2) : Bool :=
  decide (d0 = d0') && decide (d1 = d1') && decide (d2 = d2') && same2 x0 x0'
theorem sameCommandB_self (d0 : Int) (d1 : Int) (d2 : Int) (x0 : List R2) : sameCommandB d0 d0 d1 d1 d2 d2 x0 x0 = true := by simp [sameCommandB, same2]

set_option maxHeartbeats 1000000 in
theorem eqCommand_any (d0 : Int) (d1 : Int) (d2 : Int) (A0 : Option Addr) (n0 c0 : Nat) (x0 : List R2) (d0' : Int) (d1' : Int) (d2' : Int) (A0' : Option Addr) (n0' c0' : Nat) (x0' : List R2) (w : World) (r0 : S2 w A0 n0 x0) (r0' : S2 w A0' n0' x0') (h0 : n0 ≤ 1048576) :
    Calls Try.prog 154 #[.agg #[.int .i64 d0, .int .i64 d1, .int .i64 d2, .slice A0 n0 c0], .agg #[.int .i64 d0', .int .i64 d1', .int .i64 d2', .slice A0' n0' c0']] w fun e w' => e = .returned (.bool (sameCommandB d0 d0' d1 d1' d2 d2' x0 x0')) ∧ Below w.heap.size w w' := by
  obtain ⟨W, hW⟩ : ∃ W, W = (w.alloc (.cells #[.int .i64 d0, .int .i64 d1, .int .i64 d2, .slice A0 n0 c0] 142)).alloc (.cells #[.int .i64 d0', .int .i64 d1', .int .i64 d2', .slice A0' n0' c0'] 142) := ⟨_, rfl⟩
  have s1 : (w.alloc (.cells #[.int .i64 d0, .int .i64 d1, .int .i64 d2, .slice A0 n0 c0] 142)).heap.size = w.heap.size + 1 := by simp
  have b0 : Blk W w.heap.size 142 #[.int .i64 d0, .int .i64 d1, .int .i64 d2, .slice A0 n0 c0] := by rw [hW]; exact (Blk.new w _ _).alloc _
  have b1 : Blk W (w.heap.size + 1) 142 #[.int .i64 d0', .int .i64 d1', .int .i64 d2', .slice A0' n0' c0'] := by rw [hW, ← s1]; exact Blk.new _ _ _
  have y0 : Below w.heap.size w W := by rw [hW]; exact ((Below.refl _ _).alloc (Nat.le_refl _) _).alloc (by simp) _
  have HW := Lib.hid hW
  clear hW s1
  cases hd_d0 : (d0 != d0')
  · skip
    have HD_d0 := Lib.hid (show d0 = d0' by simpa using hd_d0)
    cases hd_d1 : (d1 != d1')
    · skip
      have HD_d1 := Lib.hid (show d1 = d1' by simpa using hd_d1)
      cases hd_d2 : (d2 != d2')
      · skip
        have HD_d2 := Lib.hid (show d2 = d2' by simpa using hd_d2)
        go_enter Try.func154, Try.ntmps154
        go_wp2_with fail
        rw [← HW.out]
        clear hd_d0 hd_d1 hd_d2
        refine (eqEx _ _ _ _ _ _ x0 x0' _ (r0.below y0) (r0'.below y0) (by omega)).mono ?_
        rintro e w0 ⟨rfl, bz0⟩
        have yy0 : Below w.heap.size w w0 := y0.trans (bz0.mono y0.size)
        have b0 := b0.below' bz0
        have b1 := b1.below' bz0
        cases hs0 : same2 x0 x0'
        · have HS := Lib.hid hs0
          clear hs0
          go_wp2_with fail
          go_ret
          exact ⟨ret_bool (by unfold sameCommandB; rw [HS.out]; simp), yy0⟩
        · skip
          have HS0 := Lib.hid hs0
          clear hs0
          go_wp2_with fail
          go_ret
          exact ⟨ret_bool (by unfold sameCommandB; rw [HS0.out]; simp [HD_d0.out, HD_d1.out, HD_d2.out]), yy0⟩
      · have HD := Lib.hid (show ¬ d2 = d2' by simpa using hd_d2)
        go_enter Try.func154, Try.ntmps154
        go_wp2_with fail
        rw [← HW.out]
        go_ret
        exact ⟨ret_bool (by unfold sameCommandB; simp [HD.out]), y0⟩
    · have HD := Lib.hid (show ¬ d1 = d1' by simpa using hd_d1)
      go_enter Try.func154, Try.ntmps154
      go_wp2_with fail
      rw [← HW.out]
      go_ret
      exact ⟨ret_bool (by unfold sameCommandB; simp [HD.out]), y0⟩
  · have HD := Lib.hid (show ¬ d0 = d0' by simpa using hd_d0)
    go_enter Try.func154, Try.ntmps154
    go_wp2_with fail
    rw [← HW.out]
    go_ret
    exact ⟨ret_bool (by unfold sameCommandB; simp [HD.out]), y0⟩

end Go.Proofs.Ytpleclmlcojkdaa

/-
  Contracts of the laws' helpers over []Command: szCommandS, toCommandS, eqCommandS, markCommandS.
-/
namespace Go.Proofs.Ytpleclmlcojkdaa
open Go.RowKit

theorem totE_take {ts : List Ce} {t : Ce} {k : Nat} (hT : ts[k]? = some t) : totE (ts.take (k + 1)) = totE (ts.take k) + t.e.length := by
  obtain ⟨h, rfl⟩ := List.getElem?_eq_some_iff.1 hT
  unfold totE; rw [List.take_succ_eq_append_getElem h, List.map_append, List.sum_append]; simp
theorem totE_take_le (ts : List Ce) (k : Nat) : totE (ts.take k) ≤ totE ts := by
  have e : totE ts = totE (ts.take k) + totE (ts.drop k) := by unfold totE; rw [← List.sum_append, ← List.map_append, List.take_append_drop]
  omega

set_option maxHeartbeats 1000000 in
theorem szCmS_p (A : Option Addr) (n c : Nat) (ts : List Ce) (left : Int) (w : World) (hx : SC w A n ts) (hn : n ≤ 9223372036854775807) (hr : ∀ t ∈ ts, t.e.length ≤ 9223372036854775807) (g0 : 0 ≤ left) (g1 : left ≤ 1048576) :
    Calls Try.prog 56 #[.slice A n c, .int .i64 left] w (SzP w left ((n : Int) + (totE ts : Int))) := by
  have HR := Lib.hid hr
  have HL := Lib.hid hx.len
  clear hr
  by_cases h : left < n
  · have h2 : left - n < 0 := by omega
    go_enter Try.func56, Try.ntmps56
    go_wp2
    go_ret
    exact ⟨-1, rfl, by omega, by omega, by omega, Below.refl _ _⟩
  have h2 : ¬ left - n < 0 := by omega
  go_enter Try.func56, Try.ntmps56
  go_wp2
  go_loopw [1, 5] (fun q i wr => ∃ (k : Nat) (z : Int), k ≤ n ∧ i = .int .i64 k ∧ q = .int .i64 z ∧ 0 ≤ z ∧ z ≤ left ∧ Hid (z = left - n - (totE (ts.take k) : Int)) ∧ Below w.heap.size w wr) (fun _ i _ => n - (intOf i).toNat)
  case atStart => exact ⟨0, left - n, Nat.zero_le _, rfl, rfl, by omega, by omega, Lib.hid (by simp [totE]), Below.refl _ _⟩
  case round =>
    obtain ⟨k, z, hk, rfl, rfl, z0, z1, HZ, hz⟩ := hrel
    by_cases hlt : k < n
    · obtain ⟨t, b, off, HT, htm, rfl, hbl, q0, q1, q2, q3, hre⟩ := (hx.below hz).pick hlt
      have hrl := HR.out t htm
      have HTO := Lib.hid (totE_take HT.out)
      have HLE := Lib.hid (totE_take_le ts (k + 1))
      have i1 : (0 : Int) ≤ (k : Int) := by omega
      have i2 : (k : Int) < (n : Int) := by omega
      go_wp2_with fail
      refine (szCommand_any _ _ _ _ _ _ _ _ hrl (by omega) (by omega)).mono ?_
      rintro e w3 ⟨z', rfl, l1, u1, e1, b1⟩
      have E1 := Lib.hid e1
      have hz3 := hz.trans (b1.mono hz.size)
      clear e1 b1 q0 q1 q2 q3 hre
      by_cases hneg : z' < 0
      · go_wp2_with fail
        go_ret
        exact ⟨-1, rfl, by omega, by omega, by omega, hz3⟩
      go_wp2_with fail
      go_roundw
      case rel => exact ⟨k + 1, z', by omega, by go_num, rfl, by omega, by omega, Lib.hid (by have h1 := E1.out (by omega); have h2 := HZ.out; have h3 := HTO.out; omega), hz3⟩
      case measure => (simp [intOf] <;> omega)
    · go_wp2_with fail
      go_ret
      exact ⟨z, rfl, by omega, by omega, fun _ => by have h2 := HZ.out; rw [List.take_of_length_le (by rw [HL.out]; omega)] at h2; omega, hz⟩

def ToCm (w : World) (n : Nat) (cs : List Cmd) (e : Ending) (w' : World) : Prop :=
  ∃ A us, e = .returned (.slice A n n) ∧ OC w' w.heap.size A n n us ∧ cmds us = cs ∧ Below w.heap.size w w'
set_option maxRecDepth 100000 in
set_option maxHeartbeats 4000000 in
theorem toCmS (A : Option Addr) (n c : Nat) (ts : List Ce) (w : World) (hx : SC w A n ts) (hn : n ≤ 1048576) (hr : ∀ t ∈ ts, t.e.length ≤ 1048576) :
    Calls Try.prog 58 #[.slice A n c] w (ToCm w n (cmds ts)) := by
  have HL := Lib.hid hx.len
  have HR := Lib.hid hr
  clear hr
  go_enter Try.func58, Try.ntmps58
  go_wp2_with (at_make; refine wpList_make_Own rfl (.tmp 6) (.tmp 6) rfl elCm (n := n) (lo := w.heap.size) rfl rfl (by omega) (by unfold maxLen; omega) (Nat.le_refl _) ?_; intro w2 ho2 hb2 hs2)
  rw [made_halfC n] at ho2
  clear hs2
  go_loopw [4] (fun i wr => ∃ (k : Nat) (us : List Ce), k ≤ n ∧ i = .int .i64 k ∧ Hid (us.length = k) ∧ Hid (cmds us = (cmds ts).take k) ∧ Own wr w.heap.size 142 4 (some ⟨w.heap.size, 0, none⟩) n n (halfC us (n - k)) ∧
    Hid (∀ u ∈ us, Own wr w.heap.size 137 2 u.A u.e.length u.c (cells2 u.e)) ∧ Below w.heap.size w wr) (fun i _ => n - (intOf i).toNat)
  case atStart => exact ⟨0, [], by omega, rfl, Lib.hid rfl, Lib.hid (by simp [cmds]), ho2, Lib.hid (fun _ h => absurd h (by simp)), hb2⟩
  case round =>
    obtain ⟨k, us, hk, rfl, hul, hnu, ho, hu, hb⟩ := hrel
    by_cases hlt : k < n
    · obtain ⟨t, b, off, HT, htm, rfl, hbl, q0, q1, q2, q3, hre⟩ := (hx.below hb).pick hlt
      have hrl := HR.out t htm
      have i1 : (0 : Int) ≤ (k : Int) := by omega
      have i2 : (k : Int) < (n : Int) := by omega
      go_wp2_with fail
      refine (toCommand_any _ _ _ _ _ _ t.e _ hre hrl).mono ?_
      rintro e w3 ⟨B0, rfl, o0, hb3⟩
      have hwz : w.heap.size < wr.heap.size := ho.blk_lt w.heap.size rfl
      have ho4 := ho.below hb3
      have hll : k * 4 + 3 < (halfC us (n - k)).length := by rw [halfC_len, hul.out]; omega
      obtain ⟨b0, off0, he, hlo, hlt0, hc0, hf0⟩ := ho4.at_ (k := k * 4) (by omega)
      obtain ⟨b1, off1, he1, _, _, hc1, hf1⟩ := ho4.at_ (k := k * 4 + 1) (by omega)
      obtain ⟨b2, off2, he2, _, _, hc2, hf2⟩ := ho4.at_ (k := k * 4 + 2) (by omega)
      obtain ⟨b3, off3, he3, _, _, hc3, hf3⟩ := ho4.at_ (k := k * 4 + 3) (by omega)
      simp only [Option.some.injEq, Addr.mk.injEq, and_true] at he he1 he2 he3
      obtain ⟨rfl, rfl⟩ := he
      obtain ⟨rfl, rfl⟩ := he1
      obtain ⟨rfl, rfl⟩ := he2
      obtain ⟨rfl, rfl⟩ := he3
      obtain ⟨u5, hu5⟩ : ∃ u5 : Ce, u5 = ⟨t.k, t.v, t.l, B0, t.e.length, t.e⟩ := ⟨_, rfl⟩
      have ho5 := (((ho4.set_ (k := k * 4) (by omega) (.int .i64 t.k)).set_ (k := k * 4 + 1) (by rw [List.length_set]; omega) (.int .i64 t.v)).set_ (k := k * 4 + 2) (by rw [List.length_set, List.length_set]; omega) (.int .i64 t.l)).set_ (k := k * 4 + 3) (by rw [List.length_set, List.length_set, List.length_set]; omega) (.slice B0 t.e.length t.e.length)
      have e5 := halfC_next us (n - (k + 1)) ⟨t.k, t.v, t.l, B0, t.e.length, t.e⟩
      rw [hul.out, show n - (k + 1) + 1 = n - k from by omega] at e5
      dsimp only at e5
      rw [e5] at ho5
      simp only [Nat.zero_add] at hc0 hc1 hc2 hc3 hf0 hf1 hf2 hf3 ho5
      have hb5 := ((((hb.trans (hb3.mono hb.size)).setCell (p := ⟨w.heap.size, k * 4, none⟩) (Nat.le_refl _) (.int .i64 t.k)).setCell (p := ⟨w.heap.size, k * 4 + 1, none⟩) (Nat.le_refl _) (.int .i64 t.v)).setCell (p := ⟨w.heap.size, k * 4 + 2, none⟩) (Nat.le_refl _) (.int .i64 t.l)).setCell (p := ⟨w.heap.size, k * 4 + 3, none⟩) (Nat.le_refl _) (.slice B0 t.e.length t.e.length)
      have HU5 : Hid (∀ u ∈ us ++ [(⟨t.k, t.v, t.l, B0, t.e.length, t.e⟩ : Ce)], Own ((((w3.setCell ⟨w.heap.size, k * 4, none⟩ (.int .i64 t.k)).setCell ⟨w.heap.size, k * 4 + 1, none⟩ (.int .i64 t.v)).setCell ⟨w.heap.size, k * 4 + 2, none⟩ (.int .i64 t.l)).setCell ⟨w.heap.size, k * 4 + 3, none⟩ (.slice B0 t.e.length t.e.length)) w.heap.size 137 2 u.A u.e.length u.c (cells2 u.e)) := Lib.hid (by
        intro u hum
        have key : ∀ {X : Option Addr} {m d : Nat} {cs : List Value}, Own w3 w.heap.size 137 2 X m d cs → Own ((((w3.setCell ⟨w.heap.size, k * 4, none⟩ (.int .i64 t.k)).setCell ⟨w.heap.size, k * 4 + 1, none⟩ (.int .i64 t.v)).setCell ⟨w.heap.size, k * 4 + 2, none⟩ (.int .i64 t.l)).setCell ⟨w.heap.size, k * 4 + 3, none⟩ (.slice B0 t.e.length t.e.length)) w.heap.size 137 2 X m d cs := by
          intro X m d cs o
          have hne : blk X ≠ some w.heap.size := fun e => Own.blk_ne o ho4 (by decide) _ e rfl
          exact (((o.far (p := ⟨w.heap.size, k * 4, none⟩) hne _).far (p := ⟨w.heap.size, k * 4 + 1, none⟩) hne _).far (p := ⟨w.heap.size, k * 4 + 2, none⟩) hne _).far (p := ⟨w.heap.size, k * 4 + 3, none⟩) hne _
        rcases List.mem_append.1 hum with h | h
        · exact key ((hu.out u h).below hb3)
        · rw [List.mem_singleton.1 h]
          exact key (o0.mono (by omega)))
      have HNU : Hid (cmds (us ++ [(⟨t.k, t.v, t.l, B0, t.e.length, t.e⟩ : Ce)]) = (cmds ts).take (k + 1)) := Lib.hid (cmds_take_next HT.out hnu.out rfl)
      have HUL : Hid ((us ++ [(⟨t.k, t.v, t.l, B0, t.e.length, t.e⟩ : Ce)]).length = k + 1) := Lib.hid (by rw [List.length_append, hul.out]; rfl)
      clear e5 ho4 ho hu5 q0 q1 q2 q3 hre o0
      go_wp2_with fail
      exact ⟨⟨k + 1, _, by omega, by go_num, HUL, HNU, ho5, HU5, hb5⟩, by simp [intOf]; omega⟩
    · go_wp2
      go_ret
      have e1 : n - k = 0 := by omega
      have hoo := ho
      rw [e1, halfC_end] at hoo
      refine ⟨_, us, rfl, ⟨hoo, fun u h => hu.out u h⟩, ?_, hb⟩
      rw [hnu.out, List.take_of_length_le (by rw [cmds_len, HL.out]; omega)]

/-- Whether two commands are alike. -/
def sameQ (x y : Cmd) : Bool := decide (x = y)
theorem sameQ_B (x y : Ce) : sameCommandB x.k y.k x.v y.v x.l y.l x.e y.e = sameQ x.cmd y.cmd := by
  unfold sameCommandB sameQ same2 Ce.cmd
  rw [Bool.eq_iff_iff]
  simp [and_assoc]
set_option maxRecDepth 100000 in
set_option maxHeartbeats 4000000 in
theorem eqCmS (A B : Option Addr) (n m c d : Nat) (ts us : List Ce) (w : World) (hx : SC w A n ts) (hy : SC w B m us) (hn : n ≤ 9223372036854775807) (hr : ∀ t ∈ ts, t.e.length ≤ 1048576) :
    Calls Try.prog 62 #[.slice A n c, .slice B m d] w fun e w' => e = .returned (.bool (sameC (cmds ts) (cmds us))) ∧ Below w.heap.size w w' := by
  have HR := Lib.hid hr
  clear hr
  by_cases hnm : n = m
  · subst hnm
    go_enter Try.func62, Try.ntmps62
    go_wp2
    go_loopw [5] (fun i wr => ∃ k : Nat, k ≤ n ∧ i = .int .i64 k ∧ Hid ((cmds ts).take k = (cmds us).take k) ∧ Below w.heap.size w wr) (fun i _ => n - (intOf i).toNat)
    case atStart => exact ⟨0, by omega, rfl, Lib.hid rfl, Below.refl _ _⟩
    case round =>
      obtain ⟨k, hk, rfl, he, hb⟩ := hrel
      by_cases hlt : k < n
      · obtain ⟨t, b, off, HT, htm, rfl, hbl, q0, q1, q2, q3, hre⟩ := (hx.below hb).pick hlt
        obtain ⟨u, b', off', HU, hum, rfl, hbl', q0', q1', q2', q3', hre'⟩ := (hy.below hb).pick hlt
        have hrl := HR.out t htm
        have HQ := Lib.hid (sameQ_B t u)
        go_upto_region 6 with fail
        go_cut [26] (fun s26 wx => s26 = .bool (!sameQ t.cmd u.cmd) ∧ Below w.heap.size w wx)
        case first =>
          go_region_held3 (fun w' => w'.cell? ⟨b, off + k * 4, none⟩ = some (.int .i64 t.k) ∧ w'.cell? ⟨b, off + k * 4 + 1, none⟩ = some (.int .i64 t.v) ∧ w'.cell? ⟨b, off + k * 4 + 2, none⟩ = some (.int .i64 t.l) ∧ w'.cell? ⟨b, off + k * 4 + 3, none⟩ = some (.slice t.A t.e.length t.c) ∧
              w'.cell? ⟨b', off' + k * 4, none⟩ = some (.int .i64 u.k) ∧ w'.cell? ⟨b', off' + k * 4 + 1, none⟩ = some (.int .i64 u.v) ∧ w'.cell? ⟨b', off' + k * 4 + 2, none⟩ = some (.int .i64 u.l) ∧ w'.cell? ⟨b', off' + k * 4 + 3, none⟩ = some (.slice u.A u.e.length u.c))
            (first
              | (go_keep; done)
              | (exact ⟨(hb2.cell (p := ⟨b, _, none⟩) hbl).trans q0, (hb2.cell (p := ⟨b, _, none⟩) hbl).trans q1, (hb2.cell (p := ⟨b, _, none⟩) hbl).trans q2, (hb2.cell (p := ⟨b, _, none⟩) hbl).trans q3, (hb2.cell (p := ⟨b', _, none⟩) hbl').trans q0', (hb2.cell (p := ⟨b', _, none⟩) hbl').trans q1', (hb2.cell (p := ⟨b', _, none⟩) hbl').trans q2', (hb2.cell (p := ⟨b', _, none⟩) hbl').trans q3'⟩))
            ((go_at_call 154; refine (eqCommand_any _ _ _ _ _ _ t.e _ _ _ _ _ _ u.e _ (hre.drewN 1) (hre'.drewN 1) hrl).mono ?_; rw [HQ.out]; rintro e w2 ⟨rfl, hb2'⟩; have hb2 : Below wr.heap.size wr w2 := below_undrew hb2'))
          go_wp2_with fail
          go_meet
          exact ⟨rfl, hb.trans (hb2.mono hb.size)⟩
        case rest =>
          obtain ⟨rfl, hb3⟩ := hcut
          clear q0 q1 q2 q3 q0' q1' q2' q3'
          go_wp2_with fail
          · go_ret
            exact ⟨ret_bool (sameC_ne HT.out HU.out (by assumption)), hb3⟩
          · exact ⟨⟨k + 1, by omega, by go_num, Lib.hid (sameC_next HT.out HU.out he.out (by assumption)), hb3⟩, by simp [intOf]; omega⟩
      · go_wp2
        go_ret
        exact ⟨ret_bool (sameC_eq (by omega) hx.len hy.len he.out), hb⟩
  · have hne : ((n : Int) != (m : Int)) = true := by simp; omega
    go_enter Try.func62, Try.ntmps62
    go_wp2
    go_ret
    exact ⟨ret_bool (by have := hx.len; have := hy.len; unfold sameC; symm; rw [decide_eq_false_iff_not]; intro h; have := congrArg List.length h; simp [cmds] at this; omega), Below.refl _ _⟩

theorem MkC.setq {w : World} {lo hi n c b off k j : Nat} {ts : List Ce} (h : MkC w lo hi (some ⟨b, off, none⟩) n c ts) {cur : Array Value} (hb : w.heap[b]? = some (.cells cur 142 (0, 0))) (hj : j < 3) (h1 : lo ≤ b) (h2 : b < hi) (u : Value) : MkC (w.setCell ⟨b, off + k * 4 + j, none⟩ u) lo hi (some ⟨b, off, none⟩) n c ts := by
  have hf : MkF [142] lo hi w (w.setCell ⟨b, off + k * 4 + j, none⟩ u) := (MkF.refl _ _ _ _).setCell hb (by simp) h1 h2 u
  refine ⟨h.1.mkf hf, fun i t hT => ?_, fun t ht => (h.2.2 t ht).mkf hf⟩
  obtain ⟨b', off', e, hc⟩ := h.2.1 i t hT
  cases e
  refine ⟨b, off, rfl, ?_⟩
  rw [World.cell?_setCell_other _ _ _ _ (by first | (simp; done) | (simp; omega))]
  exact hc
set_option maxRecDepth 100000 in
set_option maxHeartbeats 4000000 in
theorem markCmS_m (T : List TypeId) (A : Option Addr) (n c : Nat) (ts : List Ce) (m : Int) (w : World) (lo hi : Nat) (hx : MkC w lo hi A n c ts) (hl : ts.length = n) (hT : 142 ∈ T) (hT2 : 137 ∈ T) (hr : ∀ t ∈ ts, t.e.length ≤ 1048576) (hn : n ≤ 1048576) (ht : totE ts ≤ 1048576) (h0 : 0 ≤ m) (h1 : m ≤ 9223372036800000000) :
    Calls Try.prog 63 #[.slice A n c, .int .i64 m] w (MarkP T w lo hi (n * 3 + totE ts * 2) m) := by
  have HL := Lib.hid hl
  have HT := Lib.hid hT
  have HT2 := Lib.hid hT2
  have HR := Lib.hid hr
  clear hl hT hT2 hr
  go_enter Try.func63, Try.ntmps63
  go_wp2
  go_loopw [1, 5] (fun q i wr => ∃ k : Nat, k ≤ n ∧ i = .int .i64 k ∧ q = .int .i64 (m + ((k * 3 + totE (ts.take k) * 2 : Nat) : Int)) ∧ MkC wr lo hi A n c ts ∧ MkF T lo hi w wr) (fun _ i _ => n - (intOf i).toNat)
  case atStart => exact ⟨0, by omega, rfl, by simp [totE], hx, MkF.refl _ _ _ _⟩
  case round =>
    obtain ⟨k, hk, rfl, rfl, ho, hf⟩ := hrel
    by_cases hlt : k < n
    · have hkl : k < ts.length := by have := HL.out; omega
      obtain ⟨t, hT⟩ : ∃ t, ts[k]? = some t := ⟨ts[k], List.getElem?_eq_getElem hkl⟩
      have hmem : t ∈ ts := List.mem_of_getElem? hT
      have hrl := HR.out t hmem
      have HTO := Lib.hid (totE_take hT)
      have hle := totE_take_le ts (k + 1)
      have hle2 : totE (ts.take k) + t.e.length ≤ totE ts := by have := HTO.out; omega
      obtain ⟨p, hp⟩ : ∃ p, k * 3 + totE (ts.take k) * 2 = p := ⟨_, rfl⟩
      have hpb : p ≤ 6000000 := by omega
      have HP := Lib.hid hp
      obtain ⟨bb, oo, eA, hc3⟩ := ho.2.1 k t hT
      subst eA
      obtain ⟨b, off, cur, v0, e0, hlo, hhi, hg, hc0, hf0⟩ := ho.1.at_ (k := k * 4) (by omega)
      cases e0
      obtain ⟨_, _, _, v1, e1, _, _, _, hc1, hf1⟩ := ho.1.at_ (k := k * 4 + 1) (by omega)
      cases e1
      obtain ⟨_, _, _, v2, e2, _, _, _, hc2, hf2⟩ := ho.1.at_ (k := k * 4 + 2) (by omega)
      cases e2
      rw [← Nat.add_assoc] at hc1 hf1 hc2 hf2
      have m1 := ho.setq (k := k) (j := 0) hg (by omega) hlo hhi (.int .i64 (m + (p : Int)))
      have g1 := heap_setCell_same wr bb (oo + k * 4) cur _ (.int .i64 (m + (p : Int))) hg
      have m2 := m1.setq (k := k) (j := 1) g1 (by omega) hlo hhi (.int .i64 (m + (p : Int) + 1))
      have g2 := heap_setCell_same _ bb (oo + k * 4 + 1) _ _ (.int .i64 (m + (p : Int) + 1)) g1
      have m3 := m2.setq (k := k) (j := 2) g2 (by omega) hlo hhi (.int .i64 (m + (p : Int) + 1 + 1))
      have f1 := (MkF.refl T lo hi wr).setCell (i := oo + k * 4) hg HT.out hlo hhi (.int .i64 (m + (p : Int)))
      have f2 := f1.setCell (i := oo + k * 4 + 1) g1 HT.out hlo hhi (.int .i64 (m + (p : Int) + 1))
      have f3 := f2.setCell (i := oo + k * 4 + 2) g2 HT.out hlo hhi (.int .i64 (m + (p : Int) + 1 + 1))
      have HG := Lib.hid hg
      have M3 := Lib.hid m3
      have F3 := Lib.hid f3
      have i1 : (0 : Int) ≤ (k : Int) := by omega
      have i2 : (k : Int) < (n : Int) := by omega
      have w1 : IntKind.i64.wrap (m + (p : Int) + 1) = m + (p : Int) + 1 := IntWalk.i64_in _ (by omega)
      have w2 : IntKind.i64.wrap (m + (p : Int) + 1 + 1) = m + (p : Int) + 1 + 1 := IntWalk.i64_in _ (by omega)
      have w3 : IntKind.i64.wrap (m + (p : Int) + 1 + 1 + 1) = m + (p : Int) + 1 + 1 + 1 := IntWalk.i64_in _ (by omega)
      clear hg g1 g2 f1 f2 f3 m1 m2 m3 hT hle hp ho
      rw [HP.out]
      go_wp2_with (go_at_call 155; refine (markEx_m [137] _ _ _ _ _ lo hi (M3.out.2.2 t hmem) (by simp) (by omega) (by omega)).mono ?_; rintro e w4 ⟨rfl, hf4⟩; have HF4 := Lib.hid hf4)
      refine ⟨⟨k + 1, by omega, by go_num, ?_, M3.out.mkf HF4.out (by decide) (by have := HL.out; omega), (hf.trans F3.out).trans (HF4.out.mono (by intro e he; rw [List.mem_singleton.1 he]; exact HT2.out))⟩, by simp [intOf]; omega⟩
      have h2 := HTO.out
      have h3 := HP.out
      congr 1
      omega
    · go_wp2
      go_ret
      obtain rfl : k = n := by omega
      refine ⟨ret_int ?_, hf⟩
      rw [List.take_of_length_le (by have := HL.out; omega)]
end Go.Proofs.Ytpleclmlcojkdaa

/-
  The contracts of RunWhile as the law's walk takes them; the laws' helpers over []bool in one form.
-/
namespace Go.Proofs.Ytpleclmlcojkdaa
open Go.RowKit

theorem eqBo_b (A B : Option Addr) (n m c d : Nat) (xs ys : List Bool) (w : World) (hx : SB w A n xs) (hy : SB w B m ys) (hn : n ≤ 9223372036854775807) :
    Calls Try.prog 61 #[.slice A n c, .slice B m d] w fun e w' => e = .returned (.bool (sameBo xs ys)) ∧ Below w.heap.size w w' :=
  (eqBo A B n m c d xs ys w hx hy hn).mono fun _ _ ⟨he, q, hq⟩ => ⟨he, hq ▸ below_drewN (Below.refl _ _) q⟩
theorem heldBo_b (A : Option Addr) (n c : Nat) (xs : List Bool) (m : Int) (w : World) (hx : SB w A n xs) (h0 : 0 ≤ m) (h1 : m + n ≤ 9223372036854775807) : Calls Try.prog 65 #[.slice A n c, .int .i64 m] w fun e w' => e = .returned (.int .i64 (heldBF m xs)) ∧ Below w.heap.size w w' := (heldBo A n c xs m w hx h0 h1).mono fun _ _ ⟨he, hq⟩ => ⟨he, hq ▸ Below.refl _ _⟩
theorem rwS_any (A : Option Addr) (n c : Nat) (ts : List Ce) (B : Option Addr) (m d : Nat) (xs : List Bool) (b : Int) (w : World) (hx : SC w A n ts) (hy : SB w B m xs) (hn : n ≤ 1048576) (hr : ∀ t ∈ ts, t.e.length ≤ 1048576) (hm : m ≤ 1048576) :
    Calls Try.prog 57 #[.slice A n c, .slice B m d, .int .i64 b] w (NewBo4 w (runWhF (cmds ts) xs b)) := runWhileS_any A n c ts B m d xs b w hx hn hr hy hm
theorem rwI_any (A : Option Addr) (n c : Nat) (ts : List Ce) (B : Option Addr) (m d : Nat) (xs : List Bool) (b : Int) (w : World) (hx : SC w A n ts) (hy : SB w B m xs) (hn : n ≤ 1048576) (hr : ∀ t ∈ ts, t.e.length ≤ 1048576) (hm : m ≤ 1048576) (hnc : n ≤ c) :
    Calls Try.prog 60 #[.slice A n c, .slice B m d, .int .i64 b] w (NewBo4 w (runWhF (cmds ts) xs b)) := runWhileI_any A n c ts B m d xs b w hx hn hnc hr hy hm
end Go.Proofs.Ytpleclmlcojkdaa

/-
  The walk of the law FnExactRunWhile: it returns true, and nothing that was there before has turned.
-/
namespace Go.Proofs.Ytpleclmlcojkdaa
open Go.RowKit

set_option maxRecDepth 100000 in
set_option maxHeartbeats 16000000 in
theorem lawRunWhile (A0 : Option Addr) (n0 c0 : Nat) (ts0 : List Ce) (A1 : Option Addr) (n1 c1 : Nat) (xs1 : List Bool) (b2 : Int) (w : World) (hx0 : SC w A0 n0 ts0) (hx1 : SB w A1 n1 xs1)  (hb0 : n0 ≤ 9223372036854775807) (hbr0 : ∀ t ∈ ts0, t.e.length ≤ 9223372036854775807) (hb1 : n1 ≤ 9223372036854775807)  :
    Calls Try.prog 7 #[.slice A0 n0 c0, .slice A1 n1 c1, .int .i64 b2] w fun e w' => e = .returned (.bool true) ∧ Below w.heap.size w w' := by
  have HBR0 := Lib.hid hbr0
  clear hbr0
  by_cases hbig1 : 1048576 < n1
  · have hbig' : (1048576 : Int) < (n1 : Int) := by omega
    go_enter Try.func7, Try.ntmps7
    go_wp2_with fail
    go_ret
    exact ⟨rfl, Below.refl _ _⟩
  have hbig1' : ¬ (1048576 : Int) < (n1 : Int) := by omega
  have p1 : n1 ≤ 1048576 := by omega
  go_enter Try.func7, Try.ntmps7
  go_wp2_with fail
  refine (szCmS_p _ _ _ ts0 _ _ hx0 hb0 HBR0.out (by omega) (by omega)).mono ?_
  rintro e W1 ⟨v1, rfl, va1, vb1, vc1, z1⟩
  have VC1 := Lib.hid vc1
  clear vc1
  by_cases hneg1 : v1 < 0
  · go_wp2_with fail
    go_ret
    exact ⟨rfl, z1⟩
  have hsm : n0 ≤ 1048576 ∧ totE ts0 ≤ 1048576 := by
    have t1 := VC1.out (by omega)
    omega
  obtain ⟨p0, pt0⟩ := hsm
  have HR0 : Hid (∀ t ∈ ts0, t.e.length ≤ 1048576) := Lib.hid (fun t ht => by have := totE_row ht; omega)
  clear HBR0
  clear VC1
  go_wp2_with fail
  refine (toCmS _ _ _ ts0 _ (hx0.below z1) p0 HR0.out).mono ?_
  rintro e W2 ⟨B2, us2, rfl, o2, hn2, z2⟩
  have HN2 := Lib.hid hn2; clear hn2
  go_wp2_with fail
  have yw_W2 : Below w.heap.size w W2 := z1.trans (z2.mono z1.size)
  refine (toBo _ _ _ xs1 _ (hx1.below yw_W2) p1).mono ?_
  rintro e W3 ⟨B3, rfl, o3, z3⟩
  go_wp2_with fail
  refine (rwS_any _ _ _ us2 _ _ _ xs1 _ _ (o2.below z3).sc o3.rd p0 (cmds_rows HN2.out HR0.out) p1).mono ?_
  rw [HN2.out]
  obtain ⟨res, hres⟩ : ∃ res, res = runWhF (cmds ts0) xs1 b2 := ⟨_, rfl⟩
  rw [← hres]
  have HRES := Lib.hid hres
  clear hres
  rintro e W4 ⟨A4r, c4r, rfl, oR4, z4⟩
  have hlen : res.1.length ≤ 1048576 := by rw [HRES.out]; exact (Nat.le_trans (runWhF_len (cmds ts0) xs1 b2) (by decide))
  have lx0 := hlen
  go_wp2_with fail
  have yw_W3 : Below w.heap.size w W3 := yw_W2.trans (z3.mono yw_W2.size)
  have yw_W4 : Below w.heap.size w W4 := yw_W3.trans (z4.mono yw_W3.size)
  refine (toCmS _ _ _ ts0 _ (hx0.below yw_W4) p0 HR0.out).mono ?_
  rintro e W5 ⟨B5, us5, rfl, o5, hn5, z5⟩
  have HN5 := Lib.hid hn5; clear hn5
  go_wp2_with fail
  have yw_W5 : Below w.heap.size w W5 := yw_W4.trans (z5.mono yw_W4.size)
  refine (toBo _ _ _ xs1 _ (hx1.below yw_W5) p1).mono ?_
  rintro e W6 ⟨B6, rfl, o6, z6⟩
  go_wp2_with fail
  refine (rwI_any _ _ _ us5 _ _ _ xs1 _ _ (o5.below z6).sc o6.rd p0 (cmds_rows HN5.out HR0.out) p1 (Nat.le_refl _)).mono ?_
  rw [HN5.out, ← HRES.out]
  rintro e W7 ⟨A7r, c7r, rfl, oR7, z7⟩
  have yW4_W6 : Below W4.heap.size W4 W6 := z5.trans (z6.mono z5.size)
  have yW4_W7 : Below W4.heap.size W4 W7 := yW4_W6.trans (z7.mono yW4_W6.size)
  go_wp2_with fail
  refine (eqBo_b _ _ _ _ _ _ res.1 res.1 _ oR7.rd (oR4.below yW4_W7).rd (by omega)).mono ?_
  rintro e W8 ⟨rfl, z8⟩
  rw [sameBo_self]
  have yw_W6 : Below w.heap.size w W6 := yw_W5.trans (z6.mono yw_W5.size)
  have yw_W7 : Below w.heap.size w W7 := yw_W6.trans (z7.mono yw_W6.size)
  have yw_W8 : Below w.heap.size w W8 := yw_W7.trans (z8.mono yw_W7.size)
  go_wp2_with fail
  refine (toCmS _ _ _ ts0 _ (hx0.below yw_W8) p0 HR0.out).mono ?_
  rintro e W9 ⟨B9, us9, rfl, o9, hn9, z9⟩
  have HN9 := Lib.hid hn9; clear hn9
  have yW5_W7 : Below W5.heap.size W5 W7 := z6.trans (z7.mono z6.size)
  have yW5_W8 : Below W5.heap.size W5 W8 := yW5_W7.trans (z8.mono yW5_W7.size)
  have yW5_W9 : Below W5.heap.size W5 W9 := yW5_W8.trans (z9.mono yW5_W8.size)
  go_wp2_with fail
  refine (eqCmS _ _ _ _ _ _ us5 us9 _ (o5.below yW5_W9).sc o9.sc (by omega) (cmds_rows HN5.out HR0.out)).mono ?_
  rintro e W10 ⟨rfl, z10⟩
  rw [HN5.out, HN9.out, sameC_self]
  have yw_W9 : Below w.heap.size w W9 := yw_W8.trans (z9.mono yw_W8.size)
  have yw_W10 : Below w.heap.size w W10 := yw_W9.trans (z10.mono yw_W9.size)
  go_wp2_with fail
  refine (toBo _ _ _ xs1 _ (hx1.below yw_W10) p1).mono ?_
  rintro e W11 ⟨B11, rfl, o11, z11⟩
  have yW6_W8 : Below W6.heap.size W6 W8 := z7.trans (z8.mono z7.size)
  have yW6_W9 : Below W6.heap.size W6 W9 := yW6_W8.trans (z9.mono yW6_W8.size)
  have yW6_W10 : Below W6.heap.size W6 W10 := yW6_W9.trans (z10.mono yW6_W9.size)
  have yW6_W11 : Below W6.heap.size W6 W11 := yW6_W10.trans (z11.mono yW6_W10.size)
  go_wp2_with fail
  refine (eqBo_b _ _ _ _ _ _ xs1 xs1 _ (o6.below yW6_W11).rd o11.rd (by omega)).mono ?_
  rintro e W12 ⟨rfl, z12⟩
  rw [sameBo_self]
  have TI_CM : Hid (142 ∈ [142, 137, 4]) := Lib.hid (by decide)
  have TI_EX : Hid (137 ∈ [142, 137, 4]) := Lib.hid (by decide)
  have TI_BO : Hid (4 ∈ [142, 137, 4]) := Lib.hid (by decide)
  have hs_W2 : W1.heap.size ≤ W2.heap.size := z2.size
  have hs_W3 : W2.heap.size ≤ W3.heap.size := z3.size
  have hs_W4 : W3.heap.size ≤ W4.heap.size := z4.size
  have hs_W5 : W4.heap.size ≤ W5.heap.size := z5.size
  have hs_W6 : W5.heap.size ≤ W6.heap.size := z6.size
  have hs_W7 : W6.heap.size ≤ W7.heap.size := z7.size
  have hs_W8 : W7.heap.size ≤ W8.heap.size := z8.size
  have hs_W9 : W8.heap.size ≤ W9.heap.size := z9.size
  have hs_W10 : W9.heap.size ≤ W10.heap.size := z10.size
  have hs_W11 : W10.heap.size ≤ W11.heap.size := z11.size
  have hs_W12 : W11.heap.size ≤ W12.heap.size := z12.size
  have yW5_W10 : Below W5.heap.size W5 W10 := yW5_W9.trans (z10.mono yW5_W9.size)
  have yW5_W11 : Below W5.heap.size W5 W11 := yW5_W10.trans (z11.mono yW5_W10.size)
  have yW5_W12 : Below W5.heap.size W5 W12 := yW5_W11.trans (z12.mono yW5_W11.size)
  have lu0 : us5.length = n0 := o5.sc.len
  have m0 : MkC W12 W4.heap.size W6.heap.size B5 n0 n0 us5 := ((o5.mono (by omega)).mk (by omega)).below yW5_W12 (by omega)
  have pu0 : totE us5 ≤ 1048576 := by rw [totE_same HN5.out]; exact pt0
  have yW6_W12 : Below W6.heap.size W6 W12 := yW6_W11.trans (z12.mono yW6_W11.size)
  have m1 : Mk W12 W4.heap.size W6.heap.size 4 1 B6 n1 := (((o6.below yW6_W12)).mono (by omega)).mk (fun b hb => by have := o6.blk_lt b hb; omega)
  have yw_W11 : Below w.heap.size w W11 := yw_W10.trans (z11.mono yw_W10.size)
  have yw_W12 : Below w.heap.size w W12 := yw_W11.trans (z12.mono yw_W11.size)
  have yW7_W9 : Below W7.heap.size W7 W9 := z8.trans (z9.mono z8.size)
  have yW7_W10 : Below W7.heap.size W7 W10 := yW7_W9.trans (z10.mono yW7_W9.size)
  have yW7_W11 : Below W7.heap.size W7 W11 := yW7_W10.trans (z11.mono yW7_W10.size)
  have yW7_W12 : Below W7.heap.size W7 W12 := yW7_W11.trans (z12.mono yW7_W11.size)
  have yW4_W8 : Below W4.heap.size W4 W8 := yW4_W7.trans (z8.mono yW4_W7.size)
  have yW4_W9 : Below W4.heap.size W4 W9 := yW4_W8.trans (z9.mono yW4_W8.size)
  have yW4_W10 : Below W4.heap.size W4 W10 := yW4_W9.trans (z10.mono yW4_W9.size)
  have yW4_W11 : Below W4.heap.size W4 W11 := yW4_W10.trans (z11.mono yW4_W10.size)
  have yW4_W12 : Below W4.heap.size W4 W12 := yW4_W11.trans (z12.mono yW4_W11.size)
  have io0 := (oR7.below yW7_W12)
  have so0 := (oR4.below yW4_W12)
  go_wp2_with fail
  refine (markCmS_m [142, 137, 4] _ _ _ us5 _ _ W4.heap.size W6.heap.size m0 lu0 TI_CM.out TI_EX.out (cmds_rows HN5.out HR0.out) p0 pu0 (by omega) (by omega)).mono ?_
  rintro e W13 ⟨rfl, f13⟩
  go_wp2_with fail
  refine (markBo_m [142, 137, 4] _ _ _ _ _ W4.heap.size W6.heap.size (m1.mkf f13) TI_BO.out (by omega) (by omega)).mono ?_
  rintro e W14 ⟨rfl, f14⟩
  have ff14 := f13.trans f14
  have io0 := io0.mkf_far ff14 (fun b hb => .inr (oR7.blk_ge b hb))
  have so0 := so0.mkf_far ff14 (fun b hb => .inl (by have := oR4.blk_lt b hb; omega))
  have yM : Below w.heap.size w W14 := yw_W12.trans (ff14.below yw_W4.size yw_W12.size)
  have hs_W14 : W12.heap.size ≤ W14.heap.size := ff14.size
  clear ff14
  have gneg : ¬ ((1 : Int) + ((n0 * 3 + totE us5 * 2 : Nat) : Int) + (n1 : Int) < 0) := by omega
  go_wp2_with fail
  refine (eqBo_b _ _ _ _ _ _ res.1 res.1 _ io0.rd so0.rd (by omega)).mono ?_
  rintro e W15 ⟨rfl, z15⟩
  rw [sameBo_self]
  clear gneg
  have hs_W15 : W14.heap.size ≤ W15.heap.size := z15.size
  go_wp2_with fail
  refine (markBo _ _ _ res.1 _ _ W6.heap.size W7.heap.size (.inr (io0.below z15)) (fun b hb => oR7.blk_lt b hb) (by omega) (by omega)).mono ?_
  rintro e W16 ⟨rfl, eR, t16, _⟩
  have so0 := (so0.below z15).touch t16 (fun b hb => .inl (by have := oR4.blk_lt b hb; omega))
  have yw_W15 : Below w.heap.size w W15 := yM.trans (z15.mono yM.size)
  have hlow : w.heap.size ≤ W6.heap.size := by have := yw_W4.size; omega
  have yN : Below w.heap.size w W16 := yw_W15.trans (t16.below hlow yw_W15.size)
  have hs_W16 : W15.heap.size ≤ W16.heap.size := t16.size
  clear t16
  go_wp2_with fail
  refine (heldBo_b _ _ _ (marksB 1 res.1.length) _ _ eR.si (by omega) (by omega)).mono ?_
  rintro e W17 ⟨rfl, z17⟩
  rw [heldBF_marks]
  have gneg : ¬ ((1 : Int) + (res.1.length : Int) < 0) := by omega
  have yw_W17 : Below w.heap.size w W17 := yN.trans (z17.mono yN.size)
  go_wp2_with fail
  refine (toCmS _ _ _ ts0 _ (hx0.below yw_W17) p0 HR0.out).mono ?_
  rintro e W18 ⟨B18, us18, rfl, o18, hn18, z18⟩
  have HN18 := Lib.hid hn18; clear hn18
  go_wp2_with fail
  have yw_W18 : Below w.heap.size w W18 := yw_W17.trans (z18.mono yw_W17.size)
  refine (toBo _ _ _ xs1 _ (hx1.below yw_W18) p1).mono ?_
  rintro e W19 ⟨B19, rfl, o19, z19⟩
  go_wp2_with fail
  refine (rwI_any _ _ _ us18 _ _ _ xs1 _ _ (o18.below z19).sc o19.rd p0 (cmds_rows HN18.out HR0.out) p1 (Nat.le_refl _)).mono ?_
  rw [HN18.out]
  rw [← HRES.out]
  rintro e W20 ⟨A20r, c20r, rfl, oR20, z20⟩
  have yW16_W18 : Below W16.heap.size W16 W18 := z17.trans (z18.mono z17.size)
  have yW16_W19 : Below W16.heap.size W16 W19 := yW16_W18.trans (z19.mono yW16_W18.size)
  have yW16_W20 : Below W16.heap.size W16 W20 := yW16_W19.trans (z20.mono yW16_W19.size)
  go_wp2_with fail
  refine (eqBo_b _ _ _ _ _ _ res.1 res.1 _ oR20.rd (so0.below yW16_W20).rd (by omega)).mono ?_
  rintro e W21 ⟨rfl, z21⟩
  rw [sameBo_self]
  go_wp2_with fail
  have yW16_W21 : Below W16.heap.size W16 W21 := yW16_W20.trans (z21.mono yW16_W20.size)
  refine (heldBo_b _ _ _ (marksB 1 res.1.length) _ _ (eR.below yW16_W21).si (by omega) (by omega)).mono ?_
  rintro e W22 ⟨rfl, z22⟩
  rw [heldBF_marks]
  have yw_W19 : Below w.heap.size w W19 := yw_W18.trans (z19.mono yw_W18.size)
  have yw_W20 : Below w.heap.size w W20 := yw_W19.trans (z20.mono yw_W19.size)
  have yw_W21 : Below w.heap.size w W21 := yw_W20.trans (z21.mono yw_W20.size)
  have yw_W22 : Below w.heap.size w W22 := yw_W21.trans (z22.mono yw_W21.size)
  go_wp2_with fail
  go_ret
  exact ⟨rfl, yw_W22⟩
end Go.Proofs.Ytpleclmlcojkdaa
