/-
  Contracts of the laws' helpers over []Rule: szRuleS, toRule, toRuleS, eqRule, eqRuleS, markRuleS.
-/
import Derived.Test.YthipbeggaeogcaaHelpA
import Derived.Test.YthipbeggaeogcaaWords3
import Derived.Deep.RegionHeld3
import Derived.Deep.DeepCutAuto
namespace Go.Proofs.Ythipbeggaeogcaa
open Go.RowKit

theorem elR : Elem Try.prog 80 169 3 24 (.agg #[.int .i64 0, .int .i64 0, .int .i64 0]) := ⟨Try.underlying80, by kernel_rfl, rfl, by decide⟩

set_option maxHeartbeats 400000 in
theorem szR (A : Option Addr) (n c : Nat) (left : Int) (w : World) (hn : n ≤ 9223372036854775807) (h0 : 0 ≤ left) (h1 : left ≤ 1048576) :
    Calls Try.prog 116 #[.slice A n c, .int .i64 left] w fun e w' => e = .returned (.int .i64 (szF left n)) ∧ w = w' := by
  by_cases h : left < n
  · have h2 : left - n < 0 := by omega
    go_enter Try.func116, Try.ntmps116
    go_wp2
    go_ret
    exact ⟨ret_int (by unfold szF; rw [if_pos h]), rfl⟩
  · have h2 : ¬ left - n < 0 := by omega
    go_enter Try.func116, Try.ntmps116
    go_wp2
    go_ret
    exact ⟨ret_int (by unfold szF; rw [if_neg (by omega)]), rfl⟩

set_option maxHeartbeats 400000 in
theorem toRule_any (a b c : Int) (w : World) :
    Calls Try.prog 163 #[.agg #[.int .i64 a, .int .i64 b, .int .i64 c]] w fun e w' => e = .returned (.agg #[.int .i64 a, .int .i64 b, .int .i64 c]) ∧ Below w.heap.size w w' := by
  go_enter Try.func163, Try.ntmps163
  go_wp2
  exact bodyPost_ret (v := .agg #[.int .i64 a, .int .i64 b, .int .i64 c]) (by simp [results, Try.results163, go_sem]) rfl ⟨rfl, (((Below.refl _ _).alloc (Nat.le_refl _) _).alloc (by simp) _).alloc (by simp; omega) _⟩

set_option maxHeartbeats 400000 in
theorem eqRule_any (a b c a' b' c' : Int) (w : World) :
    Calls Try.prog 172 #[.agg #[.int .i64 a, .int .i64 b, .int .i64 c], .agg #[.int .i64 a', .int .i64 b', .int .i64 c']] w fun e w' => e = .returned (.bool (sameR ⟨a, b, c⟩ ⟨a', b', c'⟩)) ∧ Below w.heap.size w w' := by
  have hb : Below w.heap.size w ((w.alloc (.cells #[.int .i64 a, .int .i64 b, .int .i64 c] 169)).alloc (.cells #[.int .i64 a', .int .i64 b', .int .i64 c'] 169)) := ((Below.refl _ _).alloc (Nat.le_refl _) _).alloc (by simp) _
  go_enter Try.func172, Try.ntmps172
  go_wp2
  all_goals go_ret
  all_goals exact ⟨ret_bool (by simp_all [sameR]), hb⟩

def ToR (w : World) (n : Nat) (rs : List R3) (e : Ending) (w' : World) : Prop :=
  ∃ A, e = .returned (.slice A n n) ∧ Own w' w.heap.size 169 3 A n n (cells3 rs) ∧ Below w.heap.size w w'

set_option maxHeartbeats 1000000 in
theorem toR (A : Option Addr) (n c : Nat) (rs : List R3) (w : World) (hx : S3 w A n rs) (hn : n ≤ 1048576) :
    Calls Try.prog 121 #[.slice A n c] w (ToR w n rs) := by
  have HL := Lib.hid hx.len
  have hxl : n ≤ rs.length := by have := hx.len; omega
  have hxl' : rs.length ≤ n := by have := hx.len; omega
  go_enter Try.func121, Try.ntmps121
  go_wp2_with (at_make; refine wpList_make_Own rfl (.tmp 6) (.tmp 6) rfl elR (n := n) (lo := w.heap.size) rfl rfl (by omega) (by unfold maxLen; omega) (Nat.le_refl _) ?_; intro w2 ho2 hb2 hs2)
  rw [made_cells3 n rs HL.out] at ho2
  have HS := Lib.hid hs2
  clear hs2
  go_loopw [4] (fun i wr => ∃ k : Nat, k ≤ n ∧ i = .int .i64 k ∧ Own wr w.heap.size 169 3 (some ⟨w.heap.size, 0, none⟩) n n (cells3 (copied3 rs k)) ∧ Below w.heap.size w wr) (fun i _ => n - (intOf i).toNat)
  case atStart => exact ⟨0, by omega, rfl, ho2, hb2⟩
  case round =>
    obtain ⟨k, hk, rfl, ho, hb⟩ := hrel
    by_cases hlt : k < n
    · obtain ⟨r, b, off, hr, _, rfl, hbl, q0, q1, q2⟩ := (hx.below hb).pick hlt
      go_wp2_with fail
      refine (toRule_any _ _ _ _).mono ?_
      rintro e w3 ⟨rfl, hb3⟩
      have ho3 := ho.below hb3
      have hll : n * 3 ≤ (cells3 (copied3 rs k)).length := by rw [length_cells3, length_copied3 _ _ (by omega)]; omega
      obtain ⟨b0, off0, he, hlo, hlt0, hc0, hf0⟩ := ho3.at_ (k := k * 3) (by omega)
      obtain ⟨b1, off1, he1, _, _, hc1, hf1⟩ := ho3.at_ (k := k * 3 + 1) (by omega)
      obtain ⟨b2, off2, he2, _, _, hc2, hf2⟩ := ho3.at_ (k := k * 3 + 2) (by omega)
      simp only [Option.some.injEq, Addr.mk.injEq, and_true] at he he1 he2
      obtain ⟨rfl, rfl⟩ := he
      obtain ⟨rfl, rfl⟩ := he1
      obtain ⟨rfl, rfl⟩ := he2
      have ho4 := ((ho3.set_ (k := k * 3) (by omega) (.int .i64 r.a)).set_ (k := k * 3 + 1) (by rw [List.length_set]; omega) (.int .i64 r.b)).set_ (k := k * 3 + 2) (by rw [List.length_set, List.length_set]; omega) (.int .i64 r.c)
      rw [cells3_set _ _ r (by rw [length_copied3 _ _ (by omega)]; omega), copied3_next _ _ _ hr.out] at ho4
      simp only [Nat.zero_add] at hc0 hc1 hc2 hf0 hf1 hf2 ho4
      have hb4 := (((hb.trans (hb3.mono hb.size)).setCell (p := ⟨w.heap.size, k * 3, none⟩) (Nat.le_refl _) (.int .i64 r.a)).setCell (p := ⟨w.heap.size, k * 3 + 1, none⟩) (Nat.le_refl _) (.int .i64 r.b)).setCell (p := ⟨w.heap.size, k * 3 + 2, none⟩) (Nat.le_refl _) (.int .i64 r.c)
      clear q0 q1 q2
      go_wp2_with fail
      exact ⟨⟨k + 1, by omega, by go_num, ho4, hb4⟩, by simp [intOf]; omega⟩
    · go_wp2
      go_ret
      have hoo := ho
      rw [copied3_end rs (by omega)] at hoo
      exact ⟨_, rfl, hoo, hb⟩

set_option maxHeartbeats 1000000 in
theorem eqR (A B : Option Addr) (n m c d : Nat) (xs ys : List R3) (w : World) (hx : S3 w A n xs) (hy : S3 w B m ys) (hn : n ≤ 9223372036854775807) :
    Calls Try.prog 128 #[.slice A n c, .slice B m d] w fun e w' => e = .returned (.bool (same3 xs ys)) ∧ Below w.heap.size w w' := by
  by_cases hnm : n = m
  · subst hnm
    go_enter Try.func128, Try.ntmps128
    go_wp2
    go_loopw [5] (fun i wr => ∃ k : Nat, k ≤ n ∧ i = .int .i64 k ∧ Hid (xs.take k = ys.take k) ∧ Below w.heap.size w wr) (fun i _ => n - (intOf i).toNat)
    case atStart => exact ⟨0, by omega, rfl, rfl, Below.refl _ _⟩
    case round =>
      obtain ⟨k, hk, rfl, he, hb⟩ := hrel
      by_cases hlt : k < n
      · obtain ⟨x, b, off, hX, _, rfl, hbl, q0, q1, q2⟩ := (hx.below hb).pick hlt
        obtain ⟨y, b', off', hY, _, rfl, hbl', q0', q1', q2'⟩ := (hy.below hb).pick hlt
        go_upto_region 6 with fail
        go_cut [26] (fun s26 wx => s26 = .bool (!sameR x y) ∧ Below w.heap.size w wx)
        case first =>
          go_region_held3 (fun w' => w'.cell? ⟨b, off + k * 3, none⟩ = some (.int .i64 x.a) ∧ w'.cell? ⟨b, off + k * 3 + 1, none⟩ = some (.int .i64 x.b) ∧ w'.cell? ⟨b, off + k * 3 + 2, none⟩ = some (.int .i64 x.c) ∧
              w'.cell? ⟨b', off' + k * 3, none⟩ = some (.int .i64 y.a) ∧ w'.cell? ⟨b', off' + k * 3 + 1, none⟩ = some (.int .i64 y.b) ∧ w'.cell? ⟨b', off' + k * 3 + 2, none⟩ = some (.int .i64 y.c))
            (first
              | (go_keep; done)
              | (exact ⟨(hb2.cell (p := ⟨b, off + k * 3, none⟩) hbl).trans q0, (hb2.cell (p := ⟨b, off + k * 3 + 1, none⟩) hbl).trans q1, (hb2.cell (p := ⟨b, off + k * 3 + 2, none⟩) hbl).trans q2, (hb2.cell (p := ⟨b', off' + k * 3, none⟩) hbl').trans q0', (hb2.cell (p := ⟨b', off' + k * 3 + 1, none⟩) hbl').trans q1', (hb2.cell (p := ⟨b', off' + k * 3 + 2, none⟩) hbl').trans q2'⟩))
            (first
              | (go_at_call 172; refine (eqRule_any _ _ _ _ _ _ _).mono ?_; rintro e w2 ⟨rfl, hb2'⟩; have hb2 : Below wr.heap.size wr w2 := below_undrew hb2'))
          go_wp2_with fail
          go_meet
          exact ⟨rfl, hb.trans (hb2.mono hb.size)⟩
        case rest =>
          obtain ⟨rfl, hb3⟩ := hcut
          clear q0 q1 q2 q0' q1' q2'
          go_wp2_with fail
          · go_ret
            exact ⟨ret_bool (same3_ne hX.out hY.out (by assumption)), hb3⟩
          · exact ⟨⟨k + 1, by omega, by go_num, same3_next hX.out hY.out he.out (by assumption), hb3⟩, by simp [intOf]; omega⟩
      · go_wp2
        go_ret
        exact ⟨ret_bool (same3_eq (by omega) hx.len hy.len he.out), hb⟩
  · have hne : ((n : Int) != (m : Int)) = true := by simp; omega
    go_enter Try.func128, Try.ntmps128
    go_wp2
    go_ret
    exact ⟨ret_bool (same3_len hnm hx.len hy.len), Below.refl _ _⟩

set_option maxHeartbeats 1000000 in
theorem markR_m (T : List TypeId) (A : Option Addr) (n c : Nat) (m : Int) (w : World) (lo hi : Nat) (hx : Mk w lo hi 169 3 A n) (hT : 169 ∈ T) (h0 : 0 ≤ m) (h1 : m + n * 3 ≤ 9223372036854775807) :
    Calls Try.prog 129 #[.slice A n c, .int .i64 m] w (MarkP T w lo hi (n * 3) m) := by
  have HT := Lib.hid hT
  clear hT
  go_enter Try.func129, Try.ntmps129
  go_wp2
  go_loopw [1, 5] (fun q i wr => ∃ k : Nat, k ≤ n ∧ i = .int .i64 k ∧ q = .int .i64 (m + k * 3) ∧ Mk wr lo hi 169 3 A n ∧ MkF T lo hi w wr) (fun _ i _ => n - (intOf i).toNat)
  case atStart => exact ⟨0, by omega, rfl, by simp, hx, MkF.refl _ _ _ _⟩
  case round =>
    obtain ⟨k, hk, rfl, rfl, ho, ht⟩ := hrel
    by_cases hlt : k < n
    · obtain ⟨b, off, cur, v, rfl, hlo, hhi, hg, hc, hf⟩ := ho.at_ (k := k * 3) (by omega)
      obtain ⟨b1, off1, _, v1, he1, _, _, _, hc1, hf1⟩ := ho.at_ (k := k * 3 + 1) (by omega)
      obtain ⟨b2, off2, _, v2, he2, _, _, _, hc2, hf2⟩ := ho.at_ (k := k * 3 + 2) (by omega)
      simp only [Option.some.injEq, Addr.mk.injEq, and_true] at he1 he2
      obtain ⟨rfl, rfl⟩ := he1
      obtain ⟨rfl, rfl⟩ := he2
      have f1 := (MkF.refl T lo hi wr).setCell (i := off + k * 3) hg HT.out hlo hhi (.int .i64 (m + k * 3))
      have g1 := heap_setCell_same wr b (off + k * 3) cur _ (.int .i64 (m + k * 3)) hg
      have f2 := f1.setCell (i := off + k * 3 + 1) g1 HT.out hlo hhi (.int .i64 (m + k * 3 + 1))
      have g2 := heap_setCell_same _ b (off + k * 3 + 1) _ _ (.int .i64 (m + k * 3 + 1)) g1
      have f3 := f2.setCell (i := off + k * 3 + 2) g2 HT.out hlo hhi (.int .i64 (m + k * 3 + 1 + 1))
      have HG := Lib.hid hg
      clear hg g1 g2 f1 f2
      rw [← Nat.add_assoc] at hc1 hf1 hc2 hf2
      have i1 : m + (k : Int) * 3 + 1 ≤ 9223372036854775806 := by omega
      go_wp2
      exact ⟨⟨k + 1, by omega, by go_num, by go_num, ho.mkf f3, ht.trans f3⟩, by simp [intOf]; omega⟩
    · go_wp2
      go_ret
      obtain rfl : k = n := by omega
      exact ⟨ret_int (by omega), ht⟩
end Go.Proofs.Ythipbeggaeogcaa
