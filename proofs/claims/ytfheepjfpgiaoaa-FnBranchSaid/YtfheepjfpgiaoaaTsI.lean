/-
  Contracts of the reference's l21End, l21Whole, l21Is, l21Own, l21Nil, l21Pair, l21Head, l21Tail.
-/
import Derived.Test.YtfheepjfpgiaoaaTrP
import Derived.Test.YtfheepjfpgiaoaaBl
import Derived.Test.YtfheepjfpgiaoaaBase
import Derived.Deep.QuietTactic
import Derived.BigQuiet
import Derived.Deep.DeepCutAuto
namespace Go.Proofs.Ytfheepjfpgiaoaa
open Go.RowKit

/-- The place behind the terms that are still open, and whether they are whole. -/
def endS (l : List Bool) (o k : Nat) : Int × Bool := match endI fB (l.drop k) o with | some j => (((k + j : Nat) : Int), true) | none => ((l.length : Int), false)
theorem endS_zero (l : List Bool) (k : Nat) : endS l 0 k = ((k : Int), true) := by unfold endS; rw [endI_zero]; rfl
theorem endS_out {l : List Bool} {o k : Nat} (ho : 0 < o) (hk : k = l.length) : endS l o k = ((k : Int), false) := by
  obtain ⟨n, rfl⟩ : ∃ n, o = n + 1 := ⟨o - 1, by omega⟩
  unfold endS; rw [List.drop_of_length_le (by omega), hk]; rfl
theorem endS_next {l : List Bool} {o k : Nat} {x : Bool} (ho : 0 < o) (hx : l[k]? = some x) : endS l o k = endS l (o - 1 + fB x) (k + 1) := by
  obtain ⟨n, rfl⟩ : ∃ n, o = n + 1 := ⟨o - 1, by omega⟩
  obtain ⟨hk, rfl⟩ := List.getElem?_eq_some_iff.1 hx
  unfold endS
  rw [List.drop_eq_getElem_cons hk, endI_cons, Nat.add_sub_cancel]
  cases endI fB (l.drop (k + 1)) (n + fB l[k]) with
  | none => rfl
  | some j => show (((k + (j + 1) : Nat) : Int), true) = (((k + 1 + j : Nat) : Int), true); congr 2; omega
theorem endS_whole (l : List Bool) : ((endS l 1 0).2 && ((endS l 1 0).1 == (l.length : Int))) = wholeB l := by
  unfold endS wholeB
  rw [List.drop_zero]
  cases endI fB l 1 with
  | none => rfl
  | some j =>
    show (true && (((0 + j : Nat) : Int) == (l.length : Int))) = (some j == some l.length)
    rw [Nat.zero_add, Bool.true_and, Bool.eq_iff_iff]; simp; omega
theorem endS_head (a b : Tr) : endS (Tr.nd a b).enc 1 1 = (((1 + a.nodes : Nat) : Int), true) := by
  unfold endS; rw [Tr.enc, List.drop_succ_cons, List.drop_zero, enc_end]
set_option maxRecDepth 100000 in
set_option maxHeartbeats 1000000 in
theorem l21End_any (A : Option Addr) (n c k0 : Nat) (bs : List Bool) (w : World) (hx : SB w A n bs) (hn : n ≤ 1152921504606846976) (hk0 : k0 ≤ n) :
    Calls Try.prog 255 #[.slice A n c, .int .i64 (k0 : Int)] w fun e w' => e = .returned (.tuple #[.int .i64 (endS bs 1 k0).1, .bool (endS bs 1 k0).2]) ∧ w = w' := by
  have HL := Lib.hid hx.len
  obtain ⟨R, hR⟩ : ∃ R, endS bs 1 k0 = R := ⟨_, rfl⟩
  rw [hR]
  have HR := Lib.hid hR
  clear hR
  go_enter Try.func255, Try.ntmps255
  go_wp2_with fail
  go_loop [1, 6] (fun s1 s6 => ∃ k o : Nat, k ≤ n ∧ o ≤ k + 1 ∧ s1 = .int .i64 (k : Int) ∧ s6 = .int .i64 (o : Int) ∧ Hid (endS bs o k = R)) (fun s1 _ => n - (intOf s1).toNat)
  case atStart => exact ⟨k0, 1, hk0, by omega, rfl, rfl, HR⟩
  case round =>
    obtain ⟨k, o, hk, ho, rfl, rfl, he⟩ := hrel
    by_cases h0 : o = 0
    · subst h0
      have HE : Hid (R = ((k : Int), true)) := Lib.hid (by rw [← he.out, endS_zero])
      have i1 : ¬ ((0 : Nat) : Int) > 0 := by omega
      go_wp2_with fail
      rw [HE.out]
      exact bodyPost_ret (v := .tuple #[.int .i64 (k : Int), .bool true]) (by simp [results, Try.results255, go_sem]) rfl ⟨rfl, rfl⟩
    · have i1 : ((o : Nat) : Int) > 0 := by omega
      have i0 : 0 < o := by omega
      by_cases hlt : k < n
      · have i2 : ((k : Int) == (n : Int)) = false := by simp; omega
        obtain ⟨b, g, off, HT, rfl, _, hc⟩ := hx.pick hlt
        have HN := Lib.hid (endS_next (l := bs) (o := o) i0 HT.out)
        have w3 : IntKind.i64.wrap ((k : Int) + 1) = ((k + 1 : Nat) : Int) := by rw [IntWalk.i64_in _ (by omega)]; omega
        cases b with
        | true =>
          obtain ⟨o', ho'⟩ : ∃ o', o + 1 = o' := ⟨_, rfl⟩
          have w1 : IntKind.i64.wrap ((o : Int) + 1) = (o' : Int) := by rw [show ((o : Int) + 1) = (o' : Int) by omega]; exact IntWalk.i64_in _ (by omega)
          have HN2 : Hid (endS bs o' (k + 1) = R) := Lib.hid (by rw [← he.out, HN.out, show o - 1 + fB true = o' by show o - 1 + 2 = o'; omega])
          have hle : o' ≤ k + 1 + 1 := by omega
          clear ho' HT
          go_wp2_with fail
          go_round
          case rel => exact ⟨k + 1, o', by omega, hle, by go_num, rfl, HN2⟩
          case measure => (simp [intOf] <;> omega)
        | false =>
          obtain ⟨o', ho'⟩ : ∃ o', o - 1 = o' := ⟨_, rfl⟩
          have w1 : IntKind.i64.wrap ((o : Int) - 1) = (o' : Int) := by rw [show ((o : Int) - 1) = (o' : Int) by omega]; exact IntWalk.i64_in _ (by omega)
          have HN2 : Hid (endS bs o' (k + 1) = R) := Lib.hid (by rw [← he.out, HN.out, show o - 1 + fB false = o' by show o - 1 + 0 = o'; omega])
          have hle : o' ≤ k + 1 + 1 := by omega
          clear ho' HT
          go_wp2_with fail
          go_round
          case rel => exact ⟨k + 1, o', by omega, hle, by go_num, rfl, HN2⟩
          case measure => (simp [intOf] <;> omega)
      · obtain rfl : k = n := by omega
        have i2 : ((k : Int) == (k : Int)) = true := by simp
        have HE : Hid (R = ((k : Int), false)) := Lib.hid (by rw [← he.out]; exact endS_out i0 HL.out.symm)
        go_wp2_with fail
        rw [HE.out]
        exact bodyPost_ret (v := .tuple #[.int .i64 (k : Int), .bool false]) (by simp [results, Try.results255, go_sem]) rfl ⟨rfl, rfl⟩
set_option maxHeartbeats 1000000 in
theorem l21Whole_any (A : Option Addr) (n c : Nat) (bs : List Bool) (w : World) (hx : SB w A n bs) (hn : n ≤ 1152921504606846976) :
    Calls Try.prog 222 #[.slice A n c] w fun e w' => e = .returned (.bool (wholeB bs)) ∧ w = w' := by
  have HE := Lib.hid (l21End_any A n c 0 bs w hx hn (Nat.zero_le _))
  have hW := endS_whole bs
  rw [hx.len] at hW
  rw [show ((0 : Nat) : Int) = 0 from rfl] at HE
  obtain ⟨⟨e0, d⟩, hR⟩ : ∃ p : Int × Bool, endS bs 1 0 = p := ⟨_, rfl⟩
  rw [hR] at HE hW
  dsimp only at HE hW
  cases d with
  | false =>
    have HW := Lib.hid hW
    clear hW hR
    go_enter Try.func222, Try.ntmps222
    go_wp2_with (go_at_call 255; refine HE.out.mono ?_; rintro e w' ⟨rfl, rfl⟩)
    go_ret
    exact ⟨ret_bool (by rw [← HW.out]; rfl), rfl⟩
  | true =>
    rw [Bool.true_and] at hW
    clear hR
    obtain ⟨r, hr⟩ : ∃ r, wholeB bs = r := ⟨_, rfl⟩
    rw [hr] at hW ⊢
    clear hr
    go_enter Try.func222, Try.ntmps222
    go_wp2_with (go_at_call 255; refine HE.out.mono ?_; rintro e w' ⟨rfl, rfl⟩)
    go_ret
    exact ⟨rfl, rfl⟩
set_option maxHeartbeats 1000000 in
theorem l21Is_any (A : Option Addr) (n c : Nat) (bs : List Bool) (w : World) (hx : SB w A n bs) (hn : n ≤ 1152921504606846976) :
    Calls Try.prog 149 #[.slice A n c] w fun e w' => e = .returned (.bool (treeB bs)) ∧ w = w' := by
  have HW := Lib.hid (l21Whole_any A n c bs w hx hn)
  have hl := hx.len
  by_cases h : n ≤ 2000
  · have i1 : (n : Int) ≤ 2000 := by omega
    have HR : Hid (treeB bs = wholeB bs) := Lib.hid (by unfold treeB; rw [hl, decide_eq_true h, Bool.true_and])
    clear hl
    obtain ⟨r, hr⟩ : ∃ r, wholeB bs = r := ⟨_, rfl⟩
    rw [hr] at HW HR
    clear hr
    go_enter Try.func149, Try.ntmps149
    go_wp2_with (go_at_call 222; refine HW.out.mono ?_; rintro e w' ⟨rfl, rfl⟩)
    go_ret
    exact ⟨ret_bool HR.out.symm, rfl⟩
  · have i1 : ¬ (n : Int) ≤ 2000 := by omega
    have HR : Hid (treeB bs = false) := Lib.hid (treeB_long (by omega))
    clear hl
    go_enter Try.func149, Try.ntmps149
    go_wp2_with fail
    go_ret
    exact ⟨ret_bool HR.out.symm, rfl⟩
/-- A list of nodes in new memory. -/
def NewS (w : World) (xs : List Bool) (e : Ending) (w' : World) : Prop := ∃ A c, e = .returned (.slice A xs.length c) ∧ Own w' w.heap.size 4 1 A xs.length c (bools xs) ∧ Below w.heap.size w w'
set_option maxHeartbeats 1000000 in
theorem l21Nil_any (w : World) : Calls Try.prog 232 #[] w (NewS w [false]) := by
  go_enter Try.func232, Try.ntmps232
  go_wp2_with fail
  go_ret
  exact ⟨_, 1, rfl, Own.lit w #[.bool false] _ 1 1 w.heap.size rfl (by simp [maxLen]) (Nat.le_refl _), (Below.refl _ _).alloc (Nat.le_refl _) _⟩
set_option maxHeartbeats 1000000 in
theorem l21Own_any (A : Option Addr) (n c : Nat) (bs : List Bool) (w : World) (hx : SB w A n bs) (hn : n ≤ 1000000000) : Calls Try.prog 256 #[.slice A n c] w (NewS w bs) := by
  have hl := hx.len
  have o0 := Own.lit0 w 4 1
  have HX := Lib.hid (hx.alloc (.cells #[] 4))
  have HL := Lib.hid hl
  have y0 : Below w.heap.size w (w.alloc (.cells #[] 4)) := (Below.refl _ _).alloc (Nat.le_refl _) _
  clear hx hl
  go_enter Try.func256, Try.ntmps256
  go_wp2_with (at_builtin; refine wpList_append_Own rfl (.tmp 3) (.tmp 4) rfl elBool (lo := w.heap.size) rfl o0 rfl HX.out (bools_one bs) (by omega) (by simp only [maxLen]; omega) (by simp) ?_; intro A2 c2 w2 o2 hg2 _; have HO2 := Lib.hid o2; have HG2 := Lib.hid hg2)
  go_ret
  have o3 := HO2.out
  rw [Nat.zero_add, List.nil_append] at o3
  exact ⟨A2, c2, by rw [HL.out]; rfl, by rw [HL.out]; exact o3, y0.grown HG2.out (by simp) (fun b hb => by simp [blk] at hb; omega)⟩
set_option maxHeartbeats 1000000 in
theorem l21Pair_any (A : Option Addr) (n c : Nat) (xs : List Bool) (B : Option Addr) (m d : Nat) (ys : List Bool) (w : World) (hx : SB w A n xs) (hy : SB w B m ys) (hn : n ≤ 1000000000) (hm : m ≤ 1000000000) : Calls Try.prog 223 #[.slice A n c, .slice B m d] w (NewS w (true :: (xs ++ ys))) := by
  have HX := Lib.hid (hx.alloc (.cells #[.bool true] 4))
  have HY := Lib.hid hy
  have HL := Lib.hid hx.len
  have HM := Lib.hid hy.len
  have o0 : Own (w.alloc (.cells #[.bool true] 4)) w.heap.size 4 1 (some ⟨w.heap.size, 0, none⟩) 1 1 [.bool true] := Own.lit w #[.bool true] _ 1 1 w.heap.size rfl (by simp [maxLen]) (Nat.le_refl _)
  have y0 : Below w.heap.size w (w.alloc (.cells #[.bool true] 4)) := (Below.refl _ _).alloc (Nat.le_refl _) _
  clear hx hy
  go_enter Try.func223, Try.ntmps223
  go_upto_region 2 with (at_builtin; refine wpList_append_Own rfl (.tmp 6) (.tmp 7) rfl elBool (lo := w.heap.size) rfl o0 rfl HX.out (bools_one xs) (by omega) (by simp only [maxLen]; omega) (by simp) ?_; intro A2 c2 w2 o2 hg2 _)
  have y2 : Below w.heap.size w w2 := y0.grown hg2 (by simp) (fun b hb => by simp [blk] at hb; omega)
  have HY2 := Lib.hid (HY.out.below y2)
  have hw2 := y2.size
  have HYB := Lib.hid y2
  clear o0 y0 hg2 y2
  go_wp2_with (at_builtin; refine wpList_append_Own rfl (.tmp 9) (.tmp 10) rfl elBool (lo := w.heap.size) rfl o2 rfl HY2.out (bools_one ys) (by omega) (by simp only [maxLen]; omega) hw2 ?_; intro A3 c3 w3 o3 hg3 _; have HO3 := Lib.hid o3; have HG3 := Lib.hid hg3)
  go_ret
  have o4 := HO3.out
  have e1 : [Value.bool true] ++ bools xs ++ bools ys = bools (true :: (xs ++ ys)) := by simp [bools]
  have e2 : (true :: (xs ++ ys)).length = 1 + n + m := by rw [List.length_cons, List.length_append, HL.out, HM.out]; omega
  rw [e1] at o4
  exact ⟨A3, c3, by rw [e2]; rfl, by rw [e2]; exact o4, o2.below_of HYB.out HG3.out hw2⟩
set_option maxHeartbeats 2000000 in
theorem l21Head_any (A : Option Addr) (n c : Nat) (t : Tr) (w : World) (hx : SB w A n t.enc) (hn : n ≤ 1000000) (hnc : n ≤ c) : Calls Try.prog 224 #[.slice A n c] w (NewS w t.hd.enc) := by
  have hl := hx.len
  rw [enc_len] at hl
  have h1 := nodes_pos t
  obtain ⟨b, g, off, HT, rfl, _, hc⟩ := hx.pick (k := 0) (by omega)
  rw [Nat.add_zero] at hc
  have i0 : 0 < n := by omega
  cases t with
  | nil =>
    obtain rfl : b = false := by have h := HT.out; simp [Tr.enc] at h; first | exact h | exact h.symm
    have HN := Lib.hid (l21Nil_any w)
    clear HT hl hx h1
    go_enter Try.func224, Try.ntmps224
    go_wp2_with (go_at_call 232; refine HN.out.mono ?_; rintro e w2 ⟨A2, c2, rfl, o2, z2⟩; have HO := Lib.hid o2; have HZ := Lib.hid z2)
    go_ret
    exact ⟨A2, c2, rfl, HO.out, HZ.out⟩
  | nd a b' =>
    obtain rfl : b = true := by have h := HT.out; simp [Tr.enc] at h; first | exact h | exact h.symm
    have HE := Lib.hid (l21End_any (some ⟨g, off, none⟩) n c 1 _ w hx (by omega) (by omega))
    rw [endS_head] at HE
    rw [show ((1 : Nat) : Int) = 1 from rfl] at HE
    rw [Tr.nodes] at hl
    have hcut : SB w (some ⟨g, off + 1, none⟩) a.nodes a.enc := by
      have h2 := Rd.cut hx (i := 1) (j := 1 + a.nodes) (by omega) (by omega) (A' := some ⟨g, off + 1, none⟩) (fun _ b off e => by cases e; rfl)
      have h3 : ((bools (Tr.nd a b').enc).take (1 + a.nodes)).drop 1 = bools a.enc := by
        rw [← enc_head a b']; simp [bools, List.map_take]
      rw [h3] at h2
      rw [show a.nodes = 1 + a.nodes - 1 by omega]
      exact h2
    have HO := Lib.hid (fun k => l21Own_any (some ⟨g, off + 1, none⟩) a.nodes k a.enc w hcut (by omega))
    obtain ⟨N, hN⟩ : ∃ N, a.nodes = N := ⟨_, rfl⟩
    obtain ⟨M, hM⟩ : ∃ M, 1 + N = M := ⟨_, rfl⟩
    rw [hN, hM] at HE
    rw [hN] at HO hl
    have hb1 := nodes_pos b'
    have j1 : M ≤ n := by omega
    have j2 : ¬ (c : Int) < (M : Int) := by omega
    have j3 : ¬ (M : Int) < 1 := by omega
    have j4 : 1 < c := by omega
    have j5 : M - 1 = N := by omega
    have HJ := Lib.hid j5
    clear HT hx hcut hN hM
    go_enter Try.func224, Try.ntmps224
    go_wp2_with (go_at_call 255; refine HE.out.mono ?_; rintro e w' ⟨rfl, rfl⟩)
    refine (HO.out _).mono ?_
    rintro e w2 ⟨A2, c2, rfl, o2, z2⟩
    have HO2 := Lib.hid o2
    have HZ2 := Lib.hid z2
    clear o2 z2 HO
    go_wp2_with fail
    go_ret
    exact ⟨A2, c2, rfl, HO2.out, HZ2.out⟩
set_option maxHeartbeats 2000000 in
theorem l21Tail_any (A : Option Addr) (n c : Nat) (t : Tr) (w : World) (hx : SB w A n t.enc) (hn : n ≤ 1000000) (hnc : n ≤ c) : Calls Try.prog 225 #[.slice A n c] w (NewS w t.tl.enc) := by
  have hl := hx.len
  rw [enc_len] at hl
  have h1 := nodes_pos t
  obtain ⟨b, g, off, HT, rfl, _, hc⟩ := hx.pick (k := 0) (by omega)
  rw [Nat.add_zero] at hc
  have i0 : 0 < n := by omega
  cases t with
  | nil =>
    obtain rfl : b = false := by have h := HT.out; simp [Tr.enc] at h; first | exact h | exact h.symm
    have HN := Lib.hid (l21Nil_any w)
    clear HT hl hx h1
    go_enter Try.func225, Try.ntmps225
    go_wp2_with (go_at_call 232; refine HN.out.mono ?_; rintro e w2 ⟨A2, c2, rfl, o2, z2⟩; have HO := Lib.hid o2; have HZ := Lib.hid z2)
    go_ret
    exact ⟨A2, c2, rfl, HO.out, HZ.out⟩
  | nd a b' =>
    obtain rfl : b = true := by have h := HT.out; simp [Tr.enc] at h; first | exact h | exact h.symm
    have HE := Lib.hid (l21End_any (some ⟨g, off, none⟩) n c 1 _ w hx (by omega) (by omega))
    rw [endS_head] at HE
    rw [show ((1 : Nat) : Int) = 1 from rfl] at HE
    rw [Tr.nodes] at hl
    have hcut : SB w (some ⟨g, off + (1 + a.nodes), none⟩) b'.nodes b'.enc := by
      have h2 := Rd.cut hx (i := 1 + a.nodes) (j := n) (by omega) (by omega) (A' := some ⟨g, off + (1 + a.nodes), none⟩) (fun _ b off e => by cases e; rfl)
      have h3 : ((bools (Tr.nd a b').enc).take n).drop (1 + a.nodes) = bools b'.enc := by
        rw [List.take_of_length_le (by rw [length_bools, enc_len, Tr.nodes]; omega), ← enc_tail a b']; simp [bools, List.map_drop]
      rw [h3] at h2
      rw [show b'.nodes = n - (1 + a.nodes) by omega]
      exact h2
    have HO := Lib.hid (fun k => l21Own_any (some ⟨g, off + (1 + a.nodes), none⟩) b'.nodes k b'.enc w hcut (by omega))
    have hb1 := nodes_pos b'
    obtain ⟨M, hM⟩ : ∃ M, 1 + a.nodes = M := ⟨_, rfl⟩
    obtain ⟨Q, hQ⟩ : ∃ Q, b'.nodes = Q := ⟨_, rfl⟩
    rw [hM] at HE HO hl
    rw [hQ] at HO hl hb1
    have j1 : M ≤ n := by omega
    have j2 : ¬ (n : Int) < (M : Int) := by omega
    have j3 : M < c := by omega
    have j4 : ¬ c = M := by omega
    have j5 : n - M = Q := by omega
    have HJ := Lib.hid j5
    clear HT hx hcut hM hQ
    go_enter Try.func225, Try.ntmps225
    go_wp2_with (go_at_call 255; refine HE.out.mono ?_; rintro e w' ⟨rfl, rfl⟩)
    refine (HO.out _).mono ?_
    rintro e w2 ⟨A2, c2, rfl, o2, z2⟩
    have HO2 := Lib.hid o2
    have HZ2 := Lib.hid z2
    clear o2 z2 HO
    go_wp2_with fail
    go_ret
    exact ⟨A2, c2, rfl, HO2.out, HZ2.out⟩
end Go.Proofs.Ytfheepjfpgiaoaa
