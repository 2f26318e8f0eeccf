/-
  Contracts of impl.PowerOf (small numbers) and impl.wordsOver.
-/
import Derived.Test.YthipbeggaeogcaaWorstP
import Derived.Test.YthipbeggaeogcaaCatI
import Derived.Test.YthipbeggaeogcaaOiis
namespace Go.Proofs.Ythipbeggaeogcaa
open Go.RowKit

theorem pow_le5 {L n : Nat} (hL : L ≤ 5) (hn : n ≤ 8) : L ^ n ≤ 390625 :=
  Nat.le_trans (Nat.pow_le_pow_left hL n) (Nat.le_trans (Nat.pow_le_pow_right (by omega) hn) (by decide))

def pwr (L n : Nat) : Nat := L ^ n
set_option maxHeartbeats 2000000 in
theorem powerOf_any (L n : Nat) (w : World) (h1 : 1 ≤ L) (h5 : L ≤ 5) (hn : n ≤ 8) :
    Calls Try.prog 123 #[.int .i64 (L : Int), .int .i64 (n : Int)] w fun e w' => e = .returned (.tuple #[.int .i64 (pwr L n : Int), .int .i64 0]) ∧ w = w' := by
  have a1 : inB (L : Int) 0 1000000000000 = true := (inB_iff _ _ _).2 (by omega)
  have a2 : inB (n : Int) 0 64 = true := (inB_iff _ _ _).2 (by omega)
  have HP : Hid (∀ j, j ≤ n → pwr L j ≤ 390625) := Lib.hid (fun j hj => pow_le5 (L := L) (n := j) h5 (by omega))
  have HS : Hid (∀ j, pwr L (j + 1) = pwr L j * L) := Lib.hid (fun j => Nat.pow_succ (n := L) (m := j))
  have A1 := Lib.hid a1
  have A2 := Lib.hid a2
  clear a1 a2
  go_enter Try.func123, Try.ntmps123
  go_wp2_with (first
    | (go_at_call_of 85 (Value.int .i64 (L : Int)); refine (within_is A1.out _).mono ?_; rintro e w' ⟨rfl, rfl⟩)
    | (go_at_call_of 85 (Value.int .i64 (n : Int)); refine (within_is A2.out _).mono ?_; rintro e w' ⟨rfl, rfl⟩))
  go_loop [1, 6] (fun q s => ∃ j : Nat, j ≤ n ∧ q = .int .i64 ((n : Int) - (j : Int)) ∧ s = .int .i64 (pwr L j : Int)) (fun q _ => (intOf q).toNat)
  case atStart => exact ⟨0, Nat.zero_le _, by simp, by simp [pwr]⟩
  case round =>
    obtain ⟨j, hj, rfl, rfl⟩ := hrel
    have hp := HP.out j hj
    by_cases hlt : j < n
    · have hs := HS.out j
      have hp2 := HP.out (j + 1) hlt
      have i1 : decide ((0 : Int) < (n : Int) - (j : Int)) = true := by simp; omega
      have HN : Hid ((pwr L (j + 1) : Int) = (pwr L j : Int) * (L : Int)) := Lib.hid (by rw [hs]; simp)
      have hmul : (pwr L j : Int) * (L : Int) ≤ 390625 := by rw [← HN.out]; omega
      have hmul0 : 0 ≤ (pwr L j : Int) * (L : Int) := by rw [← HN.out]; omega
      clear hs hp2
      generalize pwr L j = p at *
      have hl : L = 1 ∨ L = 2 ∨ L = 3 ∨ L = 4 ∨ L = 5 := by omega
      rcases hl with rfl | rfl | rfl | rfl | rfl
      all_goals
        go_wp2_with fail
        go_round
        case rel => exact ⟨j + 1, by omega, by go_num, by rw [HN.out]; go_num⟩
        case measure => simp [intOf]; omega
    · obtain rfl : j = n := by omega
      have i1 : decide ((0 : Int) < (j : Int) - (j : Int)) = false := by simp
      go_wp2_with fail
      exact bodyPost_ret (v := .tuple #[.int .i64 (pwr L j : Int), .int .i64 0]) (by simp [results, Try.results123, go_sem]) rfl ⟨rfl, rfl⟩

/-- A new slice of slices of numbers. -/
def NewW (w : World) (M : List (List Int)) (e : Ending) (w' : World) : Prop :=
  ∃ A c us, e = .returned (.slice A us.length c) ∧ OII w' w.heap.size 25 2 A us.length c us ∧ nums us = M ∧ Below w.heap.size w w'

/-- The words of the next length, up to a place in the two loops. -/
def nextTo (L : Nat) (ws : List (List Int)) (t q : Nat) (x : List Int) : List (List Int) := (ws.take t).flatMap (fun w => (List.range L).map (fun l : Nat => w ++ [(l : Int)])) ++ (List.range q).map (fun l : Nat => x ++ [(l : Int)])
theorem nextTo_zero (L : Nat) (ws : List (List Int)) (x : List Int) : nextTo L ws 0 0 x = [] := by simp [nextTo]
theorem nextTo_any (L : Nat) (ws : List (List Int)) (t : Nat) (x x' : List Int) : nextTo L ws t 0 x = nextTo L ws t 0 x' := by simp [nextTo]
theorem nextTo_step (L : Nat) (ws : List (List Int)) (t q : Nat) (x : List Int) : nextTo L ws t (q + 1) x = nextTo L ws t q x ++ [x ++ [(q : Int)]] := by simp [nextTo, List.range_succ]
theorem nextTo_row {L : Nat} {ws : List (List Int)} {t : Nat} {x : List Int} (h : ws[t]? = some x) : nextTo L ws t L x = nextTo L ws (t + 1) 0 [] := by
  obtain ⟨hl, rfl⟩ := List.getElem?_eq_some_iff.1 h
  unfold nextTo
  rw [List.take_succ_eq_append_getElem hl, List.flatMap_append]
  simp
theorem nextTo_end {L n : Nat} {t : Nat} (h : (wordsL L n).length ≤ t) : nextTo L (wordsL L n) t 0 [] = wordsL L (n + 1) := by
  unfold nextTo
  rw [List.take_of_length_le h]
  simp [wordsL]
theorem nextTo_len {L n t q : Nat} {x : List Int} (ht : t < (wordsL L n).length) (hq : q ≤ L) (h : L ^ (n + 1) ≤ 256) : (nextTo L (wordsL L n) t q x).length ≤ 256 := by
  have key : ∀ l : List (List Int), (l.flatMap (fun w => (List.range L).map (fun l : Nat => w ++ [(l : Int)]))).length = l.length * L := by
    intro l
    induction l with
    | nil => simp
    | cons x r ih => rw [List.flatMap_cons, List.length_append, ih, List.length_cons, Nat.succ_mul]; simp; omega
  unfold nextTo
  rw [List.length_append, key, List.length_take]
  rw [wordsL_len] at ht ⊢
  have h1 : (t + 1) * L ≤ L ^ n * L := Nat.mul_le_mul_right _ ht
  have e : L ^ n * L = L ^ (n + 1) := (Nat.pow_succ L n).symm
  rw [e, Nat.succ_mul] at h1
  have h2 : min t (L ^ n) = t := by omega
  rw [h2, List.length_map, List.length_range]
  omega
theorem Blk.own {w : World} {g : Nat} {t : TypeId} {cs : Array Value} {n s lo : Nat} (h : Blk w g t cs) (hs : cs.size = n * s) (hn : n ≤ maxLen) (hlo : lo ≤ g) : Own w lo t s (some ⟨g, 0, none⟩) n n cs.toList := by
  refine ⟨by simpa using hs, .inr ⟨g, 0, cs, rfl, hlo, h, Nat.le_refl _, hn, by omega, fun k hk => ?_⟩⟩
  simp at hk
  simp [hk]
theorem wordsL_row {L n k : Nat} {x : List Int} (h : (wordsL L n)[k]? = some x) : x.length = n := (mem_wordsL.1 (List.mem_of_getElem? h)).1

set_option maxRecDepth 100000 in
set_option maxHeartbeats 8000000 in
theorem wordsOver_any (L n : Nat) (w : World) (h1 : 1 ≤ L) (h5 : L ≤ 5) (hn : n ≤ 8) (hp : L ^ n ≤ 256) :
    Calls Try.prog 124 #[.int .i64 (L : Int), .int .i64 (n : Int)] w (NewW w (wordsL L n)) := by
  have HPJ : Hid (∀ j, j ≤ n → L ^ j ≤ 256) := Lib.hid (fun j hj => Nat.le_trans (Nat.pow_le_pow_right (n := L) h1 hj) hp)
  clear hp
  obtain ⟨W, hW_⟩ : ∃ W, W = (w.alloc (.cells #[] 2)).alloc (.cells #[.slice (some ⟨w.heap.size, 0, none⟩) 0 0] 25) := ⟨_, rfl⟩
  have s_1 : (w.alloc (.cells #[] 2)).heap.size = w.heap.size + 1 := by simp
  have b0 : Blk W w.heap.size 2 #[] := by rw [hW_]; exact (Blk.new w _ _).alloc _
  have b1 : Blk W (w.heap.size + 1) 25 #[.slice (some ⟨w.heap.size, 0, none⟩) 0 0] := by rw [hW_, ← s_1]; exact Blk.new _ _ _
  have y0 : Below w.heap.size w W := by rw [hW_]; exact ((Below.refl _ _).alloc (Nat.le_refl _) _).alloc (by simp) _
  have HW := Lib.hid hW_
  clear hW_ s_1
  have o0 : OII W w.heap.size 25 2 (some ⟨w.heap.size + 1, 0, none⟩) 1 1 [⟨some ⟨w.heap.size, 0, none⟩, 0, []⟩] :=
    OII.one (Blk.own (n := 1) (s := 1) b1 rfl (by simp [maxLen]) (by omega)) (Blk.own (n := 0) (s := 1) b0 rfl (by simp [maxLen]) (by omega))
  go_enter Try.func124, Try.ntmps124
  go_upto_region 2 with fail
  rw [← HW.out]
  clear HW b0 b1
  go_wp2_with fail
  go_loopw [5, 13] (fun v i wr => ∃ (j : Nat) (D : Option Addr) (c : Nat) (us : List Sl), j ≤ n ∧ i = .int .i64 (j : Int) ∧ v = .slice D us.length c ∧ OII wr w.heap.size 25 2 D us.length c us ∧ Hid (nums us = wordsL L j) ∧ Below w.heap.size w wr) (fun _ i _ => n - (intOf i).toNat)
  case atStart => exact ⟨0, _, 1, _, Nat.zero_le _, rfl, rfl, o0, rfl, y0⟩
  case round =>
    obtain ⟨j, D, c, us, hj, rfl, rfl, hU, hnu, hy⟩ := hrel
    rename World => W0
    clear o0 y0
    have hul : us.length = (wordsL L j).length := by rw [← hnu.out]; simp [nums]
    have HUL := Lib.hid hul
    have hu256 : us.length ≤ 256 := by rw [hul, wordsL_len]; exact HPJ.out j hj
    clear hul
    by_cases hlt : j < n
    · have HP1 := Lib.hid (HPJ.out (j + 1) hlt)
      obtain ⟨W1, hW_⟩ : ∃ W_, W_ = W0.alloc (.cells #[] 25) := ⟨_, rfl⟩
      have b1 : Blk W1 W0.heap.size 25 #[] := by rw [hW_]; exact Blk.new W0 _ _
      have z1 : Below W0.heap.size W0 W1 := by rw [hW_]; exact (Below.refl _ _).alloc (Nat.le_refl _) _
      have HW1 := Lib.hid hW_
      clear hW_
      have o1 : OII W1 W0.heap.size 25 2 (some ⟨W0.heap.size, 0, none⟩) 0 0 [] := OII.nil (Blk.own (n := 0) (s := 1) b1 rfl (by simp [maxLen]) (Nat.le_refl _))
      go_upto_region 5 with fail
      rw [← HW1.out]
      clear HW1 b1
      go_wp2_with fail
      go_loopw [6, 18] (fun v i wr => ∃ (t : Nat) (E : Option Addr) (d : Nat) (vs : List Sl), t ≤ us.length ∧ i = .int .i64 (t : Int) ∧ v = .slice E vs.length d ∧ OII wr W0.heap.size 25 2 E vs.length d vs ∧ Hid (nums vs = nextTo L (wordsL L j) t 0 []) ∧ Below W0.heap.size W0 wr) (fun _ i _ => us.length - (intOf i).toNat)
      case atStart => exact ⟨0, _, 0, [], Nat.zero_le _, rfl, rfl, o1, Lib.hid (by rw [nextTo_zero]; rfl), z1⟩
      case round =>
        obtain ⟨t, E, d, vs, ht, rfl, rfl, hV, hnv, hz⟩ := hrel
        clear o1 z1
        by_cases htl : t < us.length
        · obtain ⟨u, bb, off, HT, htm, rfl, hbl, e0, _⟩ := (hU.sii.below hz).pick htl
          have HX : Hid ((wordsL L j)[t]? = some u.xs) := Lib.hid (by rw [← hnu.out]; simp [nums, HT.out])
          have hux : u.xs.length = j := wordsL_row HX.out
          have HROW : Hid (SI W0 u.A u.xs.length u.xs) := Lib.hid (hU.sii.2 u htm)
          have HUX := Lib.hid hux
          have i1 : (0 : Int) ≤ (t : Int) := by omega
          have i2 : (t : Int) < (us.length : Int) := by omega
          clear htm hux
          go_wp2_with fail
          clear e0
          go_loopw [6, 23] (fun v i wr => ∃ (q : Nat) (F : Option Addr) (e : Nat) (vs : List Sl), q ≤ L ∧ i = .int .i64 (q : Int) ∧ v = .slice F vs.length e ∧ OII wr W0.heap.size 25 2 F vs.length e vs ∧ Hid (nums vs = nextTo L (wordsL L j) t q u.xs) ∧ Below W0.heap.size W0 wr) (fun _ i _ => L - (intOf i).toNat)
          case atStart => exact ⟨0, E, d, vs, Nat.zero_le _, rfl, rfl, hV, Lib.hid (by rw [hnv.out, nextTo_any]), hz⟩
          case round =>
            clear hV hnv hz
            obtain ⟨q, F, e, vs, hq, rfl, rfl, hV, hnv, hz⟩ := hrel
            by_cases hql : q < L
            · have hvl : vs.length ≤ 256 := by
                have e1 : vs.length = (nums vs).length := by simp [nums]
                rw [e1, hnv.out]
                exact nextTo_len (by rw [← HUL.out]; exact htl) hq HP1.out
              obtain ⟨y, hyy⟩ : ∃ y, y = u.xs ++ [(q : Int)] := ⟨_, rfl⟩
              have HST : Hid (nextTo L (wordsL L j) t (q + 1) u.xs = nextTo L (wordsL L j) t q u.xs ++ [y]) := Lib.hid (by rw [nextTo_step, hyy])
              have hyl : y.length = j + 1 := by rw [hyy, List.length_append, HUX.out]; rfl
              have HYL := Lib.hid hyl
              obtain ⟨W3, hW_⟩ : ∃ W, W = (wr.alloc (.cells #[.int .i64 (q : Int)] 2)).alloc (.cells #[.slice u.A u.xs.length u.c, .slice (some ⟨wr.heap.size, 0, none⟩) 1 1] 25) := ⟨_, rfl⟩
              have s_1 : (wr.alloc (.cells #[.int .i64 (q : Int)] 2)).heap.size = wr.heap.size + 1 := by simp
              have e0 : Blk W3 wr.heap.size 2 #[.int .i64 (q : Int)] := by rw [hW_]; exact (Blk.new wr _ _).alloc _
              have e1 : Blk W3 (wr.heap.size + 1) 25 #[.slice u.A u.xs.length u.c, .slice (some ⟨wr.heap.size, 0, none⟩) 1 1] := by rw [hW_, ← s_1]; exact Blk.new _ _ _
              have y3 : Below wr.heap.size wr W3 := by rw [hW_]; exact ((Below.refl _ _).alloc (Nat.le_refl _) _).alloc (by simp) _
              have HW3 := Lib.hid hW_
              clear hW_ s_1
              have hz3 := hz.trans (y3.mono hz.size)
              have hV3 := hV.below y3
              have hS : SII W3 (some ⟨wr.heap.size + 1, 0, none⟩) 2 [u, ⟨some ⟨wr.heap.size, 0, none⟩, 1, [(q : Int)]⟩] := by
                refine ⟨(Blk.own (n := 2) (s := 1) (lo := 0) e1 rfl (by simp [maxLen]) (by omega)).rd, fun x hx => ?_⟩
                simp only [List.mem_cons, List.not_mem_nil, or_false] at hx
                rcases hx with rfl | rfl
                · exact HROW.out.below hz3
                · exact (Blk.own (n := 1) (s := 1) (lo := 0) e0 rfl (by simp [maxLen]) (by omega)).rd
              have HF : Hid ([u, ⟨some ⟨wr.heap.size, 0, none⟩, 1, [(q : Int)]⟩].flatMap Sl.xs = y) := Lib.hid (by rw [hyy]; simp)
              have hfl : ([u, ⟨some ⟨wr.heap.size, 0, none⟩, 1, [(q : Int)]⟩].flatMap Sl.xs).length ≤ 1048576 := by rw [HF.out, hyl]; omega
              have HFL := Lib.hid hfl
              clear hyy hyl hfl
              go_wp2_with fail
              rw [← HW3.out]
              refine (joinedI_any _ _ _ _ _ hS (by omega) HFL.out).mono ?_
              rw [HF.out]
              rintro e' W4 ⟨A4, c4, rfl, o4, z4⟩
              have hz4 := hz3.trans (z4.mono hz3.size)
              have hV4 := hV3.below z4
              clear HW3 HFL HF hS e0 e1
              go_wp2_with (at_builtin; refine wpList_append_Own rfl (.tmp 26) (.tmp 32) rfl elII (lo := W0.heap.size) rfl (hV4.alloc _).1 rfl (Rd.new1 W4 (.slice A4 y.length c4) _) (by simp [Value.oneCell']) (by omega) (by simp only [maxLen]; omega) (by have := hz4.size; simp; omega) ?_; intro A5 c5 W5 o5 hg5 hw5)
              have hV5 : OII W5 W0.heap.size 25 2 A5 (vs ++ ([⟨A4, c4, y⟩] : List Sl)).length c5 (vs ++ ([⟨A4, c4, y⟩] : List Sl)) := by
                rw [List.length_append]
                exact OII.snoc (wa := W3) hV3 (hV4.alloc _) o5 hg5 (o4.alloc _) (Nat.le_refl _) hz3.size (by decide)
              have hz5 : Below W0.heap.size W0 W5 := Own.below_of (hV4.alloc _).1 (hz4.alloc hz4.size _) hg5 (by have := hz4.size; simp; omega)
              have HNV : Hid (nums (vs ++ ([⟨A4, c4, y⟩] : List Sl)) = nextTo L (wordsL L j) t (q + 1) u.xs) := Lib.hid (by rw [HST.out, nums_append, hnv.out])
              have HLL : Hid (vs.length + 1 = (vs ++ ([⟨A4, c4, y⟩] : List Sl)).length) := Lib.hid (by rw [List.length_append]; rfl)
              go_wp2_with fail
              go_roundw
              case rel => exact ⟨q + 1, A5, c5, vs ++ ([⟨A4, c4, y⟩] : List Sl), by omega, by go_num, by rw [← HLL.out], hV5, HNV, hz5⟩
              case measure => simp [intOf]; omega
            · obtain rfl : q = L := by omega
              have HR : Hid (nums vs = nextTo q (wordsL q j) (t + 1) 0 []) := Lib.hid (by rw [hnv.out, nextTo_row HX.out])
              go_wp2_with fail
              go_roundw
              case rel => exact ⟨t + 1, F, e, vs, by omega, by go_num, rfl, hV, HR, hz⟩
              case measure => simp [intOf]; omega
        · have HE : Hid (nums vs = wordsL L (j + 1)) := Lib.hid (by rw [hnv.out, nextTo_end (by rw [← HUL.out]; omega)])
          have hy2 := hy.trans (hz.mono hy.size)
          go_wp2_with fail
          go_roundw
          case rel => exact ⟨j + 1, E, d, vs, by omega, by go_num, rfl, hV.mono hy.size, HE, hy2⟩
          case measure => simp [intOf]; omega
    · obtain rfl : j = n := by omega
      go_wp2_with fail
      go_ret
      exact ⟨D, c, us, rfl, hU, hnu.out, hy⟩
end Go.Proofs.Ythipbeggaeogcaa
