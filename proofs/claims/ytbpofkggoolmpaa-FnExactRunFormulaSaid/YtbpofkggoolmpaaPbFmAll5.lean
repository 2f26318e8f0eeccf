/-
  Contracts of the laws' helpers over [][]int64: szInt64SS, toInt64SS, eqInt64SS, markInt64SS.
-/
import Derived.Test.YtbpofkggoolmpaaPbFmAll1
import Derived.Test.YtbpofkggoolmpaaPbFmAll3
import Derived.Test.YtbpofkggoolmpaaPbFmAll4
import Derived.Deep.RegionHeld3
import Derived.Deep.RegionLaw
import Derived.Deep.DeepCutAuto
namespace Go.Proofs.Ytbpofkggoolmpaa
open Go.RowKit

theorem elII : Elem Try.prog 25 26 1 24 (.slice none 0 0) := ⟨Try.underlying25, by kernel_rfl, rfl, by decide⟩

set_option maxHeartbeats 400000 in
theorem szII (A : Option Addr) (n c : Nat) (ts : List Sl) (left : Int) (w : World) (hx : SII w A n ts) (hn : n ≤ 9223372036854775807) (hns : ∀ t ∈ ts, t.xs.length ≤ 9223372036854775807) (h0 : 0 ≤ left) (h1 : left ≤ 1048576) :
    Calls Try.prog 83 #[.slice A n c, .int .i64 left] w fun e w' => e = .returned (.int .i64 (szRows left (n :: ts.map (fun t => t.xs.length)))) ∧ w = w' := by
  by_cases h : left < n
  · have h2 : left - n < 0 := by omega
    go_enter Try.func83, Try.ntmps83
    go_wp2
    go_ret
    exact ⟨ret_int (by unfold szRows; rw [if_pos h]), rfl⟩
  · have h2 : ¬ left - n < 0 := by omega
    go_enter Try.func83, Try.ntmps83
    go_wp2
    go_loop [1, 5] (fun q i => ∃ (k : Nat) (z : Int), k ≤ n ∧ i = .int .i64 k ∧ q = .int .i64 z ∧ 0 ≤ z ∧ z ≤ 1048576 ∧ Hid (szRows left (n :: ts.map (fun t => t.xs.length)) = szRows z ((ts.drop k).map (fun t => t.xs.length)))) (fun _ i => n - (intOf i).toNat)
    case atStart => exact ⟨0, left - n, by omega, rfl, rfl, by omega, by omega, by show _ = _; rw [szRows, if_neg (by omega)]; simp⟩
    case round =>
      obtain ⟨k, z, hk, rfl, rfl, hz0, hz1, he⟩ := hrel
      by_cases hlt : k < n
      · obtain ⟨t, b, off, hT, htm, rfl, _, hc, hr⟩ := hx.pick hlt
        have hrl := hns t htm
        by_cases hzl : z < (t.xs.length : Int)
        · have HS : Hid (szF z (t.xs.length : Int) = -1) := by show _ = _; unfold szF; rw [if_pos hzl]
          go_wp2_with (go_at_call 84; refine (szI _ _ _ _ _ (by omega) (by omega) (by omega)).mono ?_; rintro e w' ⟨rfl, rfl⟩; rw [HS.out])
          go_ret
          refine ⟨ret_int ?_, rfl⟩
          rw [he.out, szRows_at hT.out, if_pos hzl]
        · have HS : Hid (szF z (t.xs.length : Int) = z - (t.xs.length : Int)) := by show _ = _; unfold szF; rw [if_neg hzl]
          go_wp2_with (go_at_call 84; refine (szI _ _ _ _ _ (by omega) (by omega) (by omega)).mono ?_; rintro e w' ⟨rfl, rfl⟩; rw [HS.out])
          refine ⟨⟨k + 1, _, by omega, by go_num, rfl, by omega, by omega, ?_⟩, by simp [intOf]; omega⟩
          show _ = _
          rw [he.out, szRows_at hT.out, if_neg (by omega)]
      · go_wp2
        go_ret
        refine ⟨ret_int ?_, rfl⟩
        have := hx.len
        rw [he.out, List.drop_eq_nil_of_le (by omega)]
        rfl

set_option maxHeartbeats 400000 in
theorem eqII (A B : Option Addr) (n m c d : Nat) (ts us : List Sl) (w : World) (hx : SII w A n ts) (hy : SII w B m us) (hn : n ≤ 9223372036854775807) (hns : ∀ t ∈ ts, t.xs.length ≤ 9223372036854775807) :
    Calls Try.prog 94 #[.slice A n c, .slice B m d] w fun e w' => e = .returned (.bool (sameII (nums ts) (nums us))) ∧ ∃ q, w' = w.drewN q := by
  by_cases hnm : n = m
  · subst hnm
    go_enter Try.func94, Try.ntmps94
    go_wp2
    go_loopw [5] (fun i wr => ∃ k q : Nat, k ≤ n ∧ i = .int .i64 k ∧ Hid ((nums ts).take k = (nums us).take k) ∧ wr = w.drewN q) (fun i _ => n - (intOf i).toNat)
    case atStart => exact ⟨0, 0, by omega, rfl, rfl, rfl⟩
    case round =>
      obtain ⟨k, q, hk, rfl, he, rfl⟩ := hrel
      by_cases hlt : k < n
      · obtain ⟨t, b, off, hT, htm, rfl, _, hc, hr⟩ := hx.pick hlt
        obtain ⟨u, b', off', hU, hum, rfl, _, hc', hr'⟩ := hy.pick hlt
        have hrl := hns t htm
        go_wp2
        go_quiet ((go_at_call 95; exact quiet_add (eqI _ _ _ _ _ _ _ _ _ (hr.drewN _) (hr'.drewN _) hrl)))
        go_wp2
        · go_ret
          exact ⟨ret_bool (sameII_ne hT.out hU.out (by assumption)), _, World.drewN_drewN _ _ _⟩
        · exact ⟨⟨k + 1, _, by omega, by go_num, nums_next hT.out hU.out he.out (by assumption), rfl⟩, by simp [intOf]; omega⟩
      · go_wp2
        go_ret
        exact ⟨ret_bool (sameII_eq (by omega) hx.len hy.len he.out), _, rfl⟩
  · have hne : ((n : Int) != (m : Int)) = true := by simp; omega
    go_enter Try.func94, Try.ntmps94
    go_wp2
    go_ret
    exact ⟨ret_bool (by have := hx.len; have := hy.len; unfold sameII; symm; rw [decide_eq_false_iff_not]; intro h; have := congrArg List.length h; simp [nums] at this; omega), 0, rfl⟩

def ToII (w : World) (n : Nat) (xss : List (List Int)) (e : Ending) (w' : World) : Prop :=
  ∃ A us, e = .returned (.slice A n n) ∧ OII w' w.heap.size 26 2 A n n us ∧ nums us = xss ∧ (∀ u ∈ us, u.c = u.xs.length) ∧ Below w.heap.size w w'

set_option maxHeartbeats 400000 in
theorem toII (A : Option Addr) (n c : Nat) (ts : List Sl) (w : World) (hx : SII w A n ts) (hn : n ≤ 1048576) (hns : ∀ t ∈ ts, t.xs.length ≤ 1048576) :
    Calls Try.prog 89 #[.slice A n c] w (ToII w n (nums ts)) := by
  have HL := Lib.hid hx.len
  have hxl : n ≤ ts.length := by have := hx.len; omega
  have hxl' : ts.length ≤ n := by have := hx.len; omega
  go_enter Try.func89, Try.ntmps89
  go_wp2_with (at_make; refine wpList_make_Own rfl (.tmp 6) (.tmp 6) rfl elII (n := n) (lo := w.heap.size) rfl rfl (by omega) (by unfold maxLen; omega) (Nat.le_refl _) ?_; intro w2 ho2 hb2 hs2)
  rw [made_rows n] at ho2
  have HS := Lib.hid hs2
  clear hs2
  go_loopw [4] (fun i wr => ∃ (k : Nat) (us : List Sl), k ≤ n ∧ i = .int .i64 k ∧ Hid (us.length = k) ∧ Hid (nums us = (nums ts).take k) ∧ Own wr w.heap.size 26 1 (some ⟨w.heap.size, 0, none⟩) n n (halfRows us (n - k)) ∧
    Hid (∀ u ∈ us, Own wr w.heap.size 2 1 u.A u.xs.length u.c (ints u.xs) ∧ u.c = u.xs.length) ∧ us.Pairwise Apt ∧ Below w.heap.size w wr) (fun i _ => n - (intOf i).toNat)
  case atStart => exact ⟨0, [], by omega, rfl, rfl, by simp [nums, Hid], ho2, fun _ h => absurd h (by simp), List.Pairwise.nil, hb2⟩
  case round =>
    obtain ⟨k, us, hk, rfl, hul, hnu, ho, hu, hp, hb⟩ := hrel
    by_cases hlt : k < n
    · obtain ⟨t, b, off, hT, htm, rfl, hbl, hc, hr⟩ := (hx.below hb).pick hlt
      have hrl := hns t htm
      go_wp2_with fail
      refine (toI _ _ _ _ _ hr (by omega)).mono ?_
      rintro e w3 ⟨A3, rfl, ho3, hb3⟩
      have hwz : w.heap.size < wr.heap.size := ho.blk_lt w.heap.size rfl
      have ho4 := ho.below hb3
      have hkl : k < (halfRows us (n - k)).length := by rw [halfRows_len, hul.out]; omega
      obtain ⟨b', off', he, hlo, _, hc', hf'⟩ := ho4.at_ hkl
      simp only [Option.some.injEq, Addr.mk.injEq, and_true] at he
      obtain ⟨rfl, rfl⟩ := he
      have ho5 := ho4.set_ hkl (.slice A3 t.xs.length t.xs.length)
      have e5 : (halfRows us (n - k)).set k (.slice A3 t.xs.length t.xs.length) = halfRows (us ++ [⟨A3, t.xs.length, t.xs⟩]) (n - (k + 1)) := by
        have := halfRows_next us (n - (k + 1)) ⟨A3, t.xs.length, t.xs⟩
        rw [hul.out, show n - (k + 1) + 1 = n - k from by omega] at this
        exact this
      rw [e5] at ho5
      simp only [Nat.zero_add] at hc' hf' ho5
      have hb5 := ((hb.trans (hb3.mono (by omega))).setCell (p := ⟨w.heap.size, k, none⟩) (Nat.le_refl _) (.slice A3 t.xs.length t.xs.length))
      have hu5 : Hid (∀ u ∈ us ++ [(⟨A3, t.xs.length, t.xs⟩ : Sl)], Own (w3.setCell ⟨w.heap.size, k, none⟩ (.slice A3 t.xs.length t.xs.length)) w.heap.size 2 1 u.A u.xs.length u.c (ints u.xs) ∧ u.c = u.xs.length) := by
        intro u hum
        rcases List.mem_append.1 hum with h | h
        · refine ⟨((hu.out u h).1.below hb3).far (p := ⟨w.heap.size, k, none⟩) (fun e => ?_) _, (hu.out u h).2⟩
          exact Own.blk_ne ((hu.out u h).1) ho (by decide) _ e rfl
        · simp only [List.mem_singleton] at h
          subst h
          refine ⟨(ho3.mono (by omega)).far (p := ⟨w.heap.size, k, none⟩) (fun e => ?_) _, rfl⟩
          have := ho3.blk_ge _ e
          simp only at this; omega
      have hp5 : (us ++ [(⟨A3, t.xs.length, t.xs⟩ : Sl)]).Pairwise Apt := Apt.snoc hp (fun u hum b hb1 hb2 => by
        have h1 := (hu.out u hum).1.blk_lt b hb1
        have h2 := ho3.blk_ge b hb2
        omega)
      have hnu5 : Hid (nums (us ++ [(⟨A3, t.xs.length, t.xs⟩ : Sl)]) = (nums ts).take (k + 1)) := nums_take_next hT.out hnu.out rfl
      have hul5 : Hid ((us ++ [(⟨A3, t.xs.length, t.xs⟩ : Sl)]).length = k + 1) := by show _ = _; rw [List.length_append, hul.out]; rfl
      clear e5 ho4 ho
      go_wp2
      exact ⟨⟨k + 1, _, by omega, by go_num, hul5, hnu5, ho5, hu5, hp5, hb5⟩, by simp [intOf]; omega⟩
    · go_wp2
      go_ret
      have e1 : n - k = 0 := by omega
      have hoo := ho
      rw [e1, halfRows_end] at hoo
      refine ⟨_, us, rfl, ⟨hoo, fun u h => (hu.out u h).1, hp⟩, ?_, fun u h => (hu.out u h).2, hb⟩
      rw [hnu.out, List.take_of_length_le (by simp [nums]; omega)]

theorem total_take {ts : List Sl} {t : Sl} {k : Nat} (hT : ts[k]? = some t) : total (ts.take (k + 1)) = total (ts.take k) + t.xs.length := by
  obtain ⟨h, rfl⟩ := List.getElem?_eq_some_iff.1 hT
  unfold total; rw [List.take_succ_eq_append_getElem h, List.map_append, List.sum_append]; simp
theorem total_take_le (ts : List Sl) (k : Nat) : total (ts.take k) ≤ total ts := by
  have e : total ts = total (ts.take k) + total (ts.drop k) := by unfold total; rw [← List.sum_append, ← List.map_append, List.take_append_drop]
  omega

set_option maxHeartbeats 400000 in
theorem markII_m (T : List TypeId) (A : Option Addr) (n c : Nat) (ts : List Sl) (m : Int) (w : World) (lo hi : Nat) (hx : MkII w lo hi 26 2 A n c ts) (hT : 2 ∈ T) (hT2 : 26 ∉ T) (hn : n ≤ 9223372036854775807) (h0 : 0 ≤ m) (h1 : m + total ts ≤ 9223372036854775807) :
    Calls Try.prog 98 #[.slice A n c, .int .i64 m] w (MarkP T w lo hi (total ts) m) := by
  have hl : ts.length = n := by have := hx.1.1; simp at this; omega
  have HL := Lib.hid hl
  have HT := Lib.hid hT
  have HT2 := Lib.hid hT2
  clear hl hT hT2
  go_enter Try.func98, Try.ntmps98
  go_wp2
  go_loopw [1, 5] (fun q i wr => ∃ k : Nat, k ≤ n ∧ i = .int .i64 k ∧ q = .int .i64 (m + total (ts.take k)) ∧ MkII wr lo hi 26 2 A n c ts ∧ MkF T lo hi w wr) (fun _ i _ => n - (intOf i).toNat)
  case atStart => exact ⟨0, by omega, rfl, by simp [total], hx, MkF.refl _ _ _ _⟩
  case round =>
    obtain ⟨k, hk, rfl, rfl, ho, ht⟩ := hrel
    by_cases hlt : k < n
    · have hkl : k < ts.length := by have := HL.out; omega
      obtain ⟨t, hT⟩ : ∃ t, ts[k]? = some t := ⟨ts[k], List.getElem?_eq_getElem hkl⟩
      have hmem : t ∈ ts := List.mem_of_getElem? hT
      have HTO := Lib.hid (total_take hT)
      have hle := total_take_le ts (k + 1)
      obtain ⟨b, off, rfl, _, _, hc, _⟩ := ho.1.at_ (k := k) (by simpa using hkl)
      have hcv : wr.cell? ⟨b, off + k, none⟩ = some (.slice t.A t.xs.length t.c) := by rw [hc]; obtain ⟨h, rfl⟩ := List.getElem?_eq_some_iff.1 hT; simp [Sl.val]
      have hle2 : (total (ts.take k) : Int) + t.xs.length ≤ total ts := by have := HTO.out; omega
      clear hc hT hle
      go_wp2_with (go_at_call 99; refine (markI_m T _ _ _ _ _ lo hi (ho.2 t hmem) HT.out (by omega) (by omega)).mono ?_; rintro e w3 ⟨rfl, ht3⟩)
      refine ⟨⟨k + 1, by omega, by go_num, ?_, ho.mkf ht3 HT2.out, ht.trans ht3⟩, by simp [intOf]; omega⟩
      rw [HTO.out]; go_num
    · go_wp2
      go_ret
      refine ⟨ret_int ?_, ht⟩
      rw [List.take_of_length_le (by have := HL.out; omega)]
end Go.Proofs.Ytbpofkggoolmpaa

/-
  What the size helpers of the laws come to, in one form.
-/
namespace Go.Proofs.Ytbpofkggoolmpaa
open Go.RowKit
def SzP (w : World) (left tot : Int) (e : Ending) (w' : World) : Prop := ∃ z : Int, e = .returned (.int .i64 z) ∧ -1 ≤ z ∧ z ≤ left ∧ (0 ≤ z → z = left - tot) ∧ Below w.heap.size w w'
theorem szF_p {left : Int} {n : Nat} (h0 : 0 ≤ left) : -1 ≤ szF left n ∧ szF left n ≤ left ∧ (0 ≤ szF left n → szF left n = left - n) := by
  unfold szF; split <;> omega
theorem szI_p (A : Option Addr) (n c : Nat) (left : Int) (w : World) (hn : n ≤ 9223372036854775807) (h0 : 0 ≤ left) (h1 : left ≤ 1048576) :
    Calls Try.prog 84 #[.slice A n c, .int .i64 left] w (SzP w left n) :=
  (szI A n c left w hn h0 h1).mono fun _e _w' ⟨he, hw⟩ => ⟨_, he, (szF_p h0).1, (szF_p h0).2.1, (szF_p h0).2.2, hw ▸ Below.refl _ _⟩
theorem szR_p (A : Option Addr) (n c : Nat) (left : Int) (w : World) (hn : n ≤ 9223372036854775807) (h0 : 0 ≤ left) (h1 : left ≤ 1048576) : Calls Try.prog 82 #[.slice A n c, .int .i64 left] w (SzP w left n) := (szR A n c left w hn h0 h1).mono fun _e _w' ⟨he, hw⟩ => ⟨_, he, (szF_p h0).1, (szF_p h0).2.1, (szF_p h0).2.2, hw ▸ Below.refl _ _⟩
end Go.Proofs.Ytbpofkggoolmpaa

/-
  What the size helper over [][]int64 comes to, in one form; totals of rows.
-/
namespace Go.Proofs.Ytbpofkggoolmpaa
open Go.RowKit
theorem szRows_tot : ∀ (rows : List Nat) (left : Int), 0 ≤ left → -1 ≤ szRows left rows ∧ szRows left rows ≤ left ∧ (0 ≤ szRows left rows → szRows left rows = left - rows.sum)
  | [], left, h => by simp [szRows]; omega
  | n :: r, left, h => by
    rw [szRows]
    split
    · omega
    · rename_i hn
      have h2 := szRows_tot r (left - n) (by omega)
      simp only [List.sum_cons]
      omega
theorem szII_p (A : Option Addr) (n c : Nat) (ts : List Sl) (left : Int) (w : World) (hx : SII w A n ts) (hn : n ≤ 9223372036854775807) (hns : ∀ t ∈ ts, t.xs.length ≤ 9223372036854775807) (h0 : 0 ≤ left) (h1 : left ≤ 1048576) :
    Calls Try.prog 83 #[.slice A n c, .int .i64 left] w (SzP w left ((n + total ts : Nat) : Int)) :=
  (szII A n c ts left w hx hn hns h0 h1).mono fun _e _w' ⟨he, hw⟩ => by
    have h2 := szRows_tot (n :: ts.map (fun t => t.xs.length)) left h0
    have h3 : (n :: ts.map (fun t => t.xs.length)).sum = n + total ts := by simp [total]
    rw [h3] at h2
    exact ⟨_, he, h2.1, h2.2.1, h2.2.2, hw ▸ Below.refl _ _⟩
theorem row_total {ts : List Sl} {t : Sl} (h : t ∈ ts) : t.xs.length ≤ total ts := by
  unfold total
  obtain ⟨a, b, rfl⟩ := List.append_of_mem h
  simp; omega
theorem total_of_nums (ts : List Sl) : total ts = ((nums ts).map List.length).sum := by simp [total, nums, Function.comp_def]
theorem total_same {ts us : List Sl} (h : nums us = nums ts) : total us = total ts := by rw [total_of_nums, total_of_nums, h]
theorem rows_le {ts us : List Sl} (h : nums us = nums ts) {b : Nat} (hb : ∀ t ∈ ts, t.xs.length ≤ b) : ∀ u ∈ us, u.xs.length ≤ b := by
  intro u hu
  have h1 : u.xs ∈ nums us := List.mem_map.2 ⟨u, hu, rfl⟩
  rw [h] at h1
  obtain ⟨t, ht, e⟩ := List.mem_map.1 h1
  rw [← e]; exact hb t ht
end Go.Proofs.Ytbpofkggoolmpaa

/-
  Words that the laws' walks share: a box that a region made, contracts of the helpers in one form.
-/
namespace Go.Proofs.Ytbpofkggoolmpaa
open Go.RowKit

theorem Own.asI {w : World} {lo n c : Nat} {e : TypeId} {A : Option Addr} {xs : List Int} (h : Own w lo e 1 A n c (ints xs)) : SI w A n xs := h.rd
theorem Own.as3 {w : World} {lo n c : Nat} {e : TypeId} {A : Option Addr} {xs : List R3} (h : Own w lo e 3 A n c (cells3 xs)) : S3 w A n xs := h.rd
/-- A block from lo on that is known whole. -/
def Bx (lo : Nat) (t : TypeId) (cs : Array Value) (g : Nat) (w : World) : Prop := lo ≤ g ∧ Blk w g t cs
theorem Bx.new {lo : Nat} (w : World) (t : TypeId) (cs : Array Value) (h : lo ≤ w.heap.size) : Bx lo t cs w.heap.size (w.alloc (.cells cs t)) := ⟨h, Blk.new w t cs⟩
theorem Bx.below' {lo g : Nat} {t : TypeId} {cs : Array Value} {w w' : World} (h : Bx lo t cs g w) (z : Below w.heap.size w w') : Bx lo t cs g w' := ⟨h.1, h.2.below' z⟩
theorem Bx.drewN {lo g : Nat} {t : TypeId} {cs : Array Value} {w : World} (h : Bx lo t cs g w) (n : Nat) : Bx lo t cs g (w.drewN n) := ⟨h.1, h.2.drewN n⟩
theorem below_of_alloc {w w' : World} {o : Obj} (h : Below (w.alloc o).heap.size (w.alloc o) w') : Below w.heap.size w w' :=
  ((Below.refl _ _).alloc (Nat.le_refl _) o).trans (h.mono (by simp))
theorem eqI_b (A B : Option Addr) (n m c d : Nat) (xs ys : List Int) (w : World) (hx : SI w A n xs) (hy : SI w B m ys) (hn : n ≤ 9223372036854775807) :
    Calls Try.prog 95 #[.slice A n c, .slice B m d] w fun e w' => e = .returned (.bool (sameI xs ys)) ∧ Below w.heap.size w w' :=
  (eqI A B n m c d xs ys w hx hy hn).mono fun _ _ ⟨he, q, hq⟩ => ⟨he, hq ▸ below_drewN (Below.refl _ _) q⟩
theorem heldI_b (A : Option Addr) (n c : Nat) (xs : List Int) (m : Int) (w : World) (hx : SI w A n xs) (h0 : 0 ≤ m) (h1 : m + n ≤ 9223372036854775807) : Calls Try.prog 101 #[.slice A n c, .int .i64 m] w fun e w' => e = .returned (.int .i64 (heldF m xs)) ∧ Below w.heap.size w w' := (heldI A n c xs m w hx h0 h1).mono fun _ _ ⟨he, hq⟩ => ⟨he, hq ▸ Below.refl _ _⟩
theorem sameII_self (xs : List (List Int)) : sameII xs xs = true := by simp [sameII]
theorem eqII_b (A B : Option Addr) (n m c d : Nat) (ts us : List Sl) (w : World) (hx : SII w A n ts) (hy : SII w B m us) (hn : n ≤ 9223372036854775807) (hns : ∀ t ∈ ts, t.xs.length ≤ 9223372036854775807) : Calls Try.prog 94 #[.slice A n c, .slice B m d] w fun e w' => e = .returned (.bool (sameII (nums ts) (nums us))) ∧ Below w.heap.size w w' := (eqII A B n m c d ts us w hx hy hn hns).mono fun _ _ ⟨he, q, hq⟩ => ⟨he, hq ▸ below_drewN (Below.refl _ _) q⟩
end Go.Proofs.Ytbpofkggoolmpaa

/-
  A configuration that a law keeps in a box.
-/
namespace Go.Proofs.Ytbpofkggoolmpaa
open Go.RowKit
theorem conf_ne {w : World} {g : Nat} {cs : Array Value} {lo s n' c' : Nat} {X : Option Addr} {xs : List Value} (h : Blk w g 50 cs) (h' : Own w lo 2 s X n' c' xs) : blk X ≠ some g := by
  intro hb
  rcases h'.2 with ⟨rfl, _⟩ | ⟨b, off, cur, rfl, _, hg, _⟩
  · simp [blk] at hb
  · simp [blk] at hb; subst hb
    unfold Blk at h
    rw [hg] at h
    simp at h
theorem conf_far2 {w : World} {g lo n c : Nat} {A : Option Addr} {cs : List Value} {vs : Array Value} (hg : Blk w g 50 vs) (h : Own w lo 2 1 A n c cs) (x y z : Value) : Own (((w.setCell ⟨g, 0, none⟩ x).setCell ⟨g, 1, none⟩ y).setCell ⟨g, 2, none⟩ z) lo 2 1 A n c cs := by
  have hb : blk A ≠ some g := conf_ne hg h
  exact ((h.far (p := ⟨g, 0, none⟩) hb _).far (p := ⟨g, 1, none⟩) hb _).far (p := ⟨g, 2, none⟩) hb _
/-- A result of StepMachine in a box. -/
def ConfBox (lo : Nat) (W : World) (s6 s7 : Value) (r : Conf × Int) (wx : World) : Prop :=
  ∃ g L c R d, s6 = .pointer (some ⟨g, 0, none⟩) ∧ s7 = .int .i64 r.2 ∧ lo ≤ g ∧ Blk wx g 50 #[.int .i64 r.1.q, .slice L r.1.xs.length c, .slice R r.1.ys.length d] ∧ Own wx lo 2 1 L r.1.xs.length c (ints r.1.xs) ∧ Own wx lo 2 1 R r.1.ys.length d (ints r.1.ys) ∧ (∀ b, blk L = some b → blk R ≠ some b) ∧ Below W.heap.size W wx
theorem stepMachF_len (sy st : Int) (rs : List R3) (q : Int) (xs ys : List Int) : (stepMachF sy st rs q xs ys).1.xs.length ≤ 1048576 ∧ (stepMachF sy st rs q xs ys).1.ys.length ≤ 1048576 := by
  unfold stepMachF
  split
  · split
    · split
      · rename_i h
        unfold roomC roomB at h
        simp only [Bool.and_eq_true, decide_eq_true_eq] at h
        exact ⟨by show (stepC (ruleOf sy rs q ys) xs ys).xs.length ≤ _; omega, by show (stepC (ruleOf sy rs q ys) xs ys).ys.length ≤ _; omega⟩
      · simp
    · simp
  · simp
end Go.Proofs.Ytbpofkggoolmpaa

/-
  Contracts of impl.RunMachine and spec.RunMachine: both return what runMachF says.
-/
namespace Go.Proofs.Ytbpofkggoolmpaa
open Go.RowKit

/-- What RunMachine returns. -/
def runMachF (sy st : Int) (rs : List R3) (q : Int) (xs ys : List Int) (b : Int) : Conf × Int × Bool × Int :=
  if validConfB sy st rs q xs ys then
    if inB b 1 20000 then
      match runN sy rs b.toNat ⟨q, xs, ys⟩ with
      | some i => (itC sy rs ⟨q, xs, ys⟩ i, (i : Int), haltC sy rs (itC sy rs ⟨q, xs, ys⟩ i), 0)
      | none => (⟨0, [], []⟩, 0, false, 5)
    else (⟨0, [], []⟩, 0, false, 2)
  else (⟨0, [], []⟩, 0, false, 1)
theorem Alive.cons {sy : Int} {rs : List R3} {c : Conf} {i : Nat} (h1 : haltC sy rs c = false) (h2 : roomC (nextC sy rs c) = true) (h : Alive sy rs (nextC sy rs c) i) : Alive sy rs c (i + 1) := fun j hj => by
  cases j with
  | zero => exact ⟨h1, h2⟩
  | succ j =>
    have h3 := h j (by omega)
    rw [itC_shift, itC_shift] at h3
    exact h3
theorem runN_alive {sy : Int} {rs : List R3} : ∀ {N : Nat} {c : Conf} {i : Nat}, runN sy rs N c = some i → Alive sy rs c i := by
  intro N
  induction N with
  | zero => intro c i h; unfold runN at h; cases h; exact Alive.zero _ _ _
  | succ N ih =>
    intro c i h
    unfold runN at h
    split at h
    · cases h; exact Alive.zero _ _ _
    · rename_i h1
      split at h
      · rename_i h2
        cases h3 : runN sy rs N (nextC sy rs c) with
        | none => rw [h3] at h; cases h
        | some j =>
          rw [h3] at h
          obtain rfl : j + 1 = i := by simpa using h
          exact (ih h3).cons (by simpa using h1) h2
      · cases h
theorem runMachF_len (sy st : Int) (rs : List R3) (q : Int) (xs ys : List Int) (b : Int) : (runMachF sy st rs q xs ys b).1.xs.length ≤ 1048576 ∧ (runMachF sy st rs q xs ys b).1.ys.length ≤ 1048576 := by
  unfold runMachF
  split
  · rename_i h1
    split
    · split
      · rename_i i hi
        have hg : goodC sy st rs (itC sy rs ⟨q, xs, ys⟩ i) := (runN_alive hi).good h1
        have hp := conf_parts hg
        have h2 := hp.2.2.2.2.2.2.2.1
        have h3 := hp.2.2.2.2.2.2.2.2.1
        exact ⟨by show (itC sy rs ⟨q, xs, ys⟩ i).xs.length ≤ _; omega, by show (itC sy rs ⟨q, xs, ys⟩ i).ys.length ≤ _; omega⟩
      · simp
    · simp
  · simp
/-- A configuration in new memory, a number, a Bool and a code. -/
def NewConf4 (w : World) (r : Conf × Int × Bool × Int) (e : Ending) (w' : World) : Prop :=
  ∃ L c R d, e = .returned (.tuple #[.agg #[.int .i64 r.1.q, .slice L r.1.xs.length c, .slice R r.1.ys.length d], .int .i64 r.2.1, .bool r.2.2.1, .int .i64 r.2.2.2]) ∧ Own w' w.heap.size 2 1 L r.1.xs.length c (ints r.1.xs) ∧ Own w' w.heap.size 2 1 R r.1.ys.length d (ints r.1.ys) ∧ (∀ b, blk L = some b → blk R ≠ some b) ∧ Below w.heap.size w w'
theorem newConf4_zero {w wf : World} {k : Int} {r : Conf × Int × Bool × Int} (hr : r = (⟨0, [], []⟩, 0, false, k)) (hz : Below w.heap.size w wf) : NewConf4 w r (.returned (.tuple #[.agg #[.int .i64 0, .slice none 0 0, .slice none 0 0], .int .i64 0, .bool false, .int .i64 k])) wf := by
  subst hr
  exact ⟨none, 0, none, 0, rfl, Own.nil, Own.nil, fun b h => by simp [blk] at h, hz⟩
/-- A result of RunMachine in a box. -/
def ConfBox4 (lo : Nat) (W : World) (s6 s7 s8 s9 : Value) (r : Conf × Int × Bool × Int) (wx : World) : Prop :=
  ∃ g L c R d, s6 = .pointer (some ⟨g, 0, none⟩) ∧ s7 = .int .i64 r.2.1 ∧ s8 = .bool r.2.2.1 ∧ s9 = .int .i64 r.2.2.2 ∧ lo ≤ g ∧ Blk wx g 50 #[.int .i64 r.1.q, .slice L r.1.xs.length c, .slice R r.1.ys.length d] ∧ Own wx lo 2 1 L r.1.xs.length c (ints r.1.xs) ∧ Own wx lo 2 1 R r.1.ys.length d (ints r.1.ys) ∧ (∀ b, blk L = some b → blk R ≠ some b) ∧ Below W.heap.size W wx

set_option maxHeartbeats 4000000 in
theorem runMachine_any (sy st : Int) (A : Option Addr) (n k : Nat) (rs : List R3) (q : Int) (B : Option Addr) (m c : Nat) (xs : List Int) (C : Option Addr) (l d : Nat) (ys : List Int) (b : Int) (w : World) (hr : S3 w A n rs) (hx : SI w B m xs) (hy : SI w C l ys) (hn : n ≤ 1048576) (hm : m ≤ 1048576) (hl : l ≤ 1048576) :
    Calls Try.prog 28 #[.agg #[.int .i64 sy, .int .i64 st, .slice A n k], .agg #[.int .i64 q, .slice B m c, .slice C l d], .int .i64 b] w (NewConf4 w (runMachF sy st rs q xs ys b)) := by
  obtain ⟨W, hW_⟩ : ∃ W, W = ((w.alloc (.cells #[.int .i64 sy, .int .i64 st, .slice A n k] 36)).alloc (.cells #[.int .i64 q, .slice B m c, .slice C l d] 50)).alloc (.cells #[.int .i64 0, .slice none 0 0, .slice none 0 0] 50) := ⟨_, rfl⟩
  have s_1 : (w.alloc (.cells #[.int .i64 sy, .int .i64 st, .slice A n k] 36)).heap.size = w.heap.size + 1 := by simp
  have s_2 : ((w.alloc (.cells #[.int .i64 sy, .int .i64 st, .slice A n k] 36)).alloc (.cells #[.int .i64 q, .slice B m c, .slice C l d] 50)).heap.size = w.heap.size + 1 + 1 := by simp
  have b0 : Blk W w.heap.size 36 #[.int .i64 sy, .int .i64 st, .slice A n k] := by rw [hW_]; exact ((Blk.new w _ _).alloc _).alloc _
  have b1 : Blk W (w.heap.size + 1) 50 #[.int .i64 q, .slice B m c, .slice C l d] := by rw [hW_, ← s_1]; exact (Blk.new _ _ _).alloc _
  have b2 : Blk W (w.heap.size + 1 + 1) 50 #[.int .i64 0, .slice none 0 0, .slice none 0 0] := by rw [hW_, ← s_2]; exact Blk.new _ _ _
  have y0 : Below w.heap.size w W := by rw [hW_]; exact (((Below.refl _ _).alloc (Nat.le_refl _) _).alloc (by simp) _).alloc (by simp; omega) _
  have HW := Lib.hid hW_
  clear hW_ s_1 s_2
  go_enter Try.func28, Try.ntmps28
  go_wp2_with fail
  rw [← HW.out]
  refine (validConfig_any _ _ _ _ _ rs _ _ _ _ xs _ _ _ ys _ (hr.below y0) (hx.below y0) (hy.below y0) hn hm hl).mono ?_
  rintro e w2 ⟨rfl, z2⟩
  have y2 := y0.trans (z2.mono y0.size)
  have c0 := b0.below' z2
  have c1 := b1.below' z2
  have c2 := b2.below' z2
  have hg2 : w.heap.size + 1 + 1 < w2.heap.size := c2.lt
  have q0 : w2.cell? ⟨w.heap.size, 0, none⟩ = some (.int .i64 sy) := c0.cell 0
  have q1 : w2.cell? ⟨w.heap.size, 1, none⟩ = some (.int .i64 st) := c0.cell 1
  have q2 : w2.cell? ⟨w.heap.size, 2, none⟩ = some (.slice A n k) := c0.cell 2
  have r0 : w2.cell? ⟨(w.heap.size + 1), 0, none⟩ = some (.int .i64 q) := c1.cell 0
  have r1 : w2.cell? ⟨(w.heap.size + 1), 1, none⟩ = some (.slice B m c) := c1.cell 1
  have r2 : w2.cell? ⟨(w.heap.size + 1), 2, none⟩ = some (.slice C l d) := c1.cell 2
  have u0 : w2.cell? ⟨(w.heap.size + 1 + 1), 0, none⟩ = some (.int .i64 0) := c2.cell 0
  have u1 : w2.cell? ⟨(w.heap.size + 1 + 1), 1, none⟩ = some (.slice none 0 0) := c2.cell 1
  have u2 : w2.cell? ⟨(w.heap.size + 1 + 1), 2, none⟩ = some (.slice none 0 0) := c2.cell 2
  have f0 := c2.frozen 0
  have f1 := c2.frozen 1
  have f2 := c2.frozen 2
  cases a1 : validConfB sy st rs q xs ys
  · have A1 := Lib.hid a1
    clear a1
    go_wp2_with fail
    have d1 := conf_set c2 (.int .i64 0) (.slice none 0 0) (.slice none 0 0)
    exact bodyPost_ret (v := .tuple #[.agg #[.int .i64 0, .slice none 0 0, .slice none 0 0], .int .i64 0, .bool false, .int .i64 1]) (by simp [results, Try.results28, go_sem, d1.cell 0, d1.cell 1, d1.cell 2]) rfl (newConf4_zero (by unfold runMachF; rw [A1.out]; rfl) (conf_below y2 (by omega) _ _ _))
  have hgc : goodC sy st rs ⟨q, xs, ys⟩ := a1
  have A1 := Lib.hid a1
  clear a1
  cases a2 : inB b 1 20000
  · have A2 := Lib.hid a2
    clear a2
    go_wp2_with (go_at_call 112; refine (budgetOk_is A2.out _).mono ?_; rintro e w' ⟨rfl, rfl⟩)
    have d1 := conf_set c2 (.int .i64 0) (.slice none 0 0) (.slice none 0 0)
    exact bodyPost_ret (v := .tuple #[.agg #[.int .i64 0, .slice none 0 0, .slice none 0 0], .int .i64 0, .bool false, .int .i64 2]) (by simp [results, Try.results28, go_sem, d1.cell 0, d1.cell 1, d1.cell 2]) rfl (newConf4_zero (by unfold runMachF; rw [A1.out, A2.out]; rfl) (conf_below y2 (by omega) _ _ _))
  have A2 := Lib.hid a2
  have hb := (inB_iff _ _ _).1 a2
  obtain ⟨N, rfl⟩ : ∃ N : Nat, b = (N : Int) := ⟨b.toNat, by omega⟩
  clear a2
  go_wp2_with (go_at_call 112; refine (budgetOk_is A2.out _).mono ?_; rintro e w' ⟨rfl, rfl⟩)
  refine (runnerOf_any _ _ _ _ _ _ _ _ _ xs _ _ _ ys _ (hx.below y2) (hy.below y2) hm hl).mono ?_
  rintro e w3 ⟨g, L, cl, R, cr, rfl, hg, hrun, ol, or_, hap, z3⟩
  have hrc : RunC (fun _ => False) w3 w2.heap.size g sy st A n k ⟨q, xs, ys⟩ := NewRunner.runC hrun ol or_ hap
  clear hap hrun ol or_ q0 q1 q2 r0 r1 r2 u0 u1 u2 f0 f1 f2
  go_wp2_with fail
  refine (run_any w2 w3 g sy st A n k rs ⟨q, xs, ys⟩ N hrc (hr.below y2) z3 hg hgc hn (by omega)).mono ?_
  rintro e w4 ⟨hcase, z4⟩
  have y4 := y2.trans (z4.mono y2.size)
  have e2 := c2.below' z4
  have hg4 : w.heap.size + 1 + 1 < w4.heap.size := e2.lt
  have u0 : w4.cell? ⟨(w.heap.size + 1 + 1), 0, none⟩ = some (.int .i64 0) := e2.cell 0
  have u1 : w4.cell? ⟨(w.heap.size + 1 + 1), 1, none⟩ = some (.slice none 0 0) := e2.cell 1
  have u2 : w4.cell? ⟨(w.heap.size + 1 + 1), 2, none⟩ = some (.slice none 0 0) := e2.cell 2
  have f0 := e2.frozen 0
  have f1 := e2.frozen 1
  have f2 := e2.frozen 2
  rcases hcase with ⟨i, hi, rfl, hrc4⟩ | ⟨⟨i, hi⟩, rfl⟩
  · have hF : runMachF sy st rs q xs ys (N : Int) = (itC sy rs ⟨q, xs, ys⟩ i, (i : Int), haltC sy rs (itC sy rs ⟨q, xs, ys⟩ i), 0) := by
      unfold runMachF; rw [A1.out, A2.out, Int.toNat_natCast, runN_ended hi]; rfl
    have HF := Lib.hid hF
    have hp := conf_parts (hi.2.1.good hgc)
    have hl1 : (itC sy rs ⟨q, xs, ys⟩ i).xs.length ≤ 200 := hp.2.2.2.2.2.2.2.1
    have hl2 : (itC sy rs ⟨q, xs, ys⟩ i).ys.length ≤ 200 := hp.2.2.2.2.2.2.2.2.1
    clear hF hp hi
    go_wp2_with fail
    generalize itC sy rs ⟨q, xs, ys⟩ i = cf at *
    refine (config_any _ _ _ _ _ _ _ _ _ _ _ hrc4.sides (by rw [List.length_reverse]; omega) (by rw [List.length_reverse]; omega)).mono ?_
    rintro e w6 ⟨L6, c6, R6, d6, rfl, ol6, or6, hap6, z6⟩
    rw [List.reverse_reverse] at ol6 or6
    rw [List.reverse_reverse, List.reverse_reverse]
    have HAP6 := Lib.hid hap6
    clear hap6 u0 u1 u2 f0 f1 f2
    have e4 := e2.below' z6
    have y6 := y4.trans (z6.mono y4.size)
    have hz6 : w2.heap.size ≤ w4.heap.size := z4.size
    have u0 : w6.cell? ⟨(w.heap.size + 1 + 1), 0, none⟩ = some (.int .i64 0) := e4.cell 0
    have u1 : w6.cell? ⟨(w.heap.size + 1 + 1), 1, none⟩ = some (.slice none 0 0) := e4.cell 1
    have u2 : w6.cell? ⟨(w.heap.size + 1 + 1), 2, none⟩ = some (.slice none 0 0) := e4.cell 2
    have f0 := e4.frozen 0
    have f1 := e4.frozen 1
    have f2 := e4.frozen 2
    go_wp2_with fail
    have d1 := conf_set e4 (.int .i64 cf.q) (.slice L6 cf.xs.length c6) (.slice R6 cf.ys.length d6)
    refine bodyPost_ret (v := .tuple #[.agg #[.int .i64 cf.q, .slice L6 cf.xs.length c6, .slice R6 cf.ys.length d6], .int .i64 (i : Int), .bool (haltC sy rs cf), .int .i64 0]) (by simp [results, Try.results28, go_sem, d1.cell 0, d1.cell 1, d1.cell 2]) rfl ?_
    rw [HF.out]
    exact ⟨L6, c6, R6, d6, rfl, (conf_far ol6 (by omega) _ _ _).mono (by omega), (conf_far or6 (by omega) _ _ _).mono (by omega), HAP6.out, conf_below y6 (by omega) _ _ _⟩
  · have hF : runMachF sy st rs q xs ys (N : Int) = (⟨0, [], []⟩, 0, false, 5) := by
      unfold runMachF; rw [A1.out, A2.out, Int.toNat_natCast, runN_full hi]; rfl
    have HF := Lib.hid hF
    clear hF hi
    go_wp2_with fail
    have d1 := conf_set e2 (.int .i64 0) (.slice none 0 0) (.slice none 0 0)
    exact bodyPost_ret (v := .tuple #[.agg #[.int .i64 0, .slice none 0 0, .slice none 0 0], .int .i64 0, .bool false, .int .i64 5]) (by simp [results, Try.results28, go_sem, d1.cell 0, d1.cell 1, d1.cell 2]) rfl (newConf4_zero HF.out (conf_below y4 (by omega) _ _ _))

end Go.Proofs.Ytbpofkggoolmpaa

/-
  Contracts of impl's checks of words and proofs: isLetters, IsWord, areWords, ValidProof, proofOf, afterSteps, CheckHalt.
-/
namespace Go.Proofs.Ytbpofkggoolmpaa
open Go.RowKit

/-- A word. -/
def isWordB (xs : List Int) : Bool := decide (xs.length ≤ 400) && allIn xs 0 9
def areWordsB (xss : List (List Int)) : Bool := xss.all isWordB
theorem areWordsB_not (xss : List (List Int)) : (!xss.any (fun xs => !isWordB xs)) = areWordsB xss := by
  unfold areWordsB; rw [List.not_any_eq_all_not]; simp

set_option maxHeartbeats 400000 in
theorem indexFuncII0_any (A : Option Addr) (n c : Nat) (ts : List Sl) (f : FuncId) (p : List Int → Bool) (w : World) (hx : SII w A n ts) (hn : n ≤ 9223372036854775807) (hcall : ∀ (args : Array Value) (w : World), (callFunc f args).run Try.prog w = .ok (.enter f args) w)
    (hf : Hid (∀ t ∈ ts, Calls Try.prog f #[.slice t.A t.xs.length t.c] w fun e w' => e = .returned (.bool (p t.xs)) ∧ w = w')) :
    Calls Try.prog 289 #[.slice A n c, .func (.func f) #[] #[]] w fun e w' => e = .returned (.int .i64 (firstB p (nums ts))) ∧ w = w' := by
  go_enter Try.func289, Try.ntmps289
  go_wp2
  go_loop [8] (fun i => ∃ k : Nat, k ≤ n ∧ i = .int .i64 k ∧ Hid (((nums ts).take k).any p = false)) (fun i => n - (intOf i).toNat)
  case atStart => exact ⟨0, by omega, rfl, rfl⟩
  case round =>
    obtain ⟨k, hk, rfl, he⟩ := hrel
    by_cases hlt : k < n
    · obtain ⟨t, b, off, hT, htm, rfl, _, hc, hr⟩ := hx.pick hlt
      go_wp2_with fail
      refine (hf.out t htm).mono ?_
      rintro e w' ⟨rfl, rfl⟩
      cases hp : p t.xs
      · have HP := Lib.hid hp
        clear hp
        go_wp2
        exact ⟨⟨k + 1, by omega, by go_num, firstB_next hT.out HP.out he.out⟩, by simp [intOf]; omega⟩
      · have HP := Lib.hid hp
        clear hp
        go_wp2
        go_ret
        exact ⟨ret_int (firstB_at hT.out HP.out he.out), rfl⟩
    · go_wp2
      go_ret
      exact ⟨ret_int (firstB_none (by omega) hx.len he.out), rfl⟩
theorem containsFuncII0_any (A : Option Addr) (n c : Nat) (ts : List Sl) (f : FuncId) (p : List Int → Bool) (w : World) (hx : SII w A n ts) (hn : n ≤ 9223372036854775807) (hcall : ∀ (args : Array Value) (w : World), (callFunc f args).run Try.prog w = .ok (.enter f args) w)
    (hf : Hid (∀ t ∈ ts, Calls Try.prog f #[.slice t.A t.xs.length t.c] w fun e w' => e = .returned (.bool (p t.xs)) ∧ w = w')) :
    Calls Try.prog 246 #[.slice A n c, .func (.func f) #[] #[]] w fun e w' => e = .returned (.bool ((nums ts).any p)) ∧ w = w' := by
  go_enter Try.func246, Try.ntmps246
  go_wp2_with (go_at_call 289; refine (indexFuncII0_any _ _ _ ts _ p _ hx hn hcall hf).mono ?_; rintro e w' ⟨rfl, rfl⟩)
  go_ret
  exact ⟨ret_bool (firstB_ge p (nums ts)), rfl⟩
/-- A valid proof. -/
def validProofB (q : Int) (xs : List Int) (xss : List (List Int)) : Bool := inB q 1 8 && decide (xs.length ≤ 300) && decide (xss.length ≤ 300) && allIn xs (-1000000000000) 1000000000000 && areWordsB xss

/-- A machine and a proof of a kind, with so many numbers and no words. -/
def proofOfB (sy st : Int) (rs : List R3) (q : Int) (xs : List Int) (xss : List (List Int)) (kd : Int) (nn : Nat) : Bool :=
  machB sy st rs && validProofB q xs xss && decide (q = kd) && decide (xs.length = nn) && decide (xss.length = 0)

/-- A runner behind N steps from the blank tape, and whether they can be made. -/
def AfterP (w : World) (sy st : Int) (A : Option Addr) (n k : Nat) (rs : List R3) (N : Nat) (e : Ending) (w' : World) : Prop :=
  ∃ g v, e = .returned (.tuple #[.pointer (some ⟨g, 0, none⟩), .bool v]) ∧ w.heap.size ≤ g ∧ (v = true → Alive sy rs blankC N ∧ RunC (fun _ => False) w' w.heap.size g sy st A n k (itC sy rs blankC N)) ∧ (v = false → ¬ Alive sy rs blankC N) ∧ Below w.heap.size w w'

theorem RunC.lo_mono {X : Nat → Prop} {w : World} {lo lo' g : Nat} {sy st : Int} {A : Option Addr} {n k : Nat} {c : Conf} (h : RunC X w lo g sy st A n k c) (hl : lo' ≤ lo) : RunC X w lo' g sy st A n k c := by
  obtain ⟨L, a, R, d, h1, h2, h3, h4⟩ := h
  exact ⟨L, a, R, d, h1, h2.mono hl, h3.mono hl, h4⟩
theorem Alive.mono {sy : Int} {rs : List R3} {c : Conf} {i j : Nat} (h : Alive sy rs c j) (hij : i ≤ j) : Alive sy rs c i := fun k hk => h k (by omega)
theorem not_alive_ended {sy : Int} {rs : List R3} {c : Conf} {N i : Nat} (h : Ended sy rs c N i) (hne : ¬ i = N) : ¬ Alive sy rs c N := by
  intro ha
  obtain ⟨h1, h2, h3⟩ := h
  rcases h3 with h3 | h3
  · exact hne h3
  · have h4 := (ha i (by omega)).1
    rw [h3] at h4; cases h4
theorem not_alive_full {sy : Int} {rs : List R3} {c : Conf} {N i : Nat} (h : Full sy rs c N i) : ¬ Alive sy rs c N := by
  intro ha
  obtain ⟨h1, h2, h3, h4⟩ := h
  have h5 := (ha i h1).2
  rw [h4] at h5; cases h5

/-- Whether N steps can be made. -/
def aliveB (sy : Int) (rs : List R3) (c : Conf) (N : Nat) : Bool := decide (runN sy rs N c = some N)
theorem aliveB_true {sy : Int} {rs : List R3} {c : Conf} {N : Nat} (h : Alive sy rs c N) : aliveB sy rs c N = true := by
  unfold aliveB; rw [runN_ended ⟨Nat.le_refl _, h, .inl rfl⟩]; simp
theorem aliveB_false {sy : Int} {rs : List R3} {c : Conf} {N : Nat} (h : ¬ Alive sy rs c N) : aliveB sy rs c N = false := by
  unfold aliveB
  rw [decide_eq_false_iff_not]
  exact fun h1 => h (runN_alive h1)
/-- What CheckHalt returns. -/
def checkHaltF (sy st : Int) (rs : List R3) (q : Int) (xs : List Int) (xss : List (List Int)) : Bool :=
  proofOfB sy st rs q xs xss 1 1 && inB (xs.headD 0) 0 20000 && aliveB sy rs blankC (xs.headD 0).toNat && haltC sy rs (itC sy rs blankC (xs.headD 0).toNat)
theorem proofOf_parts {sy st : Int} {rs : List R3} {q : Int} {xs : List Int} {xss : List (List Int)} {kd : Int} {nn : Nat} (h : proofOfB sy st rs q xs xss kd nn = true) : goodC sy st rs blankC ∧ xs.length = nn := by
  unfold proofOfB at h
  simp only [Bool.and_eq_true, decide_eq_true_eq] at h
  exact ⟨by show validConfB sy st rs 0 [] [] = true; rw [blank_good]; exact h.1.1.1.1, h.1.2⟩

end Go.Proofs.Ytbpofkggoolmpaa

/-
  Formula tapes in plain words: validity, shifts over a repeater, steps and runs.
-/
namespace Go.Proofs.Ytbpofkggoolmpaa

/-- A formula tape: state, head, place, walls, repeaters, offsets. -/
structure Fm where
  q : Int
  h : Int
  a : Int
  W : List (List Int)
  R : List (List Int)
  O : List Int
def Fm.zero : Fm := ⟨0, 0, 0, [], [], []⟩
def wallB (sy : Int) (w : List Int) : Bool := decide ((w.length : Int) ≤ 100) && allIn w 0 (sy - 1)
def repB (sy : Int) (w : List Int) : Bool := inB w.length 1 20 && allIn w 0 (sy - 1)
def rowAt (M : List (List Int)) (i : Int) : List Int := M.getD i.toNat []
def shapeB (st : Int) (f : Fm) : Bool := inB f.q 0 (st - 1) && inB f.R.length 1 3 && decide (f.W.length = f.R.length + 1) && decide (f.O.length = f.R.length)
def atB (f : Fm) : Bool := inB f.a 0 ((rowAt f.W f.h).length - 1) || (decide (f.a = (rowAt f.W f.h).length) && decide (f.h < f.R.length)) || (decide (f.a = -1) && decide (0 < f.h))
def fmB (sy st : Int) (f : Fm) : Bool := shapeB st f && f.W.all (wallB sy) && f.R.all (repB sy) && allIn f.O (-1000) 1000 && inB f.h 0 f.R.length && atB f

theorem shapeB_iff {st : Int} {f : Fm} : shapeB st f = true ↔ inB f.q 0 (st - 1) = true ∧ 1 ≤ f.R.length ∧ f.R.length ≤ 3 ∧ f.W.length = f.R.length + 1 ∧ f.O.length = f.R.length := by
  unfold shapeB inB; simp; omega

/-- The reference's bounds of the place. -/
def lowF (f : Fm) : Int := if 0 < f.h then -1 else 0
def highF (f : Fm) : Int := if f.h = f.R.length then ((rowAt f.W f.h).length : Int) - 1 else (rowAt f.W f.h).length
theorem atB_eq {f : Fm} (h : inB f.h 0 f.R.length = true) : atB f = inB f.a (lowF f) (highF f) := by
  unfold inB at h
  unfold atB inB lowF highF
  simp only [Bool.and_eq_true, decide_eq_true_eq] at h
  rw [Bool.eq_iff_iff]
  simp only [Bool.or_eq_true, Bool.and_eq_true, decide_eq_true_eq]
  split <;> split <;> omega
/-- The place is on the wall. -/
def onB (f : Fm) : Bool := inB f.a 0 ((rowAt f.W f.h).length - 1)
theorem onB_eq {sy st : Int} {f : Fm} (h : fmB sy st f = true) : onB f = !(decide (f.a < 0) || decide (f.a = (rowAt f.W f.h).length)) := by
  have h1 : atB f = true := by unfold fmB at h; simp only [Bool.and_eq_true] at h; exact h.2
  unfold atB inB at h1
  unfold onB inB
  rw [Bool.eq_iff_iff]
  simp only [Bool.or_eq_true, Bool.and_eq_true, decide_eq_true_eq, Bool.not_eq_true', Bool.or_eq_false_iff, decide_eq_false_iff_not] at h1 ⊢
  omega

theorem fmB_parts {sy st : Int} {f : Fm} (h : fmB sy st f = true) : 0 ≤ f.h ∧ f.h ≤ f.R.length ∧ f.W.length = f.R.length + 1 ∧ f.O.length = f.R.length ∧ 1 ≤ f.R.length ∧ f.R.length ≤ 3 ∧ -1 ≤ f.a ∧ f.a ≤ (rowAt f.W f.h).length ∧ 0 ≤ f.q ∧ f.q ≤ st - 1 := by
  unfold fmB at h
  simp only [Bool.and_eq_true] at h
  obtain ⟨⟨⟨⟨⟨h1, _⟩, _⟩, _⟩, h2⟩, h3⟩ := h
  obtain ⟨h4, h5, h6, h7, h8⟩ := shapeB_iff.1 h1
  unfold inB at h2 h4
  unfold atB inB at h3
  simp only [Bool.and_eq_true, decide_eq_true_eq, Bool.or_eq_true] at h2 h3 h4
  omega
theorem machB_bounds {sy st : Int} {rs : List R3} (h : machB sy st rs = true) : 2 ≤ sy ∧ sy ≤ 6 ∧ 1 ≤ st ∧ st ≤ 1000 := by
  unfold machB inB at h
  simp only [Bool.and_eq_true, decide_eq_true_eq] at h
  omega

/-- Every other element, from the first and from the second on. -/
def evens {α : Type} : List α → List α
  | [] => []
  | [a] => [a]
  | a :: _ :: t => a :: evens t
def odds {α : Type} : List α → List α
  | [] => []
  | [_] => []
  | _ :: b :: t => b :: odds t
theorem evens_snoc {α : Type} (y : α) : ∀ xs : List α, evens (xs ++ [y]) = (if xs.length % 2 = 0 then evens xs ++ [y] else evens xs) ∧ odds (xs ++ [y]) = (if xs.length % 2 = 0 then odds xs else odds xs ++ [y])
  | [] => ⟨rfl, rfl⟩
  | [a] => ⟨rfl, rfl⟩
  | a :: b :: t => by
    have ih := evens_snoc y t
    have e : (a :: b :: t).length % 2 = t.length % 2 := by simp; omega
    rw [e]
    show (a :: evens (t ++ [y]) = _) ∧ (b :: odds (t ++ [y]) = _)
    rw [ih.1, ih.2]
    constructor <;> split <;> rfl
theorem take_snoc {α : Type} {xs : List α} {x : α} {k : Nat} (h : xs[k]? = some x) : xs.take (k + 1) = xs.take k ++ [x] := by
  rw [List.take_add_one, h]; rfl
theorem evens_take {α : Type} {xs : List α} {x : α} {k : Nat} (h : xs[k]? = some x) :
    evens (xs.take (k + 1)) = (if k % 2 = 0 then evens (xs.take k) ++ [x] else evens (xs.take k)) ∧ odds (xs.take (k + 1)) = (if k % 2 = 0 then odds (xs.take k) else odds (xs.take k) ++ [x]) := by
  have hk : k < xs.length := (List.getElem?_eq_some_iff.1 h).1
  rw [take_snoc h]
  have e : (xs.take k).length = k := by rw [List.length_take]; omega
  have := evens_snoc x (xs.take k)
  rwa [e] at this
theorem evens_len {α : Type} : ∀ xs : List α, (evens xs).length = (xs.length + 1) / 2 ∧ (odds xs).length = xs.length / 2
  | [] => by simp [evens, odds]
  | [a] => by simp [evens, odds]
  | a :: b :: t => by
    have ih := evens_len t
    simp only [evens, odds, List.length_cons]
    omega

theorem evens_mem {α : Type} : ∀ {xs : List α} {x : α}, (x ∈ evens xs → x ∈ xs) ∧ (x ∈ odds xs → x ∈ xs)
  | [], _ => ⟨id, id⟩
  | [a], x => ⟨id, fun h => by cases h⟩
  | a :: b :: t, x => by
    have ih := @evens_mem α t x
    simp only [evens, odds, List.mem_cons]
    exact ⟨fun h => h.elim .inl fun h => .inr (.inr (ih.1 h)), fun h => h.elim (fun h => .inr (.inl h)) fun h => .inr (.inr (ih.2 h))⟩

/-- What FormulaOf returns. -/
def buildF (q h a : Int) (xss : List (List Int)) (r : Nat) : Fm := ⟨q, h, a, evens xss, odds xss, List.replicate r 0⟩
def bounceB (q : Int) (xs : List Int) (xss : List (List Int)) : Bool := decide (q = 6) && decide (5 ≤ xs.length) && decide (xs.length ≤ 7) && decide (xss.length + 7 = 2 * xs.length) && inB (xs.getD 0 0) 0 20000
def bounceF (sy st : Int) (rs : List R3) (xs : List Int) (xss : List (List Int)) : Fm × Int :=
  if aliveB sy rs blankC (xs.getD 0 0).toNat then
    let f := buildF (itC sy rs blankC (xs.getD 0 0).toNat).q (xs.getD 2 0) (xs.getD 3 0) xss (xs.length - 4)
    if fmB sy st f && onB f then (f, 0) else (Fm.zero, 9)
  else (Fm.zero, 6)
def formulaOfF (sy st : Int) (rs : List R3) (q : Int) (xs : List Int) (xss : List (List Int)) : Fm × Int :=
  if machB sy st rs && validProofB q xs xss then (if bounceB q xs xss then bounceF sy st rs xs xss else (Fm.zero, 2)) else (Fm.zero, 1)

/-- The rule for a state and a symbol. -/
def ruleAt (sy : Int) (rs : List R3) (q s : Int) : R3 := rs.getD (q * sy + s).toNat ⟨0, 0, -1⟩
/-- A machine on a word until the head leaves it. -/
def shiftGo (sy : Int) (rs : List R3) (q side : Int) : Nat → List Int → Int → Int → Option (List Int)
  | 0, _, _, _ => none
  | n + 1, out, at_, now =>
    let r := ruleAt sy rs now (out.getD at_.toNat 0)
    if isRuleB r then
      (if inB (at_ + r.b) 0 (out.length - 1) then shiftGo sy rs q side n (out.set at_.toNat r.a) (at_ + r.b) r.c
       else if r.b = side ∧ r.c = q then some (out.set at_.toNat r.a) else none)
    else none
def startAt (w : List Int) (side : Int) : Int := if side = -1 then (w.length : Int) - 1 else 0
def shiftF (sy : Int) (rs : List R3) (q : Int) (w : List Int) (side : Int) : Option (List Int) := shiftGo sy rs q side 200 w (startAt w side) q
/-- The first or the last wall longer by a blank. -/
def widenF (f : Fm) : Fm :=
  if f.a = -1 ∧ f.h = 0 then { f with W := f.W.set 0 (0 :: rowAt f.W 0), a := 0 }
  else if f.a = (rowAt f.W f.h).length ∧ f.h = (f.W.length : Int) - 1 then { f with W := f.W.set f.h.toNat (rowAt f.W f.h ++ [0]) } else f
def wallF (f : Fm) (r : R3) : Fm := widenF { f with W := f.W.set f.h.toNat ((rowAt f.W f.h).set f.a.toNat r.a), q := r.c, a := f.a + r.b }
def passF (f : Fm) (i side : Int) (w : List Int) : Fm :=
  widenF { f with R := f.R.set i.toNat w, h := (if side = 1 then i + 1 else i), a := (if side = -1 then ((rowAt f.W i).length : Int) - 1 else 0) }
def unrollF (f : Fm) (i side : Int) : Fm :=
  if side = 1 then { f with W := f.W.set i.toNat (rowAt f.W i ++ rowAt f.R i), O := f.O.set i.toNat (f.O.getD i.toNat 0 - 1) }
  else { f with W := f.W.set (i + 1).toNat (rowAt f.R i ++ rowAt f.W (i + 1)), a := ((rowAt f.R i).length : Int) - 1, O := f.O.set i.toNat (f.O.getD i.toNat 0 - 1) }
/-- One step ahead of the test of sizes: none is a place without a rule. -/
def moveF (sy : Int) (rs : List R3) (f : Fm) : Option (Fm × Int) :=
  if onB f then
    let r := ruleAt sy rs f.q ((rowAt f.W f.h).getD f.a.toNat 0)
    if isRuleB r then some (wallF f r, 0) else none
  else
    let side : Int := if f.a = -1 then -1 else 1
    let i : Int := if f.a = -1 then f.h - 1 else f.h
    match shiftF sy rs f.q (rowAt f.R i) side with
    | some w => some (passF f i side w, 1)
    | none => some (unrollF f i side, 2)
/-- A step: the formula tape, the kind and the code. -/
def nextFm (sy st : Int) (rs : List R3) (f : Fm) : Fm × Int × Int :=
  match moveF sy rs f with
  | none => (Fm.zero, 0, 6)
  | some (g, kd) => if fmB sy st g then (g, kd, 0) else (Fm.zero, 0, 5)
def stepFormF (sy st : Int) (rs : List R3) (f : Fm) : Fm × Int × Int :=
  if machB sy st rs && fmB sy st f then nextFm sy st rs f else (Fm.zero, 0, 1)
def runFm (sy st : Int) (rs : List R3) : Nat → Fm → Fm × Int
  | 0, f => (f, 0)
  | n + 1, f => if (nextFm sy st rs f).2.2 = 0 then runFm sy st rs n (nextFm sy st rs f).1 else (Fm.zero, (nextFm sy st rs f).2.2)
def runFormF (sy st : Int) (rs : List R3) (f : Fm) (n : Int) : Fm × Int :=
  if machB sy st rs && fmB sy st f then (if inB n 0 400 then runFm sy st rs n.toNat f else (Fm.zero, 2)) else (Fm.zero, 1)
end Go.Proofs.Ytbpofkggoolmpaa
