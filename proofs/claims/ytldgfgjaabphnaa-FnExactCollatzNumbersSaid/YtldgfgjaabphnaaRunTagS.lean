/-
  Contracts of the reference's l09Run and RunTag.
-/
import Derived.Test.YtldgfgjaabphnaaRunTagI
import Derived.Test.YtldgfgjaabphnaaTagT0
namespace Go.Proofs.Ytldgfgjaabphnaa
open Go.RowKit

/-- l09Halts and l09Step in the words of a system. -/
theorem l09Halts_g {d : Int} {A B C : Option Addr} {n c m k r g : Nat} {hs xs : List Int} {w : World} (ht : TagAt w g d A n c B m k) (hy : SI w B m hs) (hz : SI w C xs.length xs) (hm : m ≤ 1048576) (hl : xs.length ≤ 1048576) (hd : 1 ≤ d) :
    Calls Try.prog 71 #[.pointer (some ⟨g, 0, none⟩), .slice C xs.length r] w fun e w' => e = .returned (.bool (haltsB d hs xs)) ∧ ∃ q, w' = w.drewN q := l09Halts_any g d A n c B m k hs C _ r xs w ht hy hz hm hl hd
theorem l09Step_g {d : Int} {A B C : Option Addr} {n c m k r g : Nat} {ts : List Sl} {hs xs : List Int} {w : World} (ht : TagAt w g d A n c B m k) (hx : SII w A n ts) (hz : SI w C xs.length xs) (hc : tagCodeF d (nums ts) hs xs = 0) (hh : haltsB d hs xs = false) :
    Calls Try.prog 72 #[.pointer (some ⟨g, 0, none⟩), .slice C xs.length r] w (SpecStep w ((tagSys d (nums ts) hs).next xs) ((tagSys d (nums ts) hs).room xs)) := by
  obtain ⟨v1, v2, v3, v4, v5, v6, v7, v8⟩ := tagCode_parts hc
  have hdl : d ≤ xs.length := haltsB_false hh
  have hnl : (nums ts).length = n := by have := hx.len; simpa [nums] using this
  obtain ⟨x0, hx0, hx0e⟩ := head_letter (xs := xs) (n := n) (by omega) (by intro x hx'; have := v5 x hx'; rw [hnl] at this; exact this)
  have hlt : x0 < ts.length := by have := hx.len; omega
  have hT : ts[x0]? = some ts[x0] := List.getElem?_eq_getElem hlt
  have hw : tagWordOf (nums ts) xs = ts[x0].xs := by unfold tagWordOf; rw [hx0e]; simp [nums, hT]
  have htl : ts[x0].xs.length ≤ 1000 := v8 _ (List.mem_map.2 ⟨ts[x0], List.getElem_mem hlt, rfl⟩)
  have := l09Step_any g d A n c ts B m k C _ r x0 xs ts[x0] w ht hx hz (by omega) v1 hdl (Lib.hid hx0e) (Lib.hid hT) hx0 (by omega) v4
  rw [← hw] at this
  exact this

def SpecRunT (w : World) (s : Sys (List Int)) (xs : List Int) (N : Nat) (e : Ending) (w' : World) : Prop :=
  ((∃ i A c, s.Ended xs N i ∧ e = .returned (.tuple #[.slice A (s.it xs i).length c, .int .i64 (i : Int), .bool (s.halt (s.it xs i)), .bool true]) ∧ Own w' w.heap.size 2 1 A (s.it xs i).length c (ints (s.it xs i))) ∨
    (∃ i, s.Full xs N i) ∧ e = .returned (.tuple #[.slice none 0 0, .int .i64 0, .bool false, .bool false])) ∧ Below w.heap.size w w'

set_option maxRecDepth 100000 in
set_option maxHeartbeats 4000000 in
theorem l09Run_any (g : Nat) (d : Int) (A : Option Addr) (n c : Nat) (ts : List Sl) (B : Option Addr) (m k : Nat) (hs : List Int) (C : Option Addr) (l r : Nat) (xs : List Int) (N : Nat) (w : World) (ht : TagAt w g d A n c B m k) (hx : SII w A n ts) (hy : SI w B m hs) (hz : SI w C l xs) (hm : m ≤ 1048576) (hc : tagCodeF d (nums ts) hs xs = 0) (hN : N ≤ 1000000) :
    Calls Try.prog 61 #[.pointer (some ⟨g, 0, none⟩), .slice C l r, .int .i64 (N : Int)] w (SpecRunT w (tagSys d (nums ts) hs) xs N) := by
  obtain rfl : xs.length = l := hz.len
  have h4 := (tagCode_parts hc).2.2.2.1
  have hd1 := (tagCode_parts hc).1
  obtain ⟨s, hs_⟩ : ∃ s, s = tagSys d (nums ts) hs := ⟨_, rfl⟩
  rw [← hs_]
  have HS := Lib.hid hs_
  clear hs_
  have HG : Hid (∀ i, s.Alive xs i → tagCodeF d (nums ts) hs (s.it xs i) = 0 ∧ (s.it xs i).length ≤ 1000) := Lib.hid (fun i hi => by
    rw [HS.out] at hi ⊢
    have h1 := tagAlive_good hc hi
    exact ⟨h1, (tagCode_parts h1).2.2.2.1⟩)
  have HC := Lib.hid hc
  clear hc
  go_enter Try.func61, Try.ntmps61
  go_wp2_with fail
  refine (l00Own_any _ _ _ xs _ hz (by omega)).mono ?_
  rintro e w1 ⟨A1, c1, rfl, ho1, hb1⟩
  go_wp2_with fail
  go_loopw [10, 11] (fun v n wr => ∃ (i : Nat) (D : Option Addr) (cd : Nat), n = .int .i64 (i : Int) ∧ v = .slice D (s.it xs i).length cd ∧ i ≤ N ∧ s.Alive xs i ∧ Own wr w.heap.size 2 1 D (s.it xs i).length cd (ints (s.it xs i)) ∧ Below w.heap.size w wr) (fun _ n _ => N - (intOf n).toNat)
  case atStart => exact ⟨0, A1, c1, rfl, rfl, Nat.zero_le _, Sys.Alive.zero _ _, ho1, hb1⟩
  case round =>
    obtain ⟨i, D, cd, rfl, rfl, hi, hal, ho, hb⟩ := hrel
    obtain ⟨hcode, hlen⟩ := HG.out i hal
    have HAL := Lib.hid hal
    have HCODE := Lib.hid hcode
    clear hal hcode ho1 hb1
    have hhalt := l09Halts_g (C := D) (r := cd) (xs := s.it xs i) (ht.below hb) (hy.below hb) ho.rd hm (by omega) hd1
    have HHALT := Lib.hid hhalt
    have HSH : Hid (s.halt (s.it xs i) = haltsB d hs (s.it xs i)) := Lib.hid (by rw [HS.out]; rfl)
    clear hhalt
    by_cases hlt : i < N
    · go_wp2_with fail
      refine HHALT.out.mono ?_
      rintro e w' ⟨rfl, q, rfl⟩
      have ho2 := ho.drewN q
      have hb2 := below_drewN hb q
      generalize wr.drewN q = W2 at *
      cases hh : haltsB d hs (s.it xs i) with
      | true =>
        have HH := Lib.hid (HSH.out.trans hh)
        clear hh
        go_wp2_with fail
        exact bodyPost_ret (v := .tuple #[.slice D (s.it xs i).length cd, .int .i64 (i : Int), .bool true, .bool true]) (by simp [results, Try.results61, go_sem]) rfl ⟨.inl ⟨i, D, cd, ⟨hi, HAL.out, .inr HH.out⟩, by rw [HH.out], ho2⟩, hb2⟩
      | false =>
        have HH := Lib.hid (HSH.out.trans hh)
        have hstep := l09Step_g (C := D) (r := cd) (xs := s.it xs i) (ht.below hb2) (hx.below hb2) ho2.rd HCODE.out hh
        rw [← HS.out] at hstep
        have HSTEP := Lib.hid hstep
        clear hh hstep
        go_wp2_with fail
        refine HSTEP.out.mono ?_
        rintro e W3 ⟨A3, c3, rfl, ho3, hb3⟩
        have hb4 : Below w.heap.size w W3 := hb2.trans (hb3.mono hb2.size)
        cases hr : s.room (s.it xs i) with
        | true =>
          have HR := Lib.hid hr
          clear hr
          go_wp2_with fail
          go_roundw
          case rel => exact ⟨i + 1, A3, c3, by go_num, rfl, by omega, HAL.out.step HH.out HR.out, ho3.mono hb2.size, hb4⟩
          case measure => simp [intOf]; omega
        | false =>
          have HR := Lib.hid hr
          clear hr
          go_wp2_with fail
          exact bodyPost_ret (v := .tuple #[.slice none 0 0, .int .i64 0, .bool false, .bool false]) (by simp [results, Try.results61, go_sem]) rfl ⟨.inr ⟨⟨i, hlt, HAL.out, HH.out, HR.out⟩, rfl⟩, hb4⟩
    · have hiN : i = N := by omega
      have HIN := Lib.hid hiN
      clear hiN
      go_wp2_with fail
      refine HHALT.out.mono ?_
      rintro e w' ⟨rfl, q, rfl⟩
      go_wp2_with fail
      exact bodyPost_ret (v := .tuple #[.slice D (s.it xs i).length cd, .int .i64 (N : Int), .bool (haltsB d hs (s.it xs i)), .bool true]) (by simp [results, Try.results61, go_sem]) rfl ⟨.inl ⟨i, D, cd, ⟨hi, HAL.out, .inl HIN.out⟩, by rw [HSH.out, HIN.out], ho.drewN q⟩, below_drewN hb q⟩

set_option maxRecDepth 100000 in
set_option maxHeartbeats 4000000 in
theorem runTagS_any (d : Int) (A : Option Addr) (n c : Nat) (ts : List Sl) (B : Option Addr) (m k : Nat) (hs : List Int) (C : Option Addr) (l r : Nat) (xs : List Int) (b : Int) (w : World) (hx : SII w A n ts) (hy : SI w B m hs) (hz : SI w C l xs) (hn : n ≤ 1048576) (hm : m ≤ 1048576) (hns : ∀ t ∈ ts, t.xs.length ≤ 1048576) (hl : l ≤ 1048576) :
    Calls Try.prog 14 #[.agg #[.int .i64 d, .slice A n c, .slice B m k], .slice C l r, .int .i64 b] w (NewI4 w (runTagF d (nums ts) hs xs b)) := by
  obtain ⟨W, hW_⟩ : ∃ W, W = w.alloc (.cells #[.int .i64 d, .slice A n c, .slice B m k] 29) := ⟨_, rfl⟩
  have b0 : Blk W w.heap.size 29 #[.int .i64 d, .slice A n c, .slice B m k] := by rw [hW_]; exact Blk.new w _ _
  have y0 : Below w.heap.size w W := by rw [hW_]; exact (Below.refl _ _).alloc (Nat.le_refl _) _
  have HW := Lib.hid hW_
  clear hW_
  have ht : TagAt W w.heap.size d A n c B m k := ⟨b0.cell 0, b0.cell 1, b0.cell 2⟩
  have HNS := Lib.hid hns
  clear hns
  go_enter Try.func14, Try.ntmps14
  go_wp2_with fail
  rw [← HW.out]
  refine (l09Ask_any _ _ _ _ _ ts _ _ _ hs _ _ _ xs _ ht (hx.below y0) (hy.below y0) (hz.below y0) hn hm hl (fun t ht => by have := HNS.out t ht; omega)).mono ?_
  rintro e w' ⟨rfl, q, rfl⟩
  have y2 := below_drewN y0 q
  have t2 := ht.drewN q
  generalize W.drewN q = w2 at *
  rcases tagCode_01 d (nums ts) hs xs with hcode | hcode
  rotate_left
  · have HF := Lib.hid (runTagF_bad (b := b) hcode)
    rw [hcode]
    clear hcode
    go_wp2_with fail
    exact bodyPost_ret (v := .tuple #[.slice none 0 0, .int .i64 0, .bool false, .int .i64 1]) (by simp [results, Try.results14, go_sem]) rfl (i4_nil HF.out y2)
  have HC := Lib.hid hcode
  rw [hcode]
  clear hcode
  cases a2 : inB b 1 20000
  · have HF := Lib.hid (runTagF_range HC.out a2)
    have A2 := Lib.hid a2
    clear a2
    go_wp2_with (go_at_call 60; refine (l05Budget_is A2.out _).mono ?_; rintro e w' ⟨rfl, rfl⟩)
    exact bodyPost_ret (v := .tuple #[.slice none 0 0, .int .i64 0, .bool false, .int .i64 2]) (by simp [results, Try.results14, go_sem]) rfl (i4_nil HF.out y2)
  have A2 := Lib.hid a2
  have hb := (inB_iff _ _ _).1 a2
  obtain ⟨N, rfl⟩ : ∃ N : Nat, b = (N : Int) := ⟨b.toNat, by omega⟩
  clear a2
  go_wp2_with (go_at_call 60; refine (l05Budget_is A2.out _).mono ?_; rintro e w' ⟨rfl, rfl⟩)
  refine (l09Run_any _ _ _ _ _ ts _ _ _ hs _ _ _ xs N _ t2 (hx.below y2) (hy.below y2) (hz.below y2) hm HC.out (by omega)).mono ?_
  rintro e w4 ⟨(⟨i, A4, c4, hen, rfl, ho⟩ | ⟨⟨i, hfu⟩, rfl⟩), z4⟩
  · have HF := Lib.hid (runTagF_ended HC.out A2.out hen)
    clear hen
    go_wp2_with fail
    exact bodyPost_ret (v := .tuple #[.slice A4 ((tagSys d (nums ts) hs).it xs i).length c4, .int .i64 (i : Int), .bool ((tagSys d (nums ts) hs).halt ((tagSys d (nums ts) hs).it xs i)), .int .i64 0]) (by simp [results, Try.results14, go_sem]) rfl (i4_of HF.out rfl (ho.mono y2.size) (y2.trans (z4.mono y2.size)))
  · have HF := Lib.hid (runTagF_full HC.out A2.out hfu)
    clear hfu
    go_wp2_with fail
    exact bodyPost_ret (v := .tuple #[.slice none 0 0, .int .i64 0, .bool false, .int .i64 5]) (by simp [results, Try.results14, go_sem]) rfl (i4_nil HF.out (y2.trans (z4.mono y2.size)))
end Go.Proofs.Ytldgfgjaabphnaa
