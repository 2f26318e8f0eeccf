/-
  Contracts of the reference's l09Step and StepTag.
-/
import Derived.Test.YtgkdfjbffnlnpaaTagS
import Derived.Test.YtgkdfjbffnlnpaaTagK
namespace Go.Proofs.Ytgkdfjbffnlnpaa
open Go.RowKit

def SpecStep (w : World) (ys : List Int) (b : Bool) (e : Ending) (w' : World) : Prop :=
  ∃ A c, e = .returned (.tuple #[.slice A ys.length c, .bool b]) ∧ Own w' w.heap.size 2 1 A ys.length c (ints ys) ∧ Below w.heap.size w w'

set_option maxHeartbeats 2000000 in
theorem l09Step_any (g : Nat) (d : Int) (A : Option Addr) (n c : Nat) (ts : List Sl) (B : Option Addr) (m k : Nat) (C : Option Addr) (l r x0 : Nat) (xs : List Int) (t : Sl) (w : World) (ht : TagAt w g d A n c B m k) (hx : SII w A n ts) (hz : SI w C l xs)
    (hl : l ≤ 1048576) (hd : 1 ≤ d) (hdl : d ≤ l) (h0 : Hid (xs.headD 0 = (x0 : Int))) (hT : Hid (ts[x0]? = some t)) (hx0 : x0 < n) (htl : t.xs.length ≤ 1040000) (hl2 : l ≤ 1000) :
    Calls Try.prog 18 #[.pointer (some ⟨g, 0, none⟩), .slice C l r] w (SpecStep w ((xs ++ t.xs).drop d.toNat) (decide ((xs ++ t.xs).length ≤ 1000))) := by
  have hgz := ht.lt
  obtain ⟨k0, k1, k2⟩ := ht
  have hl0 : 0 < l := by omega
  obtain ⟨b, off, rfl, hbl, hc⟩ := SI.at0 (xs := xs) hz hl0
  rw [h0.out] at hc
  obtain ⟨t', b', off', hT', htm, rfl, hbl', hc', hrow⟩ := hx.pick hx0
  obtain rfl : t = t' := by have h1 := hT.out; have h2 := hT'.out; rw [h1] at h2; simpa using h2
  clear hT'
  have i1 : (0 : Int) ≤ (x0 : Int) := by omega
  have i2 : (x0 : Int) < (n : Int) := by omega
  have i3 : (0 : Int) < (l : Int) := by omega
  have HXL := Lib.hid hz.len
  go_enter Try.func18, Try.ntmps18
  go_upto_region 1 with fail
  go_cut [6] (fun s6 wx => ∃ A2 c2, s6 = .slice A2 (l + t.xs.length) c2 ∧ Own wx w.heap.size 2 1 A2 (l + t.xs.length) c2 (ints (xs ++ t.xs)) ∧ Below w.heap.size w wx)
  case first =>
    go_region_held3 (fun w' => w'.cell? ⟨g, 1, none⟩ = some (.slice (some ⟨b', off', none⟩) n c) ∧ w'.cell? ⟨b, off, none⟩ = some (.int .i64 x0) ∧ w'.cell? ⟨b', off' + x0, none⟩ = some (.slice t.A t.xs.length t.c))
      (first
        | (go_keep; done)
        | (exact ⟨(hb3.cell (p := ⟨g, 1, none⟩) hgz).trans k1, (hb3.cell (p := ⟨b, off, none⟩) hbl).trans hc, (hb3.cell (p := ⟨b', off' + x0, none⟩) hbl').trans hc'⟩)
        | (exact ⟨(hb2.cell (p := ⟨g, 1, none⟩) hgz).trans k1, (hb2.cell (p := ⟨b, off, none⟩) hbl).trans hc, (hb2.cell (p := ⟨b', off' + x0, none⟩) hbl').trans hc'⟩))
      (first
        | (go_at_call 29; refine (l00Own_any _ _ _ xs _ (hz.drewN 1) hl).mono ?_; rintro e w2 ⟨A2, c2, rfl, ho2, hb2'⟩; have hb2 : Below w.heap.size w w2 := below_undrew hb2')
        | (refine step_append_Own rfl (.tmp 8) (.tmp 17) rfl elI (lo := w.heap.size) rfl (by exact ho2) rfl (by exact hrow.below (w' := w2) hb2) (ints_one t.xs) (by have := HXL.out; omega) (by have := HXL.out; simp only [maxLen]; omega) (by exact hb2.size) ?_; intro A3 c3 w3 ho3 hg3 hw3; have hb3 : Below w.heap.size w w3 := ho2.below_of hb2 hg3 hb2.size))
    go_wp2_with fail
    go_meet
    have e1 := HXL.out
    rw [e1] at ho3
    refine ⟨A3, c3, by rw [e1], ?_, hb3⟩
    rw [← ints_append]; exact ho3
  case rest =>
    obtain ⟨A2, c2, rfl, ho3, hb3⟩ := hcut
    obtain ⟨dn, rfl⟩ := Int.eq_ofNat_of_zero_le (show 0 ≤ d by omega)
    have hdn : dn ≤ l + t.xs.length := by omega
    have hcap := ho3.le
    have m0 := (hb3.cell (p := ⟨g, 0, none⟩) hgz).trans k0
    clear k0 k1 k2 hc hc'
    have ho4 := ho3.from_ hdn
    rw [ints_drop] at ho4
    have e1 : ((xs ++ t.xs).drop dn).length = l + t.xs.length - dn := by rw [List.length_drop, List.length_append, HXL.out]
    have E1 := Lib.hid e1
    clear e1
    have hA : Hid (c2 = dn → Own wc w.heap.size 2 1 A2 (l + t.xs.length - dn) (c2 - dn) (ints ((xs ++ t.xs).drop dn))) := fun h => by rw [if_pos h] at ho4; exact ho4
    have hB : Hid (¬ c2 = dn → Own wc w.heap.size 2 1 (Option.map (fun x => x.add dn) A2) (l + t.xs.length - dn) (c2 - dn) (ints ((xs ++ t.xs).drop dn))) := fun h => by rw [if_neg h] at ho4; exact ho4
    clear ho4
    have hwz : w.heap.size ≤ wc.heap.size := hb3.size
    generalize hys : (xs ++ t.xs).drop dn = ys at *
    have HYS := Lib.hid hys
    clear hys
    go_wp2_with fail
    · refine (l00Own_any _ _ _ ys _ (show SI _ _ _ _ from (hA.out (by assumption)).rd) (by omega)).mono ?_
      rintro e w4 ⟨A4, c4, rfl, ho5, hb5⟩
      go_wp2_with fail
      go_ret2
      refine ⟨A4, c4, ?_, ?_, hb3.trans (hb5.mono hwz)⟩
      · rw [Int.toNat_natCast, HYS.out, List.length_append, HXL.out]
        have : decide ((l : Int) + (t.xs.length : Int) ≤ 1000) = decide (l + t.xs.length ≤ 1000) := by rw [decide_eq_decide]; omega
        rw [← this]; rfl
      · rw [Int.toNat_natCast, HYS.out]; exact ho5.mono hwz
    · refine (l00Own_any _ _ _ ys _ (show SI _ _ _ _ from (hB.out (by assumption)).rd) (by omega)).mono ?_
      rintro e w4 ⟨A4, c4, rfl, ho5, hb5⟩
      go_wp2_with fail
      go_ret2
      refine ⟨A4, c4, ?_, ?_, hb3.trans (hb5.mono hwz)⟩
      · rw [Int.toNat_natCast, HYS.out, List.length_append, HXL.out]
        have : decide ((l : Int) + (t.xs.length : Int) ≤ 1000) = decide (l + t.xs.length ≤ 1000) := by rw [decide_eq_decide]; omega
        rw [← this]; rfl
      · rw [Int.toNat_natCast, HYS.out]; exact ho5.mono hwz

set_option maxHeartbeats 1000000 in
theorem specStepTag_any (d : Int) (A : Option Addr) (n c : Nat) (ts : List Sl) (B : Option Addr) (m k : Nat) (hs : List Int) (C : Option Addr) (l r : Nat) (xs : List Int) (w : World) (hx : SII w A n ts) (hy : SI w B m hs) (hz : SI w C l xs) (hn : n ≤ 1048576) (hm : m ≤ 1048576) (hl : l ≤ 1048576) (hns : ∀ t ∈ ts, t.xs.length ≤ 1048576) :
    Calls Try.prog 5 #[.agg #[.int .i64 d, .slice A n c, .slice B m k], .slice C l r] w (NewI2 w (stepTagF d (nums ts) hs xs)) := by
  have hx1 := hx.alloc (.cells #[.int .i64 d, .slice A n c, .slice B m k] 29)
  have hy1 := hy.alloc (.cells #[.int .i64 d, .slice A n c, .slice B m k] 29)
  have hz1 := hz.alloc (.cells #[.int .i64 d, .slice A n c, .slice B m k] 29)
  have ht1 : TagAt (w.alloc (.cells #[.int .i64 d, .slice A n c, .slice B m k] 29)) w.heap.size d A n c B m k := ⟨box_at (Below.refl _ _) 0, box_at (Below.refl _ _) 1, box_at (Below.refl _ _) 2⟩
  have hb1 : Below w.heap.size w (w.alloc (.cells #[.int .i64 d, .slice A n c, .slice B m k] 29)) := (Below.refl _ _).alloc (Nat.le_refl _) _
  go_enter Try.func5, Try.ntmps5
  go_wp2_with fail
  refine (l09Ask_any _ _ _ _ _ ts _ _ _ hs _ _ _ xs _ ht1 hx1 hy1 hz1 hn hm hl (fun t ht => by have := hns t ht; omega)).mono ?_
  rintro e w2 ⟨rfl, q, rfl⟩
  rcases tagCode_01 d (nums ts) hs xs with hcode | hcode
  · have HC := Lib.hid hcode
    obtain ⟨v1, v2, v3, v4, v5, v6, v7, v8⟩ := tagCode_parts hcode
    have HX := Lib.hid v5
    have HV := Lib.hid v8
    rw [hcode]
    clear hcode v3 v5 v8
    go_wp2_with fail
    refine (l09Halts_any _ _ _ _ _ _ _ _ hs _ _ _ xs _ (ht1.drewN q) (hy1.drewN q) (hz1.drewN q) hm hl v1).mono ?_
    rintro e w3 ⟨rfl, q3, rfl⟩
    cases hh : haltsB d hs xs
    · have HH := Lib.hid hh
      clear hh
      have hdl := haltsB_false HH.out
      have HNL : Hid ((nums ts).length = n) := by show _ = _; have := hx.len; simpa [nums] using this
      have HXL := Lib.hid hz.len
      obtain ⟨x0, hx0, hx0e⟩ := head_letter (xs := xs) (n := n) (by omega) (by intro x hx'; have := HX.out x hx'; rw [HNL.out] at this; exact this)
      obtain ⟨t, hT⟩ : ∃ t, ts[x0]? = some t := ⟨ts[x0]'(by have := hx.len; omega), List.getElem?_eq_getElem _⟩
      have HF := Lib.hid (stepTag_steps HC.out HH.out (word := t.xs) (by rw [hx0e]; simp [nums, hT]))
      have HT := Lib.hid hT
      have HX0 := Lib.hid hx0e
      have htl : t.xs.length ≤ 1000 := HV.out t.xs (by simp only [nums, List.mem_map]; exact ⟨t, List.mem_of_getElem? hT, rfl⟩)
      clear hT hx0e
      go_wp2_with fail
      refine (l09Step_any _ _ _ _ _ ts _ _ _ _ _ _ x0 xs t _ (ht1.drewN (q + q3)) (hx1.drewN (q + q3)) (hz1.drewN (q + q3)) hl v1 (by have := HXL.out; omega) HX0 HT hx0 (by omega) (by have := HXL.out; omega)).mono ?_
      rintro e w5 ⟨Q5, r5, rfl, ho5, hb5⟩
      have hB5 : Below w.heap.size w w5 := hb1.trans (below_undrew (hb5.mono (by simp)))
      generalize hys : (xs ++ t.xs).drop d.toNat = ys at *
      have HYS := Lib.hid hys
      clear hys
      by_cases hroom : (xs ++ t.xs).length ≤ 1000
      · have HF2 : Hid (stepTagF d (nums ts) hs xs = (ys, 0)) := by show _ = _; rw [HF.out, if_pos hroom]
        have hdec : decide ((xs ++ t.xs).length ≤ 1000) = true := by simpa using hroom
        rw [hdec]
        clear hdec
        go_wp2_with fail
        go_ret2
        rw [HF2.out]
        exact ⟨Q5, r5, rfl, ho5.mono (by simp), hB5⟩
      · have HF2 : Hid (stepTagF d (nums ts) hs xs = ([], 5)) := by show _ = _; rw [HF.out, if_neg hroom]
        have hdec : decide ((xs ++ t.xs).length ≤ 1000) = false := by simpa using hroom
        rw [hdec]
        clear hdec
        go_wp2_with fail
        go_ret2
        rw [HF2.out]
        exact ⟨none, 0, rfl, Own.nil, hB5⟩
    · have HF := Lib.hid (stepTag_halts HC.out hh)
      clear hh
      go_wp2_with fail
      go_ret2
      rw [HF.out]
      exact ⟨none, 0, rfl, Own.nil, below_drewN hb1 _⟩
  · have HF := Lib.hid (stepTag_bad hcode)
    rw [hcode]
    clear hcode
    go_wp2_with fail
    go_ret2
    rw [HF.out]
    exact ⟨none, 0, rfl, Own.nil, below_drewN hb1 _⟩
end Go.Proofs.Ytgkdfjbffnlnpaa
