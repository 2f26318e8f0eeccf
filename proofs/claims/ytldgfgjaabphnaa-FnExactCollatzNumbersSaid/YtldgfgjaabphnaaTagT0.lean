/-
  Contracts of the reference's l09Step and StepTag.
-/
import Derived.Test.YtldgfgjaabphnaaTagS
import Derived.Test.YtldgfgjaabphnaaTagK0
namespace Go.Proofs.Ytldgfgjaabphnaa
open Go.RowKit

def SpecStep (w : World) (ys : List Int) (b : Bool) (e : Ending) (w' : World) : Prop :=
  ∃ A c, e = .returned (.tuple #[.slice A ys.length c, .bool b]) ∧ Own w' w.heap.size 2 1 A ys.length c (ints ys) ∧ Below w.heap.size w w'

set_option maxRecDepth 100000 in
set_option maxHeartbeats 2000000 in
theorem l09Step_any (g : Nat) (d : Int) (A : Option Addr) (n c : Nat) (ts : List Sl) (B : Option Addr) (m k : Nat) (C : Option Addr) (l r x0 : Nat) (xs : List Int) (t : Sl) (w : World) (ht : TagAt w g d A n c B m k) (hx : SII w A n ts) (hz : SI w C l xs)
    (hl : l ≤ 1048576) (hd : 1 ≤ d) (hdl : d ≤ l) (h0 : Hid (xs.headD 0 = (x0 : Int))) (hT : Hid (ts[x0]? = some t)) (hx0 : x0 < n) (htl : t.xs.length ≤ 1040000) (hl2 : l ≤ 1000) :
    Calls Try.prog 72 #[.pointer (some ⟨g, 0, none⟩), .slice C l r] w (SpecStep w ((xs ++ t.xs).drop d.toNat) (decide ((xs ++ t.xs).length ≤ 1000))) := by
  have hgz := ht.lt
  obtain ⟨k0, k1, k2⟩ := ht
  have hl0 : 0 < l := by omega
  obtain ⟨b, off, rfl, hbl, hc⟩ := SI.at0 (xs := xs) hz hl0
  rw [h0.out] at hc
  obtain ⟨t', b', off', hT', htm, rfl, hbl', hc', hrow⟩ := hx.pick hx0
  obtain rfl : t = t' := by have h1 := hT.out; have h2 := hT'.out; rw [h1] at h2; simpa using h2
  clear hT'
  have i1 : (0 : Int) ≤ (x0 : Int) := by omega
  have i2 : (x0 : Int) < (n : Int) := by omega
  have i3 : (0 : Int) < (l : Int) := by omega
  have HXL := Lib.hid hz.len
  go_enter Try.func72, Try.ntmps72
  go_upto_region 1 with fail
  go_cut [6] (fun s6 wx => ∃ A2 c2, s6 = .slice A2 (l + t.xs.length) c2 ∧ Own wx w.heap.size 2 1 A2 (l + t.xs.length) c2 (ints (xs ++ t.xs)) ∧ Below w.heap.size w wx)
  case first =>
    go_region_held3 (fun w' => w'.cell? ⟨g, 1, none⟩ = some (.slice (some ⟨b', off', none⟩) n c) ∧ w'.cell? ⟨b, off, none⟩ = some (.int .i64 x0) ∧ w'.cell? ⟨b', off' + x0, none⟩ = some (.slice t.A t.xs.length t.c))
      (first
        | (go_keep; done)
        | (exact ⟨(hb3.cell (p := ⟨g, 1, none⟩) hgz).trans k1, (hb3.cell (p := ⟨b, off, none⟩) hbl).trans hc, (hb3.cell (p := ⟨b', off' + x0, none⟩) hbl').trans hc'⟩)
        | (exact ⟨(hb2.cell (p := ⟨g, 1, none⟩) hgz).trans k1, (hb2.cell (p := ⟨b, off, none⟩) hbl).trans hc, (hb2.cell (p := ⟨b', off' + x0, none⟩) hbl').trans hc'⟩))
      (first
        | (go_at_call 70; refine (l00Own_any _ _ _ xs _ (hz.drewN 1) hl).mono ?_; rintro e w2 ⟨A2, c2, rfl, ho2, hb2'⟩; have hb2 : Below w.heap.size w w2 := below_undrew hb2')
        | (refine step_append_Own rfl (.tmp 8) (.tmp 17) rfl elI (lo := w.heap.size) rfl (by exact ho2) rfl (by exact hrow.below (w' := w2) hb2) (ints_one t.xs) (by have := HXL.out; omega) (by have := HXL.out; simp only [maxLen]; omega) (by exact hb2.size) ?_; intro A3 c3 w3 ho3 hg3 hw3; have hb3 : Below w.heap.size w w3 := ho2.below_of hb2 hg3 hb2.size))
    go_wp2_with fail
    go_meet
    have e1 := HXL.out
    rw [e1] at ho3
    refine ⟨A3, c3, by rw [e1], ?_, hb3⟩
    rw [← ints_append]; exact ho3
  case rest =>
    obtain ⟨A2, c2, rfl, ho3, hb3⟩ := hcut
    obtain ⟨dn, rfl⟩ := Int.eq_ofNat_of_zero_le (show 0 ≤ d by omega)
    have hdn : dn ≤ l + t.xs.length := by omega
    have hcap := ho3.le
    have m0 := (hb3.cell (p := ⟨g, 0, none⟩) hgz).trans k0
    clear k0 k1 k2 hc hc'
    have ho4 := ho3.from_ hdn
    rw [ints_drop] at ho4
    have e1 : ((xs ++ t.xs).drop dn).length = l + t.xs.length - dn := by rw [List.length_drop, List.length_append, HXL.out]
    have E1 := Lib.hid e1
    clear e1
    have hA : Hid (c2 = dn → Own wc w.heap.size 2 1 A2 (l + t.xs.length - dn) (c2 - dn) (ints ((xs ++ t.xs).drop dn))) := fun h => by rw [if_pos h] at ho4; exact ho4
    have hB : Hid (¬ c2 = dn → Own wc w.heap.size 2 1 (Option.map (fun x => x.add dn) A2) (l + t.xs.length - dn) (c2 - dn) (ints ((xs ++ t.xs).drop dn))) := fun h => by rw [if_neg h] at ho4; exact ho4
    clear ho4
    have hwz : w.heap.size ≤ wc.heap.size := hb3.size
    generalize hys : (xs ++ t.xs).drop dn = ys at *
    have HYS := Lib.hid hys
    clear hys
    go_wp2_with fail
    · refine (l00Own_any _ _ _ ys _ (show SI _ _ _ _ from (hA.out (by assumption)).rd) (by omega)).mono ?_
      rintro e w4 ⟨A4, c4, rfl, ho5, hb5⟩
      go_wp2_with fail
      go_ret2
      refine ⟨A4, c4, ?_, ?_, hb3.trans (hb5.mono hwz)⟩
      · rw [Int.toNat_natCast, HYS.out, List.length_append, HXL.out]
        have : decide ((l : Int) + (t.xs.length : Int) ≤ 1000) = decide (l + t.xs.length ≤ 1000) := by rw [decide_eq_decide]; omega
        rw [← this]; rfl
      · rw [Int.toNat_natCast, HYS.out]; exact ho5.mono hwz
    · refine (l00Own_any _ _ _ ys _ (show SI _ _ _ _ from (hB.out (by assumption)).rd) (by omega)).mono ?_
      rintro e w4 ⟨A4, c4, rfl, ho5, hb5⟩
      go_wp2_with fail
      go_ret2
      refine ⟨A4, c4, ?_, ?_, hb3.trans (hb5.mono hwz)⟩
      · rw [Int.toNat_natCast, HYS.out, List.length_append, HXL.out]
        have : decide ((l : Int) + (t.xs.length : Int) ≤ 1000) = decide (l + t.xs.length ≤ 1000) := by rw [decide_eq_decide]; omega
        rw [← this]; rfl
      · rw [Int.toNat_natCast, HYS.out]; exact ho5.mono hwz

end Go.Proofs.Ytldgfgjaabphnaa
