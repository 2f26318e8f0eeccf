/-
  Contract of the reference's l22Start.
-/
import Derived.Test.YtpleclmlcojkdaaRsI
namespace Go.Proofs.Ytpleclmlcojkdaa
open Go.RowKit

theorem NowS.one {w : World} {lo c1 : Nat} {t : Tr} {A1 : Option Addr} (ho : Own w lo 4 1 A1 t.nodes c1 (bools t.enc)) (hlo : lo ≤ w.heap.size) : NowS (w.alloc (.cells #[.slice A1 t.nodes c1] 24)) lo (some ⟨w.heap.size, 0, none⟩) 1 [t] := by
  refine ⟨[⟨A1, c1, t.enc⟩], rfl, ?_, ?_, by simp [AptB]⟩
  · have h := Own.lit w #[.slice A1 t.nodes c1] 24 1 1 lo rfl (by simp [maxLen]) hlo
    have e1 : Bl.val ⟨A1, c1, t.enc⟩ = .slice A1 t.nodes c1 := by unfold Bl.val; rw [enc_len]
    rw [List.map_singleton, e1]
    exact h
  · intro u hu
    rw [List.mem_singleton.1 hu]
    show Own _ lo 4 1 A1 t.enc.length c1 (bools t.enc)
    rw [enc_len]
    exact ho.alloc _
def fillW (t : Tr) (i : Nat) : List Tr := t :: List.replicate (i - 1) .nil
theorem fillW_len (t : Tr) {i : Nat} (h : 1 ≤ i) : (fillW t i).length = i := by unfold fillW; rw [List.length_cons, List.length_replicate]; omega
theorem fillW_succ (t : Tr) {i : Nat} (h : 1 ≤ i) : fillW t (i + 1) = fillW t i ++ [.nil] := by
  obtain ⟨j, rfl⟩ : ∃ j, i = j + 1 := ⟨i - 1, by omega⟩
  unfold fillW
  rw [Nat.add_sub_cancel, Nat.add_sub_cancel, List.replicate_succ']
  rfl
def StaP (w : World) (t : Tr) (e : Ending) (w' : World) : Prop := ∃ A c, e = .returned (.slice A 6 c) ∧ NowS w' w.heap.size A c (startW t) ∧ Below w.heap.size w w'
set_option maxRecDepth 100000 in
set_option maxHeartbeats 4000000 in
theorem l22Start_any (A : Option Addr) (n c : Nat) (t : Tr) (w : World) (hx : SB w A n t.enc) (hn : n ≤ 1000000) : Calls Try.prog 151 #[.slice A n c] w (StaP w t) := by
  have hl : n = t.nodes := by rw [← enc_len]; exact hx.len.symm
  have HL := Lib.hid hl.symm
  have o0 := Own.lit0 w 4 1
  have y0 : Below w.heap.size w (w.alloc (.cells #[] 4)) := (Below.refl _ _).alloc (Nat.le_refl _) _
  have HX := Lib.hid (hx.alloc (.cells #[] 4))
  clear hl hx
  go_enter Try.func151, Try.ntmps151
  go_upto_region 2 with (at_builtin; refine wpList_append_Own rfl (.tmp 4) (.tmp 5) rfl elBool (lo := w.heap.size) rfl o0 rfl HX.out (bools_one _) (by omega) (by simp only [maxLen]; omega) (by simp) ?_; intro A2 c2 w2 o2 hg2 _; have HO2 := Lib.hid o2; have HZ2 := Lib.hid (y0.grown hg2 (by simp) (fun b hb => by simp [blk] at hb; omega)))
  have hw2 := HZ2.out.size
  have HN0 : Hid (NowS (w2.alloc (.cells #[.slice A2 n c2] 24)) w.heap.size (some ⟨w2.heap.size, 0, none⟩) 1 (fillW t 1)) := Lib.hid (by
    have h := HO2.out
    rw [Nat.zero_add, List.nil_append, ← HL.out] at h
    rw [← HL.out]
    exact NowS.one h hw2)
  have hz0 : Below w.heap.size w (w2.alloc (.cells #[.slice A2 n c2] 24)) := HZ2.out.alloc hw2 _
  clear o0 y0
  go_wp2_with fail
  go_loopw [3] (fun s3 wr => ∃ (i : Nat) (NA : Option Addr) (nc : Nat), 1 ≤ i ∧ i ≤ 6 ∧ s3 = .slice NA i nc ∧ Hid (NowS wr w.heap.size NA nc (fillW t i)) ∧ Below w.heap.size w wr) (fun s3 _ => match s3 with | .slice _ k _ => 6 - k | _ => 0)
  case atStart => exact ⟨1, _, 1, by omega, by omega, by simp, HN0, hz0⟩
  case round =>
    obtain ⟨i, NA, nc, h1, h6, rfl, HN, hz⟩ := hrel
    clear HN0 hz0 hw2
    by_cases hlt : i < 6
    · have i1 : (i : Int) < 6 := by omega
      have hlo := hz.size
      obtain ⟨us, hus1, hus2⟩ := HN.out
      have HU1 := Lib.hid hus1
      have HU2 := Lib.hid hus2
      have HTL : Hid ((fillW t i).length = i) := Lib.hid (fillW_len t h1)
      have o1 : Own (wr.alloc (.cells #[.bool false] 4)) wr.heap.size 4 1 (some ⟨wr.heap.size, 0, none⟩) 1 1 (bools (Tr.nil).enc) := Own.lit wr #[.bool false] _ 1 1 wr.heap.size rfl (by simp [maxLen]) (Nat.le_refl _)
      have y1 : Below wr.heap.size wr (wr.alloc (.cells #[.bool false] 4)) := (Below.refl _ _).alloc (Nat.le_refl _) _
      obtain ⟨W1, hW1⟩ : ∃ W1, W1 = wr.alloc (.cells #[.bool false] 4) := ⟨_, rfl⟩
      rw [← hW1] at o1 y1
      have hs1 : W1.heap.size = wr.heap.size + 1 := by rw [hW1]; simp
      have HO1 := Lib.hid (o1.alloc (.cells #[.slice (some ⟨wr.heap.size, 0, none⟩) 1 1] 24))
      have y2 : Below wr.heap.size wr (W1.alloc (.cells #[.slice (some ⟨wr.heap.size, 0, none⟩) 1 1] 24)) := y1.alloc y1.size _
      have HY2 := Lib.hid y2
      have HUA : Hid (Own (W1.alloc (.cells #[.slice (some ⟨wr.heap.size, 0, none⟩) 1 1] 24)) w.heap.size 24 1 NA i nc (us.map Bl.val)) := Lib.hid (by have h := (HU2.out.below y2).1; rw [HTL.out] at h; exact h)
      rw [hW1] at HUA HO1 HY2 hs1
      have HRD := Lib.hid (Rd.new1 (wr.alloc (.cells #[.bool false] 4)) (.slice (some ⟨wr.heap.size, 0, none⟩) 1 1) 24)
      have HRD2 := Lib.hid HRD.out
      rw [hs1] at HRD2
      have hza : w.heap.size ≤ ((wr.alloc (.cells #[.bool false] 4)).alloc (.cells #[.slice (some ⟨wr.heap.size, 0, none⟩) 1 1] 24)).heap.size := by have := HY2.out.size; omega
      clear hus1 hus2 o1 y1 y2 hW1
      go_wp2_with (at_builtin; refine wpList_append_Own rfl (.tmp 11) (.tmp 13) rfl elBBs (lo := w.heap.size) rfl HUA.out rfl (by first | exact HRD.out | exact HRD2.out) (by intro u hu; rw [List.mem_singleton.1 hu]; rfl) (by omega) (by simp only [maxLen]; omega) hza ?_; intro A3 c3 w3 o3 hg3 _; have HO3 := Lib.hid o3; have HG3 := Lib.hid hg3)
      have HF : Hid (NowS w3 w.heap.size A3 c3 (fillW t (i + 1))) := Lib.hid (by
        rw [fillW_succ t h1]
        refine NowS.push HU1.out HU2.out HY2.out hlo (A1 := some ⟨wr.heap.size, 0, none⟩) (c1 := 1) HO1.out ?_ HG3.out
        rw [HTL.out]; exact HO3.out)
      have hzf : Below w.heap.size w w3 := HUA.out.below_of (hz.trans (HY2.out.mono hlo)) HG3.out hza
      go_roundw
      case rel => exact ⟨i + 1, A3, c3, by omega, by omega, rfl, HF, hzf⟩
      case measure => (show 6 - (i + 1) < 6 - i; omega)
    · obtain rfl : i = 6 := by omega
      have i1 : ¬ ((6 : Nat) : Int) < 6 := by omega
      go_wp2_with fail
      go_ret
      exact ⟨NA, nc, rfl, HN.out, hz⟩
end Go.Proofs.Ytpleclmlcojkdaa
